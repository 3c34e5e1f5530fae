/- Polynomials: the sum of terms: newSum, key. -/
import Derived.Test.YtikfeemmjfoffaaGreatDoorC5
import Derived.Lib.SlBytesRow
set_option linter.unusedVariables false
set_option linter.unusedSimpArgs false
namespace Go.Proofs.YtikfeemmjfoffaaGreatDoor
open Go.RowKit Go.Maps

/-- All but block g is as it was. -/
abbrev KG (g : Nat) (w w' : World) : Prop := w.grownBy w' (some g)
theorem kg_of {g : Nat} {w w' : World} (k : Kept w w') : KG g w w' := ⟨k.os, k.tape, k.output, k.size, fun i hi _ => k.block i hi⟩
theorem kg_trans {g : Nat} {a b c : World} (h : KG g a b) (k : KG g b c) : KG g a c := World.grownBy.trans h k
theorem kg_set {g : Nat} {w w' : World} (h : KG g w w') (j : Nat) (v : Value) : KG g w (w'.setCell ⟨g, j, none⟩ v) :=
  kg_trans h ⟨rfl, rfl, rfl, by simp, fun i hi ne => Below.heap_setCell w' ⟨g, j, none⟩ v i (fun e => ne (by rw [e]))⟩
theorem kept_kg {g : Nat} {w0 w w' : World} (hK : Kept w0 w) (h : KG g w w') (hg : w0.heap.size ≤ g) : Kept w0 w' := hK.grown h hK.size (fun k e => by cases e; exact hg)
theorem Own.kg {g b : Nat} {e : TypeId} {cs : List Value} {w w' : World} (h : Own w b e cs) (k : KG g w w') (ne : b ≠ g) : Own w' b e cs := h.grown k (fun h => ne (by injection h))


theorem kg_alloc {g : Nat} {w w' : World} (h : KG g w w') (o : Obj) : KG g w (w'.alloc o) := kg_trans h (kg_of (kept_alloc (kept_refl _) o))
theorem kg_kept {g : Nat} {w a b : World} (h : KG g w a) (k : Kept a b) : KG g w b := kg_trans h (kg_of k)
/-- Cells that lie in another block than av. -/
def RdX (av : Nat) (w : World) (A : Option Addr) (cs : List Value) : Prop := cs ≠ [] → ∃ b off, A = some ⟨b, off, none⟩ ∧ b ≠ av ∧ ∀ j v, cs[j]? = some v → w.cell? ⟨b, off + j, none⟩ = some v
theorem RdX.rd {av : Nat} {w : World} {A : Option Addr} {cs : List Value} (h : RdX av w A cs) : Rd w A cs := ⟨fun hn => by
  obtain ⟨b, off, e, _, hc⟩ := h hn
  exact ⟨b, off, e, hc⟩⟩
theorem RdX.kg {av : Nat} {w w' : World} {A : Option Addr} {cs : List Value} (h : RdX av w A cs) (k : KG av w w') : RdX av w' A cs := fun hn => by
  obtain ⟨b, off, e, hb, hc⟩ := h hn
  refine ⟨b, off, e, hb, fun j v hj => ?_⟩
  have h1 := hc j v hj
  have hlt := kept_lt h1
  have hblk := k.block b hlt (fun h => hb (Option.some.inj h))
  unfold World.cell? at h1 ⊢
  rw [hblk]
  exact h1
/-- A sum of terms as it lies in memory. -/
structure SumAt (P M : Int) (n g b k : Nat) (T : List Te) (w : World) : Prop where
  o : Own w g 131 [.int .i64 P, .int .i64 M, .map (some b)]
  ne : g ≠ b
  tab : ∃ D, w.ownsMap Tryz.prog 9 termR b k D ∧ Tab D T
  ok : TabOk n T
  within : ∀ x ∈ T, inF P M x.t.c
  ex : ∀ x ∈ T, RdX b w x.E (ints x.t.e)
theorem ownsMap_kept {b k : Nat} {D : DataW Value} {w w' : World} (h : w.ownsMap Tryz.prog 9 termR b k D) (kk : Kept w w') : w'.ownsMap Tryz.prog 9 termR b k D := by
  obtain ⟨es, clock, hb, F, hs, hD⟩ := h
  exact ⟨es, clock, (kk.block b (Array.getElem?_eq_some_iff.1 hb).1).trans hb, F, hs, hD⟩
theorem SumAt.kept {P M : Int} {n g b k : Nat} {T : List Te} {w w' : World} (h : SumAt P M n g b k T w) (kk : Kept w w') : SumAt P M n g b k T w' := by
  obtain ⟨D, h1, h2⟩ := h.tab
  exact ⟨h.o.kept kk, h.ne, ⟨D, ownsMap_kept h1 kk, h2⟩, h.ok, h.within, fun x hx => (h.ex x hx).kg (kg_of kk)⟩
set_option maxRecDepth 100000 in
set_option maxHeartbeats 1000000 in
theorem newSum44_any (P M : Int) (n : Nat) (w : World) : Calls Tryz.prog 66 #[fV P M] w fun e w' => e = .returned (.pointer (some ⟨w.heap.size + 2, 0, none⟩)) ∧ SumAt P M n (w.heap.size + 2) (w.heap.size + 1) 0 [] w' ∧ Kept w w' := by
  unfold fV
  have hmm := @run_makeMap Tryz.prog
  go_enter Tryz.func66, Tryz.ntmps66
  go_wp2_with fail
  go_ret
  exact ⟨rfl, ⟨by have := Own.new ((w.alloc (.cells #[.int .i64 P, .int .i64 M] 23)).alloc (.map #[] 0)) 131 [.int .i64 P, .int .i64 M, .map (some (w.heap.size + 1))]; simpa using this, by omega, ⟨_, by
    have h := World.ownsMap_made (w.alloc (.cells #[.int .i64 P, .int .i64 M] 23)) Tryz.prog 9 termR
    simp only [World.size_alloc] at h
    exact ownsMap_kept h (kept_alloc (kept_refl _) _), tab_new⟩, ⟨List.Pairwise.nil, by simp⟩, by simp, by simp⟩, kept_alloc (kept_alloc (kept_alloc (kept_refl w) _) _) _⟩
def bys (l : List UInt8) : List Value := l.map fun b => .int .u8 b.toNat
@[simp] theorem bys_length (l : List UInt8) : (bys l).length = l.length := by simp [bys]
theorem bys_append (l m : List UInt8) : bys l ++ bys m = bys (l ++ m) := by simp [bys]
theorem one_bys (l : List UInt8) : ∀ u ∈ bys l, u.oneCell' = true := by
  intro u hu
  obtain ⟨b, _, rfl⟩ := List.mem_map.1 hu
  rfl
theorem keyB_len : ∀ l : List Int, (keyB l).length = 2 * l.length
  | [] => rfl
  | x :: l => by simp only [keyB, List.length_cons, keyB_len l]; omega
theorem keyB_snoc : ∀ (l : List Int) (x : Int), keyB (l ++ [x]) = keyB l ++ [UInt8.ofNat (x.toNat / 256), UInt8.ofNat (x.toNat % 256)]
  | [], x => rfl
  | y :: l, x => by simp only [List.cons_append, keyB, keyB_snoc l x]
theorem keyB_take {l : List Int} {k : Nat} (h : k < l.length) : keyB (l.take (k + 1)) = keyB (l.take k) ++ [UInt8.ofNat ((ia l k).toNat / 256), UInt8.ofNat ((ia l k).toNat % 256)] := by
  rw [List.take_succ_eq_append_getElem h, keyB_snoc]
  simp [ia, h]
theorem info5 : (Tryz.prog.info? 5).map (fun i => (i.zero, i.size, i.bytes)) = some (some (.int .u8 0), 1, 1) := by kernel_rfl
set_option maxRecDepth 100000 in
set_option maxHeartbeats 1000000 in
theorem key76_any (l : List Int) (A : Option Addr) (c : Nat) (w : World) (hA : Rd w A (ints l)) (hl : l.length ≤ 1000) (he : ∀ x ∈ l, 0 ≤ x ∧ x ≤ 65535) :
    Calls Tryz.prog 88 #[.slice A l.length c] w fun e w' => e = .returned (.string ⟨(keyB l).toArray⟩) ∧ Kept w w' := by
  obtain ⟨i0, hi, hzz⟩ := Option.map_eq_some_iff.1 info5
  simp only [Prod.mk.injEq] at hzz
  obtain ⟨hz0, hz1, hz2⟩ := hzz
  obtain ⟨w1, hrun, hrow, hgr⟩ := run_make_own w w.heap.size 150 5 i0 (.int .u8 0) 1 Tryz.underlying150 hi hz0 hz1 .i64 .i64 (2 * l.length) (by rw [hz2]; omega) (by unfold maxLen; omega) (Nat.le_refl _)
  have hrun' : (Instr.makeSlice 150 (.int .i64 0) (.int .i64 (2 * (l.length : Int)))).run Tryz.prog w = .ok (.slice (some ⟨w.heap.size, 0, none⟩) 0 (2 * l.length)) w1 := by
    rw [← hrun, Int.natCast_mul]; rfl
  have K1 : Kept w w1 := ⟨hgr.os, hgr.tape, hgr.output, hgr.size, fun i hi => hgr.block i hi (by simp)⟩
  have HA := Lib.hid hA; have HE := Lib.hid he
  clear hrun hgr hz0 hz1 hz2 hi hA he
  go_enter Tryz.func88, Tryz.ntmps88
  go_wp2_with fail
  go_loopg [3, 5, 12] l.length (fun g s3 s5 s12 wr => ∃ (k : Nat) (v3 v5 : Value), k ≤ l.length ∧ g = l.length - k ∧ s3 = v3 ∧ s5 = v5 ∧ s12 = .int .i64 k ∧ wr.ownsRow w.heap.size 5 1 v3 (2 * k) (bys (keyB (l.take k))) ∧ s3.ownBlock ≠ none ∧ Kept w wr)
  case atStart => exact ⟨0, _, _, by omega, rfl, rfl, rfl, rfl, by simpa [keyB, bys] using hrow, by simp [Value.ownBlock], K1⟩
  case round =>
    clear hrow K1 hrun'
    obtain ⟨k, v3, v5, hk, rfl, rfl, rfl, rfl, hrow, hnn, K0⟩ := hrel
    have HNN := Lib.hid hnn
    clear hnn
    by_cases hlt : k < l.length
    · obtain ⟨b1, o1, rfl, h1⟩ := (HA.out.kept K0).int hlt
      have x0 := h1 k hlt
      have hx := HE.out (ia l k) (by rw [show ia l k = l[k] by simp [ia, hlt]]; exact List.getElem_mem hlt)
      have HKB := Lib.hid (keyB_take hlt)
      obtain ⟨x, hx0⟩ : ∃ x : Nat, ia l k = x := ⟨(ia l k).toNat, by omega⟩
      rw [hx0] at x0 hx HKB
      rw [Int.toNat_natCast] at HKB
      clear h1 hx0
      have eb : bys [UInt8.ofNat (x / 256), UInt8.ofNat (x % 256)] = [.int .u8 ((x : Int) / 256), .int .u8 ((x : Int) % 256)] := by
        simp only [bys, List.map_cons, List.map_nil, UInt8.toNat_ofNat']
        rw [show ((x / 256 % 2 ^ 8 : Nat) : Int) = (x : Int) / 256 by omega, show ((x % 256 % 2 ^ 8 : Nat) : Int) = (x : Int) % 256 by omega]
      have oN := Own.new wr 5 [.int .u8 ((x : Int) / 256), .int .u8 ((x : Int) % 256)]
      have hs := K0.size
      have HB := Lib.hid eb
      have h1b : ∀ u ∈ [Value.int .u8 ((x : Int) / 256), .int .u8 ((x : Int) % 256)], u.oneCell' = true := by rw [← eb]; exact one_bys _
      clear eb
      go_wp2_with (at_builtin; go_loud (refine app_any w.heap.size rfl (.tmp 16) (.tmp 22) 150 5 (.int .u8 0) 1 1 rfl Tryz.underlying150 info5 rfl (by omega) (by omega) u3 (2 * k) 2 2 (some ⟨wr.heap.size, 0, none⟩) (bys (keyB (l.take k))) [.int .u8 ((x : Int) / 256), .int .u8 ((x : Int) % 256)] rfl rfl (by simp) oN.rd h1b (hrow.alloc _) (by simp; omega) (by omega) ?_; intro v4 w4 hr4 hg4 hat))
      rw [← HB.out, bys_append, ← HKB.out] at hr4
      have K4 : Kept w w4 := kept_grown (kept_alloc K0 _) (hrow.alloc _) (Nat.le_refl _) hg4
      have hnn4 : v4.ownBlock ≠ none := by
        rcases hat with h | h
        · rw [h]; exact HNN.out
        · rw [h]; simp
      go_roundg (l.length - (k + 1))
      case rel => exact ⟨k + 1, _, _, by omega, rfl, rfl, rfl, by go_num, hr4, hnn4, K4⟩
      case measure => omega
    · obtain rfl : k = l.length := by omega
      rw [List.take_length] at hrow
      have hcv : (convert 150 9 u3).run Tryz.prog wr = .ok (.string ⟨(keyB l).toArray⟩) wr := by
        have h2 : 2 * l.length = (keyB l).length := (keyB_len l).symm
        rcases hrow.2 with ⟨e0, hn⟩ | ⟨g, cap, cur, e0, hb, hg, hn, hm, hs, ht⟩
        · exact absurd (by rw [e0]; rfl) HNN.out
        · rw [e0, h2]
          refine Lib.run_convert_whole (P := Tryz.prog) wr 150 5 9 Tryz.underlying150 Tryz.underlying5 Tryz.underlying9 g 0 ⟨(keyB l).toArray⟩ (fun i hi => ?_) cap
          have hi' : i < (keyB l).length := hi
          rw [Nat.zero_add]
          rw [e0] at hrow
          obtain ⟨b', o', e1, hc⟩ := (row_rd hrow).at_ (by intro h; have h9 := congrArg List.length h; rw [bys_length, List.length_nil] at h9; omega)
          injection e1 with e1; injection e1 with e1 e2 _
          subst e1; subst e2
          have := hc i (.int .u8 ((keyB l)[i]).toNat) (by simp [bys, hi'])
          rw [Nat.zero_add] at this
          exact this
      clear HA HE
      go_wp2_with fail
      go_ret
      exact ⟨rfl, K0⟩
end Go.Proofs.YtikfeemmjfoffaaGreatDoor
