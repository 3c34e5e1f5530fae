/- Layers. -/
import Derived.Test.YtinpmdekdfgiiaaN3
import Derived.Test.YtinpmdekdfgiiaaE6
set_option linter.unusedVariables false
set_option linter.unusedSimpArgs false
namespace Go.Proofs.Ytinpmdekdfgiiaa
open Go.RowKit Go.Maps

/-- What Layers answers for a valid program. -/
def LaPost (n s : Int) (l : List Nd) (w : World) (e : Ending) (w' : World) : Prop :=
  if 20000 < (visB s l).length then BrBad 5 w e w'
  else ∃ S v, Srt (visB s l) S ∧ e = .returned (.tuple #[v, .int .i64 0]) ∧ BrIs n (fnd S s 0) (lyL s l S) w v w'

theorem small_of {n s : Int} {l : List Nd} (hv : validB n s l = true) {p : Pc} (h : okP s l p) : smallP p := by
  obtain ⟨hi0, hi1, hln, hs⟩ := valid_start hv
  obtain ⟨a, b, c, d, e⟩ := h
  have hlv := (lvTo_small s l l.length p.x.toNat).2
  have hlv2 : ia (lv s l) p.x.toNat ≤ 40000 := by have : ia (lv s l) p.x.toNat ≤ 2 * (l.length : Nat) := hlv; omega
  exact ⟨a, by omega, d, by omega⟩

/-- What the making of a node leaves as it was. -/
structure RgS (Wb : World) (gO bP bN : Nat) (n t : Int) (v : Value) (p : Pc) (d : Nd) (w' : World) : Prop where
  hG : Wb.grownBy w' (some gO)
  oO : Own w' gO 24 [.int .i64 n, .int .i64 t, v]
  oP : Own w' bP 102 [.int .i64 p.x, .int .i64 p.j]
  oN : Own w' bN 48 [.int .i64 d.v, .int .i64 d.z, .int .i64 d.o]
theorem RgS.kept {Wb : World} {gO bP bN : Nat} {n t : Int} {v : Value} {p : Pc} {d : Nd} {w' w'' : World} (h : RgS Wb gO bP bN n t v p d w') (k : Kept w' w'') : RgS Wb gO bP bN n t v p d w'' :=
  ⟨gb_kept h.hG k, h.oO.kept k, h.oP.kept k, h.oN.kept k⟩
theorem RgS.row {Wb : World} {gO bP bN : Nat} {n t : Int} {v : Value} {p : Pc} {d : Nd} {w' w'' : World} (h : RgS Wb gO bP bN n t v p d w') (k : w'.grownBy w'' v.ownBlock) (hb : Wb.heap.size = gO + 1) (hv : ∀ x, v.ownBlock = some x → gO + 1 ≤ x ∧ x < bP) (hN : bP < bN) : RgS Wb gO bP bN n t v p d w'' :=
  ⟨gb_row h.hG k (fun x hx => by have := hv x hx; omega), h.oO.grown k (fun e => by have := hv _ e.symm; omega), h.oP.grown k (fun e => by have := hv _ e.symm; omega), h.oN.grown k (fun e => by have := hv _ e.symm; omega)⟩
theorem lyL_take (s : Int) (l : List Nd) (S : List Pc) {i : Nat} (h : i < S.length) : (lyL s l S).take (i + 1) = (lyL s l S).take i ++ [lyN s l S (pc S i)] := by
  have h2 : i < (lyL s l S).length := by rw [lyL_length]; exact h
  rw [List.take_succ_eq_append_getElem h2]
  congr 2
  simp [lyL, pc, List.getD_eq_getElem?_getD, h]

set_option maxRecDepth 100000 in
set_option maxHeartbeats 4000000 in
theorem layers_any (n s : Int) (A : Option Addr) (c : Nat) (l : List Nd) (w : World) (hr : RN w A l) (hv : validB n s l = true) :
    Calls Try.prog 47 #[.agg #[.int .i64 n, .int .i64 s, .slice A l.length c]] w (LaPost n s l w) := by
  obtain ⟨hi0, hi1, hln, hs⟩ := valid_start hv
  have hmm := @run_makeMap Try.prog
  have a0 := (Own.new w 24 [.int .i64 n, .int .i64 s, .slice A l.length c]).alloc (.cells #[.int .i64 0, .int .i64 0, .slice none 0 0] 24)
  have a1 := Own.new (w.alloc (.cells #[.int .i64 n, .int .i64 s, .slice A l.length c] 24)) 24 [.int .i64 0, .int .i64 0, .slice none 0 0]
  have ka := kept_alloc (kept_alloc (kept_refl w) (.cells #[.int .i64 n, .int .i64 s, .slice A l.length c] 24)) (.cells #[.int .i64 0, .int .i64 0, .slice none 0 0] 24)
  simp only [World.size_alloc] at a1
  have q0 := a0.cell (j := 0) rfl
  have q1 := a0.cell (j := 1) rfl
  have q2 := a0.cell (j := 2) rfl
  obtain ⟨P, hP⟩ : ∃ P : Ending → World → Prop, P = LaPost n s l w := ⟨_, rfl⟩
  rw [← hP]
  have HP := Lib.hid hP
  clear hP
  go_enter Try.func47, Try.ntmps47
  go_wp2_with fail
  refine (valid_any n s A c l _ (by omega) (hr.kept ka)).mono ?_
  rintro e w1 ⟨rfl, k1⟩
  rw [hv]
  replace a0 := a0.kept k1
  replace a1 := a1.kept k1
  replace ka := kept_trans ka k1
  clear q0 q1 q2 k1
  have q0 := a0.cell (j := 0) rfl
  have q1 := a0.cell (j := 1) rfl
  have q2 := a0.cell (j := 2) rfl
  go_wp2_with fail
  refine (levels_any n s A c l _ (hr.kept ka) hv).mono ?_
  rintro e w2 ⟨g, rfl, hg, oL, k1⟩
  have z0 : w.heap.size + 2 ≤ w1.heap.size := by have := a1.lt; omega
  replace a0 := a0.kept k1
  replace a1 := a1.kept k1
  replace ka := kept_trans ka k1
  have hg2 : g < w2.heap.size := oL.lt
  have hg1 : w.heap.size + 2 ≤ g := by omega
  clear q0 q1 q2 k1 hg z0
  have z0 : w.heap.size < w2.heap.size := by omega
  have z1 : w.heap.size + 1 < w2.heap.size := by omega
  have q0 := a0.cell (j := 0) rfl
  have q1 := a0.cell (j := 1) rfl
  have q2 := a0.cell (j := 2) rfl
  have HV := Lib.hid hv; have HS := Lib.hid hs
  clear hv hs
  go_upto_region 8 with (fail)
  clear hmm q0 q1 q2
  have b0 := (((((a0.alloc (.cells #[.slice (some ⟨g, 0, none⟩) l.length l.length] 36)).alloc (.map #[] 0)).alloc (.cells #[.map (some (w2.heap.size + 1))] 98)).alloc (.cells #[.slice none 0 0] 99)).alloc (.cells #[.func (.func 85) #[] #[.pointer (some ⟨w2.heap.size + 1 + 1, 0, none⟩), .pointer (some ⟨w2.heap.size + 1 + 1 + 1, 0, none⟩), .pointer (some ⟨w2.heap.size, 0, none⟩), .pointer (some ⟨w2.heap.size + 1 + 1 + 1 + 1, 0, none⟩), .pointer (some ⟨w.heap.size, 0, none⟩)]] 100))
  have b1 := (((((a1.alloc (.cells #[.slice (some ⟨g, 0, none⟩) l.length l.length] 36)).alloc (.map #[] 0)).alloc (.cells #[.map (some (w2.heap.size + 1))] 98)).alloc (.cells #[.slice none 0 0] 99)).alloc (.cells #[.func (.func 85) #[] #[.pointer (some ⟨w2.heap.size + 1 + 1, 0, none⟩), .pointer (some ⟨w2.heap.size + 1 + 1 + 1, 0, none⟩), .pointer (some ⟨w2.heap.size, 0, none⟩), .pointer (some ⟨w2.heap.size + 1 + 1 + 1 + 1, 0, none⟩), .pointer (some ⟨w.heap.size, 0, none⟩)]] 100))
  have bL := (((((oL.alloc (.cells #[.slice (some ⟨g, 0, none⟩) l.length l.length] 36)).alloc (.map #[] 0)).alloc (.cells #[.map (some (w2.heap.size + 1))] 98)).alloc (.cells #[.slice none 0 0] 99)).alloc (.cells #[.func (.func 85) #[] #[.pointer (some ⟨w2.heap.size + 1 + 1, 0, none⟩), .pointer (some ⟨w2.heap.size + 1 + 1 + 1, 0, none⟩), .pointer (some ⟨w2.heap.size, 0, none⟩), .pointer (some ⟨w2.heap.size + 1 + 1 + 1 + 1, 0, none⟩), .pointer (some ⟨w.heap.size, 0, none⟩)]] 100))
  have b4 := (((((Own.new w2 36 [.slice (some ⟨g, 0, none⟩) l.length l.length]).alloc (.map #[] 0)).alloc (.cells #[.map (some (w2.heap.size + 1))] 98)).alloc (.cells #[.slice none 0 0] 99)).alloc (.cells #[.func (.func 85) #[] #[.pointer (some ⟨w2.heap.size + 1 + 1, 0, none⟩), .pointer (some ⟨w2.heap.size + 1 + 1 + 1, 0, none⟩), .pointer (some ⟨w2.heap.size, 0, none⟩), .pointer (some ⟨w2.heap.size + 1 + 1 + 1 + 1, 0, none⟩), .pointer (some ⟨w.heap.size, 0, none⟩)]] 100))
  have bM := (((World.ownsMap_made (H := Unit) (w2.alloc (.cells #[.slice (some ⟨g, 0, none⟩) l.length l.length] 36)) Try.prog 102 (plainElem Try.prog 3)).alloc (.cells #[.map (some (w2.heap.size + 1))] 98)).alloc (.cells #[.slice none 0 0] 99)).alloc (.cells #[.func (.func 85) #[] #[.pointer (some ⟨w2.heap.size + 1 + 1, 0, none⟩), .pointer (some ⟨w2.heap.size + 1 + 1 + 1, 0, none⟩), .pointer (some ⟨w2.heap.size, 0, none⟩), .pointer (some ⟨w2.heap.size + 1 + 1 + 1 + 1, 0, none⟩), .pointer (some ⟨w.heap.size, 0, none⟩)]] 100)
  have b5 := (((Own.new ((w2.alloc (.cells #[.slice (some ⟨g, 0, none⟩) l.length l.length] 36)).alloc (.map #[] 0)) 98 [.map (some (w2.heap.size + 1))]).alloc (.cells #[.slice none 0 0] 99)).alloc (.cells #[.func (.func 85) #[] #[.pointer (some ⟨w2.heap.size + 1 + 1, 0, none⟩), .pointer (some ⟨w2.heap.size + 1 + 1 + 1, 0, none⟩), .pointer (some ⟨w2.heap.size, 0, none⟩), .pointer (some ⟨w2.heap.size + 1 + 1 + 1 + 1, 0, none⟩), .pointer (some ⟨w.heap.size, 0, none⟩)]] 100))
  have b6 := ((Own.new (((w2.alloc (.cells #[.slice (some ⟨g, 0, none⟩) l.length l.length] 36)).alloc (.map #[] 0)).alloc (.cells #[.map (some (w2.heap.size + 1))] 98)) 99 [.slice none 0 0]).alloc (.cells #[.func (.func 85) #[] #[.pointer (some ⟨w2.heap.size + 1 + 1, 0, none⟩), .pointer (some ⟨w2.heap.size + 1 + 1 + 1, 0, none⟩), .pointer (some ⟨w2.heap.size, 0, none⟩), .pointer (some ⟨w2.heap.size + 1 + 1 + 1 + 1, 0, none⟩), .pointer (some ⟨w.heap.size, 0, none⟩)]] 100))
  have b7 := Own.new ((((w2.alloc (.cells #[.slice (some ⟨g, 0, none⟩) l.length l.length] 36)).alloc (.map #[] 0)).alloc (.cells #[.map (some (w2.heap.size + 1))] 98)).alloc (.cells #[.slice none 0 0] 99)) 100 [.func (.func 85) #[] #[.pointer (some ⟨w2.heap.size + 1 + 1, 0, none⟩), .pointer (some ⟨w2.heap.size + 1 + 1 + 1, 0, none⟩), .pointer (some ⟨w2.heap.size, 0, none⟩), .pointer (some ⟨w2.heap.size + 1 + 1 + 1 + 1, 0, none⟩), .pointer (some ⟨w.heap.size, 0, none⟩)]]
  have bK := (kept_alloc (kept_alloc (kept_alloc (kept_alloc (kept_alloc ka (.cells #[.slice (some ⟨g, 0, none⟩) l.length l.length] 36)) (.map #[] 0)) (.cells #[.map (some (w2.heap.size + 1))] 98)) (.cells #[.slice none 0 0] 99)) (.cells #[.func (.func 85) #[] #[.pointer (some ⟨w2.heap.size + 1 + 1, 0, none⟩), .pointer (some ⟨w2.heap.size + 1 + 1 + 1, 0, none⟩), .pointer (some ⟨w2.heap.size, 0, none⟩), .pointer (some ⟨w2.heap.size + 1 + 1 + 1 + 1, 0, none⟩), .pointer (some ⟨w.heap.size, 0, none⟩)]] 100))
  simp only [World.size_alloc] at bM b5 b6 b7
  have E : LaEnv w (((((w2.alloc (.cells #[.slice (some ⟨g, 0, none⟩) l.length l.length] 36)).alloc (.map #[] 0)).alloc (.cells #[.map (some (w2.heap.size + 1))] 98)).alloc (.cells #[.slice none 0 0] 99)).alloc (.cells #[.func (.func 85) #[] #[.pointer (some ⟨w2.heap.size + 1 + 1, 0, none⟩), .pointer (some ⟨w2.heap.size + 1 + 1 + 1, 0, none⟩), .pointer (some ⟨w2.heap.size, 0, none⟩), .pointer (some ⟨w2.heap.size + 1 + 1 + 1 + 1, 0, none⟩), .pointer (some ⟨w.heap.size, 0, none⟩)]] 100)) w2.heap.size g n s A c l [] [] 0 0 (.slice none 0 0) := ⟨b0, b1, bL, b4, b5, b6, b7, ⟨_, bM, pmap_nil⟩, World.ownsRow_nil _ _ _ _, bK⟩
  obtain ⟨W3, hW3⟩ : ∃ x, x = (((((w2.alloc (.cells #[.slice (some ⟨g, 0, none⟩) l.length l.length] 36)).alloc (.map #[] 0)).alloc (.cells #[.map (some (w2.heap.size + 1))] 98)).alloc (.cells #[.slice none 0 0] 99)).alloc (.cells #[.func (.func 85) #[] #[.pointer (some ⟨w2.heap.size + 1 + 1, 0, none⟩), .pointer (some ⟨w2.heap.size + 1 + 1 + 1, 0, none⟩), .pointer (some ⟨w2.heap.size, 0, none⟩), .pointer (some ⟨w2.heap.size + 1 + 1 + 1 + 1, 0, none⟩), .pointer (some ⟨w.heap.size, 0, none⟩)]] 100)) := ⟨_, rfl⟩
  rw [← hW3] at E ⊢
  clear hW3 b0 b1 bL b4 bM b5 b6 b7 bK a0 a1 oL ka
  obtain ⟨k1, hk1⟩ : ∃ x, x = w2.heap.size := ⟨_, rfl⟩
  rw [← hk1] at E hg2 z0 z1 ⊢
  clear hk1
  have q1 := E.o0.cell (j := 1) rfl
  have q7 := E.o7.cell (j := 0) rfl
  have hsb : -2 ≤ s ∧ s ≤ 20000 := by have := HS.out; omega
  go_wp2_with fail
  have hln0 := len_nonneg s l
  have E' : LaEnv w W3 k1 g n s A c l [] [] 0 ([] : List Pc).length (.slice none 0 0) := E
  (with_reducible refine (visit_any w k1 g n s A c l z1 hg2 hr HV.out (lenB s l).toNat ⟨s, 0⟩ [] (.slice none 0 0) W3 ⟨by simp, by simp, by simp, by simp⟩ (fun h => okP_start HV.out h) (.inl rfl) (show lenB s l ≤ (0 : Int) + ((lenB s l).toNat : Nat) by omega) ⟨hsb.1, hsb.2, show (0 : Int) ≤ 0 by omega, show (0 : Int) ≤ 50000 by omega⟩ E').mono ?_)
  rintro e w4 ⟨v4, rfl, E4, _, _⟩
  have hvis := visB_ok HV.out
  change LaEnv w w4 k1 g n s A c l (visB s l) [] 0 (visB s l).length v4 at E4
  obtain ⟨o, ho⟩ : ∃ x, x = visB s l := ⟨_, rfl⟩
  have HOV := Lib.hid ho
  rw [← ho] at E4 hvis
  clear ho E E' q1 q7
  have HVS := Lib.hid hvis; clear hvis
  obtain ⟨A4, c4, rfl, hrow4⟩ := row_form E4.row
  have q6 := E4.o6.cell (j := 0) rfl
  have hol : o.length ≤ 20001 := HVS.out.vis.len
  by_cases hbig : 20000 < o.length
  · have d1 : decide ((20000 : Int) < (o.length : Int)) = true := decide_eq_true (by omega)
    have d2 : decide (20000 < o.length) = true := decide_eq_true hbig
    have HB := Lib.hid hbig; clear hbig
    have e0 := E4.o1.cell (j := 0) rfl
    have e1 := E4.o1.cell (j := 1) rfl
    have e2 := E4.o1.cell (j := 2) rfl
    have f0 := E4.o1.frozen 0
    have f1 := E4.o1.frozen 1
    have f2 := E4.o1.frozen 2
    go_wp2_with fail
    have o3 := ((E4.o1.set 0 (.int .i64 0)).set 1 (.int .i64 0)).set 2 (.slice none 0 0)
    have pk := kept_set (g := w.heap.size + 1) (j := 2) (kept_set (g := w.heap.size + 1) (j := 1) (kept_set (g := w.heap.size + 1) (j := 0) E4.K (by omega) (.int .i64 0)) (by omega) (.int .i64 0)) (by omega) (.slice none 0 0)
    obtain ⟨W9, hW9⟩ : ∃ x, x = ((w4.setCell ⟨w.heap.size + 1, 0, none⟩ (.int .i64 0)).setCell ⟨w.heap.size + 1, 1, none⟩ (.int .i64 0)).setCell ⟨w.heap.size + 1, 2, none⟩ (.slice none 0 0) := ⟨_, rfl⟩
    rw [← hW9] at pk o3 ⊢
    clear hW9 e0 e1 e2 q6
    have q0 := o3.cell (j := 0) rfl
    have q1 := o3.cell (j := 1) rfl
    have q2 := o3.cell (j := 2) rfl
    exact bodyPost_ret (v := .tuple #[.agg #[.int .i64 0, .int .i64 0, .slice none 0 0], .int .i64 5]) (by simp [results, Try.results47, go_sem, q0, q1, q2]) rfl (by rw [HP.out]; unfold LaPost; rw [← HOV.out, if_pos HB.out]; exact ⟨rfl, pk⟩)
  · have d1 : decide ((20000 : Int) < (o.length : Int)) = false := decide_eq_false (by omega)
    have d2 : decide (20000 < o.length) = false := decide_eq_false hbig
    have C86 := sort86_any o (.slice A4 o.length c4) (k1 + 5) w4 E4.row (fun p hp => small_of HV.out (HVS.out.vis.ok p hp)) HVS.out.vis.nodup hol
    have HB := Lib.hid hbig; clear hbig
    go_wp2_with fail
    (with_reducible refine C86.mono ?_)
    rintro e w5 ⟨S, rfl, hS, hrow5, hg5⟩
    have E5 := E4.sort z1 hg2 hS hrow5 hg5
    have L := LyEnv.of HV.out HVS.out (by have := HB.out; omega) hS
    have hSl : S.length ≤ 20000 := L.many
    have hlen : o.length = S.length := hS.len.symm
    rw [hlen] at E5 ⊢
    clear hrow5 hg5 E4 hrow4 q6 C86 d1 d2
    have HSR := Lib.hid hS; have HL := Lib.hid L; have HLEN := Lib.hid hlen
    clear hS L hlen
    have q6 := E5.o6.cell (j := 0) rfl
    go_wp2_with fail
    have E6 := E5
    clear E5 q6
    go_loopg [37] S.length (fun g' s37 wr => ∃ i : Nat, i ≤ S.length ∧ g' = S.length - i ∧ s37 = .int .i64 i ∧ LaEnv w wr k1 g n s A c l S S i (S.length + i) (.slice A4 S.length c4))
    case atStart => exact ⟨0, by omega, rfl, rfl, E6⟩
    case round =>
      clear E6
      obtain ⟨i, hi, rfl, rfl, E⟩ := hrel
      by_cases hlt : i < S.length
      · obtain ⟨b, off, hA, hcs⟩ := pcs_at (row_rd E.row) hlt
        subst hA
        obtain ⟨d0, d1⟩ := hcs i hlt
        clear hcs
        have hmem := pc_mem hlt
        have hpx := HL.out.px_pc hlt
        have hsm := small_of HV.out (HL.out.ok _ hmem)
        have huq : ∀ q, q ∈ S → px S q = i → q = pc S i := fun q hq e => by rw [← e]; exact (px_mem hq).2.symm
        have HPX := Lib.hid (And.intro hmem (And.intro hpx huq))
        clear hmem hpx huq
        generalize pc S i = p at *
        have hpin : pcIn p := by
          obtain ⟨a1, a2, a3, a4⟩ := hsm
          exact ⟨by unfold i64In; omega, by unfold i64In; omega⟩
        have zb : b < wr.heap.size := kept_lt d0
        have K0 : Kept wr (wr.alloc (.cells #[.int .i64 p.x, .int .i64 p.j] 102)) := kept_alloc (kept_refl wr) _
        have E1 := E.kept K0
        obtain ⟨D, hown, hmd⟩ := E1.mp
        have HMD := Lib.hid hmd; clear hmd
        have q5 := E1.o5.cell (j := 0) rfl
        unfold mapV at q5
        have oB := Own.new wr 102 [.int .i64 p.x, .int .i64 p.j]
        have b0 := oB.cell (j := 0) rfl
        have b1 := oB.cell (j := 1) rfl
        have z5 : k1 + 2 < wr.heap.size := E.o5.lt
        have e0 : (0 : Int) ≤ (i : Int) := by omega
        have e1 : (i : Int) < (S.length : Int) := by omega
        have wfk : (Lit.int .i64 (i : Int)).wf = true := i64_wf (by unfold i64In; omega)
        clear E
        go_wp2_with (at_mapUpdate; go_loud (refine wpList_mapUpdate_own _ rfl _ _ _ 98 rfl 102 3 placeLaw under98 (plainElem Try.prog 3) (k1 + 1) (S.length + i) D rfl hown (by unfold maxLen; omega) _ _ (pcLit p) rfl rfl (pc_key hpin) _ [] (plainElem_int Try.underlying3 wfk) ?_; intro w8 hown8 hg8; have E9 := E1.number z1 hg2 ⟨_, hown8, pmap_number HMD.out hown.isMap hpin HPX.out.1 HPX.out.2.1 HPX.out.2.2⟩ hg8; clear hown8 hg8))
        go_roundg (S.length - (i + 1))
        case rel => exact ⟨i + 1, by omega, rfl, by go_num, E9⟩
        case measure => omega
      · have : i = S.length := by omega
        subst this
        have hrowS := row_rd E.row
        obtain ⟨D, hown, hmd⟩ := E.mp
        have q5 := E.o5.cell (j := 0) rfl
        unfold mapV at q5
        have q0 := E.o0.cell (j := 0) rfl
        have q1 := E.o0.cell (j := 1) rfl
        have C1 := fun (w' : World) (k : Kept wr w') => find88_any S s 0 (k1 + 2) (k1 + 1) _ D w' (kept_cell k q5) (hown.kept (row := none) ⟨k.os, k.tape, k.output, k.size, fun i hi _ => k.block i hi⟩ (by simp)) hmd (by
          rcases Int.lt_or_le s 0 with h | h
          · exact .inl h
          · exact .inr ⟨HL.out.got h, by unfold i64In; dsimp only; omega, by unfold i64In; dsimp only; omega⟩)
        obtain ⟨t, ht⟩ : ∃ t, t = fnd S s 0 := ⟨_, rfl⟩
        rw [← ht] at C1
        have HT := Lib.hid ht; clear ht
        have HC1 := Lib.hid C1; clear C1
        have HMD := Lib.hid hmd; clear hmd
        go_wp2_with fail
        refine region_x (fun w' => Kept wr w') [] (by kernel_rfl) (kept_drew (kept_refl _)) (fun hHeld => ?_)
        refine x_take (i := 0) (oi := { dst := some 47, op := Op.fieldAddr 24 (Operand.tmp 1) 0, type := 0, pos := "branch.go:338", after := #[], guard := none }) (v := ?_) rfl (by kernel_rfl) (by kernel_rfl) (by kernel_rfl) (by kernel_rfl) (by kernel_rfl) (fun _ _ _ h => h) (Or.inl ⟨rfl, ?_⟩) (by assumption) ?_
        rotate_left
        · (intro w' hSw; replace q0 := kept_cell hSw q0; replace q1 := kept_cell hSw q1; go_simp; try with_reducible rfl)
        try simp only [Act.put, List.setIfInBounds_toArray, List.set_cons_zero, List.set_cons_succ]
        refine x_take (i := 1) (oi := { dst := some 48, op := Op.load 3 (Operand.tmp 47), type := 3, pos := "branch.go:338", after := #[{ on := 0, ground := Ground.data }], guard := none }) (v := ?_) rfl (by kernel_rfl) (by kernel_rfl) (by kernel_rfl) (by kernel_rfl) (by kernel_rfl) (fun _ _ _ h => h) (Or.inl ⟨rfl, ?_⟩) (by assumption) ?_
        rotate_left
        · (intro w' hSw; replace q0 := kept_cell hSw q0; replace q1 := kept_cell hSw q1; go_simp; try with_reducible rfl)
        try simp only [Act.put, List.setIfInBounds_toArray, List.set_cons_zero, List.set_cons_succ]
        refine x_take (i := 2) (oi := { dst := some 49, op := Op.move (Operand.tmp 10), type := 33, pos := "branch.go:338", after := #[], guard := none }) (v := ?_) rfl (by kernel_rfl) (by kernel_rfl) (by kernel_rfl) (by kernel_rfl) (by kernel_rfl) (fun _ _ _ h => h) (Or.inl ⟨rfl, ?_⟩) (by assumption) ?_
        rotate_left
        · (intro w' hSw; replace q0 := kept_cell hSw q0; replace q1 := kept_cell hSw q1; go_simp; try with_reducible rfl)
        try simp only [Act.put, List.setIfInBounds_toArray, List.set_cons_zero, List.set_cons_succ]
        refine x_take (i := 3) (oi := { dst := some 50, op := Op.fieldAddr 24 (Operand.tmp 1) 1, type := 0, pos := "branch.go:338", after := #[], guard := none }) (v := ?_) rfl (by kernel_rfl) (by kernel_rfl) (by kernel_rfl) (by kernel_rfl) (by kernel_rfl) (fun _ _ _ h => h) (Or.inl ⟨rfl, ?_⟩) (by assumption) ?_
        rotate_left
        · (intro w' hSw; replace q0 := kept_cell hSw q0; replace q1 := kept_cell hSw q1; go_simp; try with_reducible rfl)
        try simp only [Act.put, List.setIfInBounds_toArray, List.set_cons_zero, List.set_cons_succ]
        refine x_take (i := 4) (oi := { dst := some 51, op := Op.load 3 (Operand.tmp 50), type := 3, pos := "branch.go:338", after := #[{ on := 3, ground := Ground.data }], guard := none }) (v := ?_) rfl (by kernel_rfl) (by kernel_rfl) (by kernel_rfl) (by kernel_rfl) (by kernel_rfl) (fun _ _ _ h => h) (Or.inl ⟨rfl, ?_⟩) (by assumption) ?_
        rotate_left
        · (intro w' hSw; replace q0 := kept_cell hSw q0; replace q1 := kept_cell hSw q1; go_simp; try with_reducible rfl)
        try simp only [Act.put, List.setIfInBounds_toArray, List.set_cons_zero, List.set_cons_succ]
        refine x_call (i := 5) (oi := { dst := some 52, op := Op.call { callee := Callee.value (Operand.tmp 49), args := #[Operand.tmp 51, Operand.const (Value.int IntKind.i64 0)], argTypes := #[3, 3] }, type := 3, pos := "branch.go:338", after := #[{ on := 2, ground := Ground.data }, { on := 4, ground := Ground.data }], guard := none }) (v := _) rfl (by kernel_rfl) (by kernel_rfl) (by kernel_rfl) (by kernel_rfl) (by kernel_rfl) (fun _ _ _ h => h) rfl 88 _ ?_ (fun w' hSw => HC1.out w' hSw) (by assumption) ?_
        · (intro w' hSw; go_simp; try with_reducible rfl)
        try simp only [Act.put, List.setIfInBounds_toArray, List.set_cons_zero, List.set_cons_succ]
        refine x_take (i := 6) (oi := { dst := some 53, op := Op.build 24 #[(0, Operand.tmp 48), (1, Operand.tmp 52)], type := 24, pos := "branch.go:338", after := #[{ on := 1, ground := Ground.data }, { on := 5, ground := Ground.data }], guard := none }) (v := ?_) rfl (by kernel_rfl) (by kernel_rfl) (by kernel_rfl) (by kernel_rfl) (by kernel_rfl) (fun _ _ _ h => h) (Or.inl ⟨rfl, ?_⟩) (by assumption) ?_
        rotate_left
        · (intro w' hSw; replace q0 := kept_cell hSw q0; replace q1 := kept_cell hSw q1; go_simp; try with_reducible rfl)
        try simp only [Act.put, List.setIfInBounds_toArray, List.set_cons_zero, List.set_cons_succ]
        refine x_one (i := 7) (o := { dst := some 11, op := Op.alloc 24, type := 0, pos := "branch.go:338", after := #[], guard := none }) (by kernel_rfl) rfl (fun K hK => ?_)
        go_simp
        refine hK.out _ _ ?_ (fun hHeld => ?_)
        · (try dsimp only); repeat (first | assumption | exact kept_refl _ | refine kept_drew ?_ | refine kept_alloc ?_ _ | refine kept_set ?_ (by omega) _)
        clear hK K
        try simp only [Act.put, List.setIfInBounds_toArray, List.set_cons_zero, List.set_cons_succ]
        refine x_one (i := 8) (o := { dst := none, op := Op.store 24 (Operand.tmp 11) (Operand.tmp 53), type := 0, pos := "branch.go:338", after := #[{ on := 7, ground := Ground.data }, { on := 6, ground := Ground.data }, { on := 5, ground := Ground.chain }, { on := 0, ground := Ground.phase }, { on := 1, ground := Ground.phase }, { on := 2, ground := Ground.phase }, { on := 3, ground := Ground.phase }, { on := 4, ground := Ground.phase }, { on := 5, ground := Ground.phase }, { on := 6, ground := Ground.phase }, { on := 7, ground := Ground.phase }], guard := none }) (by kernel_rfl) rfl (fun K hK => ?_)
        go_simp
        refine hK.out _ _ ?_ (fun hHeld => ?_)
        · (try dsimp only); repeat (first | assumption | exact kept_refl _ | refine kept_drew ?_ | refine kept_alloc ?_ _ | refine kept_set ?_ (by omega) _)
        clear hK K
        try simp only [Act.put, List.setIfInBounds_toArray, List.set_cons_zero, List.set_cons_succ]
        refine x_done (by kernel_rfl) ?_ _
        have KW : Kept wr (wr.alloc (.cells #[.int .i64 n, .int .i64 t, .slice none 0 0] 24)).drew := kept_drew (kept_alloc (kept_refl _) _)
        have oO := (Own.new wr 24 [.int .i64 n, .int .i64 t, .slice none 0 0]).drew
        have EB := E.kept KW
        obtain ⟨Wb, hWb⟩ : ∃ x, x = (wr.alloc (.cells #[.int .i64 n, .int .i64 t, .slice none 0 0] 24)).drew := ⟨_, rfl⟩
        have zb : Wb.heap.size = wr.heap.size + 1 := by rw [hWb]; simp
        rw [← hWb] at oO EB KW ⊢
        have hrB : ∀ x, (Value.slice A4 S.length c4).ownBlock = some x → x < wr.heap.size := fun x hx => (E.row.lt x hx).2
        have zk : k1 + 4 < wr.heap.size := E.o7.lt
        clear hHeld hWb q0 q1 q5 hown hrowS E HC1 HMD
        obtain ⟨gO, hgO⟩ : ∃ x, x = wr.heap.size := ⟨_, rfl⟩
        rw [← hgO] at oO zb hrB zk ⊢
        clear hgO KW
        have HRB := Lib.hid hrB; clear hrB
        have HZB := Lib.hid zb; clear zb
        have q6 := EB.o6.cell (j := 0) rfl
        go_wp2_with fail
        obtain ⟨DB, hownB, hmdB⟩ := EB.mp
        have C88 := Lib.hid fun (x j : Int) (hx : x < 0 ∨ (⟨x, j⟩ ∈ S ∧ pcIn ⟨x, j⟩)) (w' : World) (hG' : Wb.grownBy w' (some gO)) => find88_any S x j (k1 + 2) (k1 + 1) _ DB w' ((EB.o5.grown hG' (by intro e; injection e with e; omega)).cell (j := 0) rfl) (hownB.kept hG' (by intro e; injection e with e; omega)) hmdB hx
        clear hownB hmdB
        go_loopg [56] S.length (fun g' s56 wr => ∃ (i : Nat) (v : Value), i ≤ S.length ∧ g' = S.length - i ∧ s56 = .int .i64 i ∧ Wb.grownBy wr (some gO) ∧ Own wr gO 24 [.int .i64 n, .int .i64 t, v] ∧ wr.ownsRow (gO + 1) 48 3 v i (ndCells ((lyL s l S).take i)))
        case atStart => exact ⟨0, .slice none 0 0, by omega, rfl, rfl, gb_refl _ _, oO, World.ownsRow_nil _ _ _ _⟩
        case round =>
          clear oO q6
          obtain ⟨i, v, hi2, rfl, rfl, hG, oO, hrow⟩ := hrel
          have E := EB.gb z1 hg2 hG (by omega) (fun e => by have := HRB.out _ e; omega)
          by_cases hlt2 : i < S.length
          · obtain ⟨b, off, hA, hcs⟩ := pcs_at (row_rd E.row) hlt2
            subst hA
            obtain ⟨d0, d1⟩ := hcs i hlt2
            clear hcs
            have hmem := pc_mem hlt2
            have hok := HL.out.ok _ hmem
            have hsm := small_of HV.out hok
            have hsc := HL.out.sc_ok hmem
            have htk := lyL_take s l S hlt2
            have HTK := Lib.hid htk
            have HSC := Lib.hid hsc
            clear hmem htk hsc
            generalize pc S i = p at *
            obtain ⟨u0, u1, u2, u3, u4⟩ := hok
            have hk : p.x.toNat < l.length := by omega
            have hnd := valid_node HV.out hk
            obtain ⟨bA, oA, hA, hcA⟩ := hr.at_ hk
            subst hA
            obtain ⟨D0, D1, D2⟩ := hcA p.x.toNat hk
            clear hcA
            replace D0 := kept_cell E.K D0
            replace D1 := kept_cell E.K D1
            replace D2 := kept_cell E.K D2
            obtain ⟨A8, c8, rfl, hrow⟩ := row_form hrow
            have zb1 : b < wr.heap.size := kept_lt d0
            have zb2 : bA < wr.heap.size := kept_lt D0
            have zO : gO < wr.heap.size := oO.lt
            have z5 : w.heap.size < wr.heap.size := E.o0.lt
            have e0 : (0 : Int) ≤ (i : Int) := by omega
            have e1 : (i : Int) < (S.length : Int) := by omega
            have q2 := E.o0.cell (j := 2) rfl
            go_upto_region 23 with (fail)
            have K8 : Kept wr ((wr.alloc (.cells #[.int .i64 p.x, .int .i64 p.j] 102)).alloc (.cells #[.int .i64 (nv l p.x.toNat), .int .i64 (nz l p.x.toNat), .int .i64 (no l p.x.toNat)] 48)) := kept_alloc (kept_alloc (kept_refl wr) _) _
            have oP := (Own.new wr 102 [.int .i64 p.x, .int .i64 p.j]).alloc (.cells #[.int .i64 (nv l p.x.toNat), .int .i64 (nz l p.x.toNat), .int .i64 (no l p.x.toNat)] 48)
            have oN := Own.new (wr.alloc (.cells #[.int .i64 p.x, .int .i64 p.j] 102)) 48 [.int .i64 (nv l p.x.toNat), .int .i64 (nz l p.x.toNat), .int .i64 (no l p.x.toNat)]
            simp only [World.size_alloc] at oN
            have R8 : RgS Wb gO wr.heap.size (wr.heap.size + 1) n t (.slice A8 i c8) p (nd l p.x.toNat) ((wr.alloc (.cells #[.int .i64 p.x, .int .i64 p.j] 102)).alloc (.cells #[.int .i64 (nv l p.x.toNat), .int .i64 (nz l p.x.toNat), .int .i64 (no l p.x.toNat)] 48)) := ⟨gb_kept hG K8, oO.kept K8, oP, oN⟩
            have E8 := E.kept K8
            have row8 := row_kept hrow K8
            have hvb : ∀ x, (Value.slice A8 i c8).ownBlock = some x → gO + 1 ≤ x ∧ x < wr.heap.size := fun x hx => hrow.lt x hx
            obtain ⟨W8, hW8⟩ : ∃ x, x = (wr.alloc (.cells #[.int .i64 p.x, .int .i64 p.j] 102)).alloc (.cells #[.int .i64 (nv l p.x.toNat), .int .i64 (nz l p.x.toNat), .int .i64 (no l p.x.toNat)] 48) := ⟨_, rfl⟩
            rw [← hW8] at R8 E8 row8 ⊢
            clear hW8 K8 oP oN d0 d1 D0 D1 D2 q2 hrow oO hG E
            obtain ⟨d, hd⟩ : ∃ x, x = nd l p.x.toNat := ⟨_, rfl⟩
            rw [← hd] at R8
            have hdv : d.v = nv l p.x.toNat := by rw [hd]; rfl
            have hdz : d.z = nz l p.x.toNat := by rw [hd]; rfl
            have hdo : d.o = no l p.x.toNat := by rw [hd]; rfl
            have HD := Lib.hid (And.intro hdv (And.intro hdz hdo))
            have hN0 : p.j < ia (lv s l) p.x.toNat → lyN s l S p = ⟨0, fnd S p.x (p.j + 1), fnd S p.x (p.j + 1)⟩ := fun hj => by unfold lyN sc0 sc1; simp only [if_pos hj]
            have hN1 : ¬ p.j < ia (lv s l) p.x.toNat → lyN s l S p = ⟨d.v, fnd S d.z (p.j + 1), fnd S d.o (p.j + 1)⟩ := fun hj => by unfold lyN sc0 sc1; simp only [if_neg hj]; rw [hdv, hdz, hdo]
            have HN0 := Lib.hid hN0; have HN1 := Lib.hid hN1
            have HVB := Lib.hid hvb
            clear hd hdv hdz hdo hN0 hN1 hvb
            obtain ⟨gP, hgP⟩ : ∃ x, x = wr.heap.size := ⟨_, rfl⟩
            rw [← hgP] at R8 HVB zb1 zb2 zO z5 ⊢
            clear hgP
            have p0 := R8.oP.cell (j := 0) rfl
            have p1 := R8.oP.cell (j := 1) rfl
            have q4 := E8.o4.cell (j := 0) rfl
            have qL := E8.oL.int (j := p.x.toNat) (by rw [lv_length]; exact hk)
            have j1 : p.j ≤ 65536 := by have := hsm.2.2.2; omega
            have m1 : IntKind.i64.wrap (p.j + 1) = p.j + 1 := IntWalk.i64_in _ (by omega)
            have zz1 : gO < W8.heap.size := R8.oO.lt
            have hpi : ∀ x : Int, 0 ≤ x → x < 65536 → pcIn ⟨x, p.j + 1⟩ := fun x h1 h2 => ⟨by unfold i64In; dsimp only; omega, by unfold i64In; dsimp only; omega⟩
            have HPI := Lib.hid hpi; clear hpi
            by_cases hj : p.j < ia (lv s l) p.x.toNat
            · have dj : decide (p.j < ia (lv s l) p.x.toNat) = true := decide_eq_true hj
              have hx : p.x < 0 ∨ ((⟨p.x, p.j + 1⟩ : Pc) ∈ S ∧ pcIn ⟨p.x, p.j + 1⟩) := by
                have e0 : sc0 s l p = ⟨p.x, p.j + 1⟩ := if_pos hj
                have h := HSC.out.1
                rw [e0] at h
                dsimp only at h
                rcases h with h | h | h
                · omega
                · omega
                · exact .inr ⟨h.2, HPI.out _ u0 (by omega)⟩
              have HNN := Lib.hid (HN0.out hj)
              have HX := Lib.hid hx; clear hx hj
              obtain ⟨u, hu⟩ : ∃ u, u = fnd S p.x (p.j + 1) := ⟨_, rfl⟩
              have C := C88.out p.x (p.j + 1) HX.out
              rw [← hu] at C HNN
              clear hu
              have HC := Lib.hid C; clear C
              go_quiet (fail)
              go_wp2_with fail
              obtain ⟨W9, hW9⟩ : ∃ x, x = W8.drewN nq := ⟨_, rfl⟩
              have K9 : Kept W8 W9 := by rw [hW9]; exact below_drewN (kept_refl _) nq
              rw [← hW9]
              clear hW9 p0 p1 q4 qL
              have R9 := R8.kept K9
              have row9 := row_kept row8 K9
              (with_reducible refine (HC.out W9 R9.hG).mono ?_)
              rintro e w10 ⟨rfl, rfl⟩
              have q2 := R9.oO.cell (j := 2) rfl
              have zz9 : gO < W9.heap.size := R9.oO.lt
              go_wp2_with (at_builtin; go_loud (refine app_law (gO + 1) rfl (.tmp 82) (.tmp 86) 22 48 (.agg #[.int .i64 0, .int .i64 0, .int .i64 0]) 3 24 rfl Try.underlying22 info48 rfl (by omega) (by omega) (.slice A8 i c8) i 1 (ndCells (List.take i (lyL s l S))) [.int .i64 0, .int .i64 u, .int .i64 u] rfl rfl rfl (one_nds [⟨0, u, u⟩]) row9 (by omega) (by omega) ?_; intro v7 w7 hr7 hg7 hat7; have R7 := R9.row hg7 HZB.out HVB.out (by omega); replace q2 := R7.oO.cell (j := 2) rfl; have f2 := R7.oO.frozen 2; have hr8 : w7.ownsRow (gO + 1) 48 3 v7 (i + 1) (ndCells (List.take i (lyL s l S) ++ [⟨0, u, u⟩])) := (by rw [← ndCells_snoc]; exact hr7); obtain ⟨A9, c9, rfl, hr9⟩ := row_form hr8; clear hr7 hr8 hg7 hat7))
              go_roundg (S.length - (i + 1))
              case rel => exact ⟨i + 1, .slice A9 (i + 1) c9, by omega, rfl, by go_num, gb_set R7.hG 2 _, by simpa using R7.oO.set 2 (.slice A9 (i + 1) c9), by rw [HTK.out, HNN.out]; exact ownsRow_setCell_below hr9 (by dsimp only; omega) _⟩
              case measure => omega
            · have dj : decide (p.j < ia (lv s l) p.x.toNat) = false := decide_eq_false hj
              have hx : (d.z < 0 ∨ ((⟨d.z, p.j + 1⟩ : Pc) ∈ S ∧ pcIn ⟨d.z, p.j + 1⟩)) ∧ (d.o < 0 ∨ ((⟨d.o, p.j + 1⟩ : Pc) ∈ S ∧ pcIn ⟨d.o, p.j + 1⟩)) := by
                have e0 : sc0 s l p = ⟨d.z, p.j + 1⟩ := by rw [HD.out.2.1]; exact if_neg hj
                have e1 : sc1 s l p = ⟨d.o, p.j + 1⟩ := by rw [HD.out.2.2]; exact if_neg hj
                have h := HSC.out
                rw [e0, e1] at h
                dsimp only at h
                have hz := HD.out.2.1
                have ho := HD.out.2.2
                refine ⟨?_, ?_⟩
                · rcases h.1 with h | h | h
                  · exact .inl (by omega)
                  · exact .inl (by omega)
                  · exact .inr ⟨h.2, HPI.out _ h.1 (by omega)⟩
                · rcases h.2 with h | h | h
                  · exact .inl (by omega)
                  · exact .inl (by omega)
                  · exact .inr ⟨h.2, HPI.out _ h.1 (by omega)⟩
              have HNN := Lib.hid (HN1.out hj)
              have HX := Lib.hid hx; clear hx hj
              obtain ⟨u, hu⟩ : ∃ u, u = fnd S d.z (p.j + 1) := ⟨_, rfl⟩
              obtain ⟨u', hu'⟩ : ∃ u, u = fnd S d.o (p.j + 1) := ⟨_, rfl⟩
              have C := C88.out d.z (p.j + 1) HX.out.1
              have C' := C88.out d.o (p.j + 1) HX.out.2
              rw [← hu] at C HNN
              rw [← hu'] at C' HNN
              clear hu hu'
              have HC := Lib.hid C; have HC' := Lib.hid C'; clear C C'
              go_quiet (fail)
              go_wp2_with fail
              obtain ⟨W9, hW9⟩ : ∃ x, x = W8.drewN nq := ⟨_, rfl⟩
              have K9 : Kept W8 W9 := by rw [hW9]; exact below_drewN (kept_refl _) nq
              rw [← hW9]
              clear hW9 p0 p1 q4 qL
              have R9 := R8.kept K9
              have row9 := row_kept row8 K9
              have zz9 : gO < W9.heap.size := R9.oO.lt
              refine region_x (fun w' => RgS Wb gO gP (gP + 1) n t (.slice A8 i c8) p d w') [22] (by kernel_rfl) ?_ (fun hHeld => ?_)
              · exact R9.kept (kept_drew (kept_refl _))
              refine x_take (i := 0) (oi := { dst := some 89, op := Op.fieldAddr 24 (Operand.tmp 11) 2, type := 0, pos := "branch.go:346", after := #[], guard := none }) (v := ?_) rfl (by kernel_rfl) (by kernel_rfl) (by kernel_rfl) (by kernel_rfl) (by kernel_rfl) (fun _ _ _ h => h) (Or.inl ⟨rfl, ?_⟩) (by assumption) ?_
              rotate_left
              · (intro w' hSw; have h0 := hSw.oO.cell (j := 2) rfl; have h1 := hSw.oP.cell (j := 1) rfl; have h2 := hSw.oN.cell (j := 0) rfl; have h3 := hSw.oN.cell (j := 1) rfl; have h4 := hSw.oN.cell (j := 2) rfl; go_simp; try with_reducible rfl)
              try simp only [Act.put, List.setIfInBounds_toArray, List.set_cons_zero, List.set_cons_succ]
              refine x_take (i := 1) (oi := { dst := some 90, op := Op.load 22 (Operand.tmp 89), type := 22, pos := "branch.go:346", after := #[{ on := 0, ground := Ground.data }], guard := none }) (v := ?_) rfl (by kernel_rfl) (by kernel_rfl) (by kernel_rfl) (by kernel_rfl) (by kernel_rfl) (fun _ _ _ h => h) (Or.inl ⟨rfl, ?_⟩) (by assumption) ?_
              rotate_left
              · (intro w' hSw; have h0 := hSw.oO.cell (j := 2) rfl; have h1 := hSw.oP.cell (j := 1) rfl; have h2 := hSw.oN.cell (j := 0) rfl; have h3 := hSw.oN.cell (j := 1) rfl; have h4 := hSw.oN.cell (j := 2) rfl; go_simp; try with_reducible rfl)
              try simp only [Act.put, List.setIfInBounds_toArray, List.set_cons_zero, List.set_cons_succ]
              refine x_take (i := 2) (oi := { dst := some 91, op := Op.fieldAddr 48 (Operand.tmp 14) 0, type := 0, pos := "branch.go:346", after := #[], guard := none }) (v := ?_) rfl (by kernel_rfl) (by kernel_rfl) (by kernel_rfl) (by kernel_rfl) (by kernel_rfl) (fun _ _ _ h => h) (Or.inl ⟨rfl, ?_⟩) (by assumption) ?_
              rotate_left
              · (intro w' hSw; have h0 := hSw.oO.cell (j := 2) rfl; have h1 := hSw.oP.cell (j := 1) rfl; have h2 := hSw.oN.cell (j := 0) rfl; have h3 := hSw.oN.cell (j := 1) rfl; have h4 := hSw.oN.cell (j := 2) rfl; go_simp; try with_reducible rfl)
              try simp only [Act.put, List.setIfInBounds_toArray, List.set_cons_zero, List.set_cons_succ]
              refine x_take (i := 3) (oi := { dst := some 92, op := Op.load 3 (Operand.tmp 91), type := 3, pos := "branch.go:346", after := #[{ on := 2, ground := Ground.data }], guard := none }) (v := ?_) rfl (by kernel_rfl) (by kernel_rfl) (by kernel_rfl) (by kernel_rfl) (by kernel_rfl) (fun _ _ _ h => h) (Or.inl ⟨rfl, ?_⟩) (by assumption) ?_
              rotate_left
              · (intro w' hSw; have h0 := hSw.oO.cell (j := 2) rfl; have h1 := hSw.oP.cell (j := 1) rfl; have h2 := hSw.oN.cell (j := 0) rfl; have h3 := hSw.oN.cell (j := 1) rfl; have h4 := hSw.oN.cell (j := 2) rfl; go_simp; try with_reducible rfl)
              try simp only [Act.put, List.setIfInBounds_toArray, List.set_cons_zero, List.set_cons_succ]
              refine x_take (i := 4) (oi := { dst := some 93, op := Op.move (Operand.tmp 10), type := 33, pos := "branch.go:346", after := #[], guard := none }) (v := ?_) rfl (by kernel_rfl) (by kernel_rfl) (by kernel_rfl) (by kernel_rfl) (by kernel_rfl) (fun _ _ _ h => h) (Or.inl ⟨rfl, ?_⟩) (by assumption) ?_
              rotate_left
              · (intro w' hSw; have h0 := hSw.oO.cell (j := 2) rfl; have h1 := hSw.oP.cell (j := 1) rfl; have h2 := hSw.oN.cell (j := 0) rfl; have h3 := hSw.oN.cell (j := 1) rfl; have h4 := hSw.oN.cell (j := 2) rfl; go_simp; try with_reducible rfl)
              try simp only [Act.put, List.setIfInBounds_toArray, List.set_cons_zero, List.set_cons_succ]
              refine x_take (i := 5) (oi := { dst := some 94, op := Op.fieldAddr 48 (Operand.tmp 14) 1, type := 0, pos := "branch.go:346", after := #[], guard := none }) (v := ?_) rfl (by kernel_rfl) (by kernel_rfl) (by kernel_rfl) (by kernel_rfl) (by kernel_rfl) (fun _ _ _ h => h) (Or.inl ⟨rfl, ?_⟩) (by assumption) ?_
              rotate_left
              · (intro w' hSw; have h0 := hSw.oO.cell (j := 2) rfl; have h1 := hSw.oP.cell (j := 1) rfl; have h2 := hSw.oN.cell (j := 0) rfl; have h3 := hSw.oN.cell (j := 1) rfl; have h4 := hSw.oN.cell (j := 2) rfl; go_simp; try with_reducible rfl)
              try simp only [Act.put, List.setIfInBounds_toArray, List.set_cons_zero, List.set_cons_succ]
              refine x_take (i := 6) (oi := { dst := some 95, op := Op.load 3 (Operand.tmp 94), type := 3, pos := "branch.go:346", after := #[{ on := 5, ground := Ground.data }], guard := none }) (v := ?_) rfl (by kernel_rfl) (by kernel_rfl) (by kernel_rfl) (by kernel_rfl) (by kernel_rfl) (fun _ _ _ h => h) (Or.inl ⟨rfl, ?_⟩) (by assumption) ?_
              rotate_left
              · (intro w' hSw; have h0 := hSw.oO.cell (j := 2) rfl; have h1 := hSw.oP.cell (j := 1) rfl; have h2 := hSw.oN.cell (j := 0) rfl; have h3 := hSw.oN.cell (j := 1) rfl; have h4 := hSw.oN.cell (j := 2) rfl; go_simp; try with_reducible rfl)
              try simp only [Act.put, List.setIfInBounds_toArray, List.set_cons_zero, List.set_cons_succ]
              refine x_take (i := 7) (oi := { dst := some 96, op := Op.fieldAddr 102 (Operand.tmp 13) 1, type := 0, pos := "branch.go:346", after := #[], guard := none }) (v := ?_) rfl (by kernel_rfl) (by kernel_rfl) (by kernel_rfl) (by kernel_rfl) (by kernel_rfl) (fun _ _ _ h => h) (Or.inl ⟨rfl, ?_⟩) (by assumption) ?_
              rotate_left
              · (intro w' hSw; have h0 := hSw.oO.cell (j := 2) rfl; have h1 := hSw.oP.cell (j := 1) rfl; have h2 := hSw.oN.cell (j := 0) rfl; have h3 := hSw.oN.cell (j := 1) rfl; have h4 := hSw.oN.cell (j := 2) rfl; go_simp; try with_reducible rfl)
              try simp only [Act.put, List.setIfInBounds_toArray, List.set_cons_zero, List.set_cons_succ]
              refine x_take (i := 8) (oi := { dst := some 97, op := Op.load 3 (Operand.tmp 96), type := 3, pos := "branch.go:346", after := #[{ on := 7, ground := Ground.data }], guard := none }) (v := ?_) rfl (by kernel_rfl) (by kernel_rfl) (by kernel_rfl) (by kernel_rfl) (by kernel_rfl) (fun _ _ _ h => h) (Or.inl ⟨rfl, ?_⟩) (by assumption) ?_
              rotate_left
              · (intro w' hSw; have h0 := hSw.oO.cell (j := 2) rfl; have h1 := hSw.oP.cell (j := 1) rfl; have h2 := hSw.oN.cell (j := 0) rfl; have h3 := hSw.oN.cell (j := 1) rfl; have h4 := hSw.oN.cell (j := 2) rfl; go_simp; try with_reducible rfl)
              try simp only [Act.put, List.setIfInBounds_toArray, List.set_cons_zero, List.set_cons_succ]
              refine x_take (i := 9) (oi := { dst := some 98, op := Op.binOp BinOp.add 3 (Operand.tmp 97) (Operand.const (Value.int IntKind.i64 1)) 3, type := 3, pos := "branch.go:346", after := #[{ on := 8, ground := Ground.data }], guard := none }) (v := ?_) rfl (by kernel_rfl) (by kernel_rfl) (by kernel_rfl) (by kernel_rfl) (by kernel_rfl) (fun _ _ _ h => h) (Or.inl ⟨rfl, ?_⟩) (by assumption) ?_
              rotate_left
              · (intro w' hSw; have h0 := hSw.oO.cell (j := 2) rfl; have h1 := hSw.oP.cell (j := 1) rfl; have h2 := hSw.oN.cell (j := 0) rfl; have h3 := hSw.oN.cell (j := 1) rfl; have h4 := hSw.oN.cell (j := 2) rfl; go_simp; try with_reducible rfl)
              try simp only [Act.put, List.setIfInBounds_toArray, List.set_cons_zero, List.set_cons_succ]
              refine x_call (i := 10) (oi := { dst := some 99, op := Op.call { callee := Callee.value (Operand.tmp 93), args := #[Operand.tmp 95, Operand.tmp 98], argTypes := #[3, 3] }, type := 3, pos := "branch.go:346", after := #[{ on := 4, ground := Ground.data }, { on := 6, ground := Ground.data }, { on := 9, ground := Ground.data }], guard := none }) (v := _) rfl (by kernel_rfl) (by kernel_rfl) (by kernel_rfl) (by kernel_rfl) (by kernel_rfl) (fun _ _ _ h => h) rfl 88 _ ?_ (fun w' hSw => HC.out w' hSw.hG) (by assumption) ?_
              · (intro w' hSw; go_simp; try with_reducible rfl)
              try simp only [Act.put, List.setIfInBounds_toArray, List.set_cons_zero, List.set_cons_succ]
              refine x_take (i := 11) (oi := { dst := some 100, op := Op.move (Operand.tmp 10), type := 33, pos := "branch.go:346", after := #[], guard := none }) (v := ?_) rfl (by kernel_rfl) (by kernel_rfl) (by kernel_rfl) (by kernel_rfl) (by kernel_rfl) (fun _ _ _ h => h) (Or.inl ⟨rfl, ?_⟩) (by assumption) ?_
              rotate_left
              · (intro w' hSw; have h0 := hSw.oO.cell (j := 2) rfl; have h1 := hSw.oP.cell (j := 1) rfl; have h2 := hSw.oN.cell (j := 0) rfl; have h3 := hSw.oN.cell (j := 1) rfl; have h4 := hSw.oN.cell (j := 2) rfl; go_simp; try with_reducible rfl)
              try simp only [Act.put, List.setIfInBounds_toArray, List.set_cons_zero, List.set_cons_succ]
              refine x_take (i := 12) (oi := { dst := some 101, op := Op.fieldAddr 48 (Operand.tmp 14) 2, type := 0, pos := "branch.go:346", after := #[], guard := none }) (v := ?_) rfl (by kernel_rfl) (by kernel_rfl) (by kernel_rfl) (by kernel_rfl) (by kernel_rfl) (fun _ _ _ h => h) (Or.inl ⟨rfl, ?_⟩) (by assumption) ?_
              rotate_left
              · (intro w' hSw; have h0 := hSw.oO.cell (j := 2) rfl; have h1 := hSw.oP.cell (j := 1) rfl; have h2 := hSw.oN.cell (j := 0) rfl; have h3 := hSw.oN.cell (j := 1) rfl; have h4 := hSw.oN.cell (j := 2) rfl; go_simp; try with_reducible rfl)
              try simp only [Act.put, List.setIfInBounds_toArray, List.set_cons_zero, List.set_cons_succ]
              refine x_take (i := 13) (oi := { dst := some 102, op := Op.load 3 (Operand.tmp 101), type := 3, pos := "branch.go:346", after := #[{ on := 12, ground := Ground.data }], guard := none }) (v := ?_) rfl (by kernel_rfl) (by kernel_rfl) (by kernel_rfl) (by kernel_rfl) (by kernel_rfl) (fun _ _ _ h => h) (Or.inl ⟨rfl, ?_⟩) (by assumption) ?_
              rotate_left
              · (intro w' hSw; have h0 := hSw.oO.cell (j := 2) rfl; have h1 := hSw.oP.cell (j := 1) rfl; have h2 := hSw.oN.cell (j := 0) rfl; have h3 := hSw.oN.cell (j := 1) rfl; have h4 := hSw.oN.cell (j := 2) rfl; go_simp; try with_reducible rfl)
              try simp only [Act.put, List.setIfInBounds_toArray, List.set_cons_zero, List.set_cons_succ]
              refine x_take (i := 14) (oi := { dst := some 103, op := Op.fieldAddr 102 (Operand.tmp 13) 1, type := 0, pos := "branch.go:346", after := #[], guard := none }) (v := ?_) rfl (by kernel_rfl) (by kernel_rfl) (by kernel_rfl) (by kernel_rfl) (by kernel_rfl) (fun _ _ _ h => h) (Or.inl ⟨rfl, ?_⟩) (by assumption) ?_
              rotate_left
              · (intro w' hSw; have h0 := hSw.oO.cell (j := 2) rfl; have h1 := hSw.oP.cell (j := 1) rfl; have h2 := hSw.oN.cell (j := 0) rfl; have h3 := hSw.oN.cell (j := 1) rfl; have h4 := hSw.oN.cell (j := 2) rfl; go_simp; try with_reducible rfl)
              try simp only [Act.put, List.setIfInBounds_toArray, List.set_cons_zero, List.set_cons_succ]
              refine x_take (i := 15) (oi := { dst := some 104, op := Op.load 3 (Operand.tmp 103), type := 3, pos := "branch.go:346", after := #[{ on := 14, ground := Ground.data }], guard := none }) (v := ?_) rfl (by kernel_rfl) (by kernel_rfl) (by kernel_rfl) (by kernel_rfl) (by kernel_rfl) (fun _ _ _ h => h) (Or.inl ⟨rfl, ?_⟩) (by assumption) ?_
              rotate_left
              · (intro w' hSw; have h0 := hSw.oO.cell (j := 2) rfl; have h1 := hSw.oP.cell (j := 1) rfl; have h2 := hSw.oN.cell (j := 0) rfl; have h3 := hSw.oN.cell (j := 1) rfl; have h4 := hSw.oN.cell (j := 2) rfl; go_simp; try with_reducible rfl)
              try simp only [Act.put, List.setIfInBounds_toArray, List.set_cons_zero, List.set_cons_succ]
              refine x_take (i := 16) (oi := { dst := some 105, op := Op.binOp BinOp.add 3 (Operand.tmp 104) (Operand.const (Value.int IntKind.i64 1)) 3, type := 3, pos := "branch.go:346", after := #[{ on := 15, ground := Ground.data }], guard := none }) (v := ?_) rfl (by kernel_rfl) (by kernel_rfl) (by kernel_rfl) (by kernel_rfl) (by kernel_rfl) (fun _ _ _ h => h) (Or.inl ⟨rfl, ?_⟩) (by assumption) ?_
              rotate_left
              · (intro w' hSw; have h0 := hSw.oO.cell (j := 2) rfl; have h1 := hSw.oP.cell (j := 1) rfl; have h2 := hSw.oN.cell (j := 0) rfl; have h3 := hSw.oN.cell (j := 1) rfl; have h4 := hSw.oN.cell (j := 2) rfl; go_simp; try with_reducible rfl)
              try simp only [Act.put, List.setIfInBounds_toArray, List.set_cons_zero, List.set_cons_succ]
              refine x_call (i := 17) (oi := { dst := some 106, op := Op.call { callee := Callee.value (Operand.tmp 100), args := #[Operand.tmp 102, Operand.tmp 105], argTypes := #[3, 3] }, type := 3, pos := "branch.go:346", after := #[{ on := 11, ground := Ground.data }, { on := 13, ground := Ground.data }, { on := 16, ground := Ground.data }, { on := 10, ground := Ground.chain }], guard := none }) (v := _) rfl (by kernel_rfl) (by kernel_rfl) (by kernel_rfl) (by kernel_rfl) (by kernel_rfl) (fun _ _ _ h => h) rfl 88 _ ?_ (fun w' hSw => HC'.out w' hSw.hG) (by assumption) ?_
              · (intro w' hSw; go_simp; try with_reducible rfl)
              try simp only [Act.put, List.setIfInBounds_toArray, List.set_cons_zero, List.set_cons_succ]
              refine x_take (i := 18) (oi := { dst := some 107, op := Op.build 48 #[(0, Operand.tmp 92), (1, Operand.tmp 99), (2, Operand.tmp 106)], type := 48, pos := "branch.go:346", after := #[{ on := 3, ground := Ground.data }, { on := 10, ground := Ground.data }, { on := 17, ground := Ground.data }], guard := none }) (v := ?_) rfl (by kernel_rfl) (by kernel_rfl) (by kernel_rfl) (by kernel_rfl) (by kernel_rfl) (fun _ _ _ h => h) (Or.inl ⟨rfl, ?_⟩) (by assumption) ?_
              rotate_left
              · (intro w' hSw; have h0 := hSw.oO.cell (j := 2) rfl; have h1 := hSw.oP.cell (j := 1) rfl; have h2 := hSw.oN.cell (j := 0) rfl; have h3 := hSw.oN.cell (j := 1) rfl; have h4 := hSw.oN.cell (j := 2) rfl; go_simp; try with_reducible rfl)
              try simp only [Act.put, List.setIfInBounds_toArray, List.set_cons_zero, List.set_cons_succ]
              refine x_one (i := 19) (o := { dst := some 108, op := Op.buildSlice 22 1 #[(0, Operand.tmp 107)], type := 22, pos := "branch.go:346", after := #[{ on := 18, ground := Ground.data }], guard := none }) (by kernel_rfl) rfl (fun K hK => ?_)
              (go_simp; have RS1 := (R9.kept (kept_drew (kept_refl _))).kept (kept_alloc (kept_refl _) (.cells #[.int .i64 d.v, .int .i64 u, .int .i64 u'] 48)))
              refine hK.out _ _ ?_ (fun hHeld => ?_)
              · (try dsimp only); first | exact RS2 | exact RS1
              clear hK K
              try simp only [Act.put, List.setIfInBounds_toArray, List.set_cons_zero, List.set_cons_succ]
              refine x_one (i := 20) (o := { dst := some 109, op := Op.call { callee := Callee.builtin Builtin.append, args := #[Operand.tmp 90, Operand.tmp 108], argTypes := #[22, 22] }, type := 22, pos := "branch.go:346", after := #[{ on := 1, ground := Ground.data }, { on := 19, ground := Ground.data }, { on := 17, ground := Ground.chain }], guard := none }) (by kernel_rfl) rfl (fun K hK => ?_)
              (refine step_own (gO + 1) rfl (.tmp 90) (.tmp 108) 22 48 (.agg #[.int .i64 0, .int .i64 0, .int .i64 0]) 3 24 rfl Try.underlying22 info48 rfl (by omega) (by omega) (.slice A8 i c8) i 1 1 ⟨W9.heap.size, 0, none⟩ (ndCells (List.take i (lyL s l S))) [.int .i64 d.v, .int .i64 u, .int .i64 u'] rfl rfl rfl (news_rd (Own.new W9.drew 48 [.int .i64 d.v, .int .i64 u, .int .i64 u']).rd) (one_nds [⟨d.v, u, u'⟩]) ((row_kept row9 (kept_drew (kept_refl W9))).alloc _) (by simp; omega) (by omega) ?_; intro v7 w7 hr7 hg7 hat7; have RS2 := RS1.row hg7 HZB.out HVB.out (by omega); have y2 := RS2.oO.cell (j := 2) rfl; have f2 := RS2.oO.frozen 2; have hr8 : w7.ownsRow (gO + 1) 48 3 v7 (i + 1) (ndCells (List.take i (lyL s l S) ++ [⟨d.v, u, u'⟩])) := (by rw [← ndCells_snoc]; exact hr7); obtain ⟨A9, c9, rfl, hr9⟩ := row_form hr8)
              refine hK.out _ _ ?_ (fun hHeld => ?_)
              · (try dsimp only); first | exact RS2 | exact RS1
              clear hK K
              try simp only [Act.put, List.setIfInBounds_toArray, List.set_cons_zero, List.set_cons_succ]
              refine x_take (i := 21) (oi := { dst := some 110, op := Op.fieldAddr 24 (Operand.tmp 11) 2, type := 0, pos := "branch.go:346", after := #[{ on := 0, ground := Ground.phase }, { on := 1, ground := Ground.phase }, { on := 2, ground := Ground.phase }, { on := 3, ground := Ground.phase }, { on := 4, ground := Ground.phase }, { on := 5, ground := Ground.phase }, { on := 6, ground := Ground.phase }, { on := 7, ground := Ground.phase }, { on := 8, ground := Ground.phase }, { on := 9, ground := Ground.phase }, { on := 10, ground := Ground.phase }, { on := 11, ground := Ground.phase }, { on := 12, ground := Ground.phase }, { on := 13, ground := Ground.phase }, { on := 14, ground := Ground.phase }, { on := 15, ground := Ground.phase }, { on := 16, ground := Ground.phase }, { on := 17, ground := Ground.phase }, { on := 18, ground := Ground.phase }, { on := 19, ground := Ground.phase }, { on := 20, ground := Ground.phase }], guard := none }) (v := ?_) rfl (by kernel_rfl) (by kernel_rfl) (by kernel_rfl) (by kernel_rfl) (by kernel_rfl) (fun _ _ _ h => h) (Or.inl ⟨rfl, ?_⟩) (by assumption) ?_
              rotate_left
              · (intro w' hSw; have h0 := hSw.oO.cell (j := 2) rfl; have h1 := hSw.oP.cell (j := 1) rfl; have h2 := hSw.oN.cell (j := 0) rfl; have h3 := hSw.oN.cell (j := 1) rfl; have h4 := hSw.oN.cell (j := 2) rfl; go_simp; try with_reducible rfl)
              try simp only [Act.put, List.setIfInBounds_toArray, List.set_cons_zero, List.set_cons_succ]
              refine x_last (i := 22) (o := { dst := none, op := Op.store 22 (Operand.tmp 110) (Operand.tmp 109), type := 0, pos := "branch.go:346", after := #[{ on := 21, ground := Ground.data }, { on := 20, ground := Ground.data }, { on := 20, ground := Ground.chain }, { on := 0, ground := Ground.phase }, { on := 1, ground := Ground.phase }, { on := 2, ground := Ground.phase }, { on := 3, ground := Ground.phase }, { on := 4, ground := Ground.phase }, { on := 5, ground := Ground.phase }, { on := 6, ground := Ground.phase }, { on := 7, ground := Ground.phase }, { on := 8, ground := Ground.phase }, { on := 9, ground := Ground.phase }, { on := 10, ground := Ground.phase }, { on := 11, ground := Ground.phase }, { on := 12, ground := Ground.phase }, { on := 13, ground := Ground.phase }, { on := 14, ground := Ground.phase }, { on := 15, ground := Ground.phase }, { on := 16, ground := Ground.phase }, { on := 17, ground := Ground.phase }, { on := 18, ground := Ground.phase }, { on := 19, ground := Ground.phase }, { on := 20, ground := Ground.phase }], guard := none }) (by kernel_rfl) rfl (by simp) (fun K hK => ?_)
              go_simp
              refine hK.out _ _ ?_
              clear hK K
              try simp only [Act.put, List.setIfInBounds_toArray, List.set_cons_zero, List.set_cons_succ]
              refine x_done (by kernel_rfl) ?_ _
              clear hr7 hr8 hg7 hat7 y2 f2
              go_wp2_with fail
              go_roundg (S.length - (i + 1))
              case rel => exact ⟨i + 1, .slice A9 (i + 1) c9, by omega, rfl, by go_num, gb_set RS2.hG 2 _, by simpa using RS2.oO.set 2 (.slice A9 (i + 1) c9), by rw [HTK.out, HNN.out]; exact ownsRow_setCell_below hr9 (by dsimp only; omega) _⟩
              case measure => omega
          · have : i = S.length := by omega
            subst this
            rw [List.take_of_length_le (by rw [lyL_length]; exact Nat.le_refl _)] at hrow
            obtain ⟨A9, c9, rfl, hr9⟩ := row_form hrow
            have q0 := oO.cell (j := 0) rfl
            have q1 := oO.cell (j := 1) rfl
            have q2 := oO.cell (j := 2) rfl
            have e0 := E.o1.cell (j := 0) rfl
            have e1 := E.o1.cell (j := 1) rfl
            have e2 := E.o1.cell (j := 2) rfl
            have f0 := E.o1.frozen 0
            have f1 := E.o1.frozen 1
            have f2 := E.o1.frozen 2
            have o1 := E.o1
            have KE := E.K
            go_wp2_with fail
            have pr := ownsRow_setCell_below (ownsRow_setCell_below (ownsRow_setCell_below hr9 (a := ⟨w.heap.size + 1, 0, none⟩) (by dsimp only; omega) (.int .i64 n)) (a := ⟨w.heap.size + 1, 1, none⟩) (by dsimp only; omega) (.int .i64 t)) (a := ⟨w.heap.size + 1, 2, none⟩) (by dsimp only; omega) (.slice A9 S.length c9)
            have pk := kept_set (g := w.heap.size + 1) (j := 2) (kept_set (g := w.heap.size + 1) (j := 1) (kept_set (g := w.heap.size + 1) (j := 0) KE (by omega) (.int .i64 n)) (by omega) (.int .i64 t)) (by omega) (.slice A9 S.length c9)
            have o3 := ((o1.set 0 (.int .i64 n)).set 1 (.int .i64 t)).set 2 (.slice A9 S.length c9)
            obtain ⟨W2, hW2⟩ : ∃ W2, W2 = ((wr.setCell ⟨w.heap.size + 1, 0, none⟩ (.int .i64 n)).setCell ⟨w.heap.size + 1, 1, none⟩ (.int .i64 t)).setCell ⟨w.heap.size + 1, 2, none⟩ (.slice A9 S.length c9) := ⟨_, rfl⟩
            rw [← hW2] at pr pk o3 ⊢
            clear hW2 q0 q1 q2 e0 e1 e2
            have q0 := o3.cell (j := 0) rfl
            have q1 := o3.cell (j := 1) rfl
            have q2 := o3.cell (j := 2) rfl
            exact bodyPost_ret (v := .tuple #[.agg #[.int .i64 n, .int .i64 t, .slice A9 S.length c9], .int .i64 0]) (by simp [results, Try.results47, go_sem, q0, q1, q2]) rfl (by rw [HP.out]; unfold LaPost; rw [← HOV.out, if_neg HB.out]; exact ⟨S, _, HSR.out, rfl, A9, c9, by rw [lyL_length, HT.out], by rw [lyL_length]; exact pr.mono (by omega), pk⟩)
end Go.Proofs.Ytinpmdekdfgiiaa
