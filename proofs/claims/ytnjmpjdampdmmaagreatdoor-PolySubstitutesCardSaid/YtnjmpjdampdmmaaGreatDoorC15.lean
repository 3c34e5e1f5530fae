/- Polynomials: the program's Text. -/
import Derived.Test.YtnjmpjdampdmmaaGreatDoorC14
set_option linter.unusedVariables false
set_option linter.unusedSimpArgs false
namespace Go.Proofs.YtnjmpjdampdmmaaGreatDoor
open Go.RowKit Go.Maps Go.Shelf

def termW (p : List Tm) (j : Nat) : List UInt8 := (if j = 0 then [] else [32, 43, 32]) ++ wordTo (tmv p j).c (tmv p j).e (tmv p j).e.length
def textTo (p : List Tm) (k : Nat) : List UInt8 := (List.range k).flatMap (termW p)
theorem textTo_succ (p : List Tm) (k : Nat) : textTo p (k + 1) = textTo p k ++ termW p k := by
  unfold textTo
  rw [List.range_succ, List.flatMap_append]
  simp
theorem textTo_mono (p : List Tm) {k m : Nat} (h : k ≤ m) : (textTo p k).length ≤ (textTo p m).length := by
  induction h with
  | refl => exact Nat.le_refl _
  | step h ih => rw [textTo_succ, List.length_append]; omega
theorem isB_kept {B b : Nat} {cs : List Value} {w w' : World} (h : Lib.IsBuilderF 89 5 B b cs w) (k : Kept w w') : Lib.IsBuilderF 89 5 B b cs w' := by
  have kg : w.grownBy w' none := ⟨k.os, k.tape, k.output, k.size, fun i hi _ => k.block i hi⟩
  have aux : ∀ p, Lib.BuilderAtF 89 5 B b p cs w → Lib.BuilderAtF 89 5 B b p cs w' := fun p ⟨h1, v, h2, h3, h4⟩ => ⟨h1, v, (k.block b (Array.getElem?_eq_some_iff.1 h2).1).trans h2, h3.kept kg (Classical.em _), h4⟩
  exact h.imp (aux _) (aux _)
theorem isB_new (w : World) : Lib.IsBuilderF 89 5 w.heap.size w.heap.size (Lib.byteCells []) (w.alloc (.cells #[.pointer none, .slice none 0 0] 89)) :=
  Lib.IsBuilderF.of (Lib.fresh_isBuilder 89 5 w)
theorem Own.others {w w' : World} {g b : Nat} {cs : List Value} (h : Own w g 64 cs) (k : Lib.OthersKept 5 (some b) w w') (ne : g ≠ b) : Own w' g 64 cs := k g _ h (fun e => ne (by injection e)) (fun c fz e => by injection e with _ e; cases e)
theorem builderLen58 (B b : Nat) (l : List UInt8) (L : Nat) (hL : L = l.length) (w : World) (h : Lib.IsBuilderF 89 5 B b (Lib.byteCells l) w) : Calls Tryz.prog 59 #[.pointer (some ⟨b, 0, none⟩)] w fun e w' => e = .returned (.int .i64 (L : Int)) ∧ w' = w := by
  subst hL
  have := Any.Builder_Len_f Tryz.lays170 B b (Lib.byteCells l) w h
  rwa [Lib.byteCells_length] at this
theorem builderString59 (B b : Nat) (l : List UInt8) (w : World) (h : Lib.IsBuilderF 89 5 B b (Lib.byteCells l) w) (hB : B ≤ w.heap.size) : Calls Tryz.prog 60 #[.pointer (some ⟨b, 0, none⟩)] w fun e w' => e = .returned (.string ⟨l.toArray⟩) ∧ Below B w w' :=
  (Any.Builder_String_any_f Tryz.lays169 Tryz.Builder_Extra_169 B b l w h hB).mono fun _ _ ⟨h1, _, h2⟩ => ⟨h1, h2⟩
theorem cmp57_no (L : Nat) (h : L ≤ 40000) (w : World) : Calls Tryz.prog 58 #[.int .i64 (L : Int), .int .i64 40000] w fun e w' => ∃ v : Int, e = .returned (.int .i64 v) ∧ decide (0 < v) = false ∧ w' = w := by
  refine (cmp57_any (L : Int) 40000 w).mono ?_
  rintro e w' ⟨rfl, rfl⟩
  refine ⟨_, rfl, ?_, rfl⟩
  split
  · rfl
  · rw [if_neg (by omega)]; rfl
theorem cmp57_yes (L : Nat) (h : 40000 < L) (w : World) : Calls Tryz.prog 58 #[.int .i64 (L : Int), .int .i64 40000] w fun e w' => e = .returned (.int .i64 1) ∧ w' = w := by
  refine (cmp57_any (L : Int) 40000 w).mono ?_
  rintro e w' ⟨rfl, rfl⟩
  rw [if_neg (by omega), if_pos (by omega)]
  exact ⟨rfl, rfl⟩
theorem kept_below {w0 w w' : World} {B : Nat} (h : Kept w0 w) (k : Below B w w') (hB : w0.heap.size ≤ B) : Kept w0 w' := h.trans (k.mono hB)
/-- What Text returns. -/
def textV (p : List Tm) : Value := if p.length = 0 then .tuple #[.string ⟨#[48]⟩, .int .i64 0] else if (textTo p p.length).length ≤ 40000 then .tuple #[.string ⟨(textTo p p.length).toArray⟩, .int .i64 0] else .tuple #[.string ⟨#[]⟩, .int .i64 5]
set_option maxRecDepth 100000 in
set_option maxHeartbeats 1000000 in
theorem text24_bad (P M n : Int) (p : List Tm) (A : Option Addr) (c : Nat) (w : World) (hP : RP w A p) (hl : p.length ≤ 140737488355328) (hv : vld (ordF P M) n p = false) :
    Calls Tryz.prog 28 #[fV P M, .int .i64 n, .slice A p.length c] w fun e w' => e = .returned (.tuple #[.string ⟨#[]⟩, .int .i64 1]) ∧ Kept w w' := by
  have C25 := Lib.hid fun w' (k : Kept w w') => valid25_any P M n p A c w' (hP.kept k) hl
  rw [hv] at C25
  unfold fV at *
  have K0 := kept_alloc (kept_refl w) (.cells #[.int .i64 P, .int .i64 M] 23)
  obtain ⟨l, hl'⟩ : ∃ l, l = p.length := ⟨_, rfl⟩
  rw [← hl'] at C25 ⊢
  clear hP hv hl hl'
  go_enter Tryz.func28, Tryz.ntmps28
  go_wp2_with (go_at_call 29; ((with_reducible refine (C25.out _ K0).mono ?_); rintro e w1 ⟨rfl, k1⟩))
  go_ret2
  exact ⟨rfl, kept_trans K0 k1⟩
set_option maxRecDepth 100000 in
set_option maxHeartbeats 1000000 in
theorem text24_any (P M n : Int) (p : List Tm) (A : Option Addr) (c : Nat) (w : World) (hp : PowOk w) (hP : RP w A p) (hv : vld (ordF P M) n p = true) :
    Calls Tryz.prog 28 #[fV P M, .int .i64 n, .slice A p.length c] w fun e w' => e = .returned (textV p) ∧ Kept w w' := by
  have hvp := hv
  simp only [vld, Bool.and_eq_true, decide_eq_true_eq, allN_true] at hvp
  obtain ⟨⟨⟨⟨hn0, hn⟩, hl⟩, hq0⟩, hT⟩ := hvp
  have ok : okF P M = true := by
    cases h : okF P M with
    | true => rfl
    | false => exact absurd (ord_bad h) hq0
  have hq := ord_ok ok
  have tl : ∀ k, k < p.length → (tmv p k).e.length ≤ 80 ∧ 0 ≤ (tmv p k).c ∧ (tmv p k).c ≤ 65536 ∧ ∀ x ∈ (tmv p k).e, 0 ≤ x ∧ x ≤ 65535 := fun k hk => by
    have h := tok_parts.1 (hT k hk)
    refine ⟨by omega, by omega, by omega, fun x hx => ?_⟩
    have := List.all_eq_true.1 h.2.2.2.2 x hx
    simpa [eOk] using this
  have TL := Lib.hid tl
  have C25 := Lib.hid fun w' (k : Kept w w') => valid25_any P M n p A c w' (hP.kept k) (by omega)
  rw [hv] at C25
  have C57 := Lib.hid fun a w' => cmp57_any a 40000 w'
  have HP := Lib.hid hP
  have HO := Lib.hid hp
  unfold fV at *
  have K0 := kept_alloc (kept_refl w) (.cells #[.int .i64 P, .int .i64 M] 23)
  clear hv hT hq hq0 ok tl hP hp
  obtain ⟨V, hV⟩ : ∃ V, V = textV p := ⟨_, rfl⟩
  rw [← hV]
  have HV := Lib.hid hV
  clear hV
  by_cases h0 : p.length = 0
  · have HN0 := Lib.hid h0
    obtain ⟨l, hl'⟩ : ∃ l, l = p.length := ⟨_, rfl⟩
    rw [← hl'] at C25 h0 ⊢
    subst h0
    clear hl' hl
    go_enter Tryz.func28, Tryz.ntmps28
    go_wp2_with (go_at_call 29; ((with_reducible refine (C25.out _ K0).mono ?_); rintro e w1 ⟨rfl, k1⟩))
    go_ret2
    exact ⟨show Ending.returned (.tuple #[.string ⟨#[48]⟩, .int .i64 0]) = .returned V from (by rw [HV.out]; unfold textV; rw [if_pos HN0.out]), kept_trans K0 k1⟩
  · have d0 : ((p.length : Int) == 0) = false := by have : (p.length : Int) ≠ 0 := by omega
                                                    simpa using this
    have d0' : (p.length == 0) = false := by simpa using h0
    have HN0 := Lib.hid h0
    clear h0
    go_enter Tryz.func28, Tryz.ntmps28
    go_wp2_with (go_at_call 29; ((with_reducible refine (C25.out _ K0).mono ?_); rintro e w1 ⟨rfl, k1⟩; replace K0 := kept_trans K0 k1))
    have hB := isB_new w1
    have hw1 := K0.size
    go_loopg [9, 10, 21] p.length (fun G s9 s10 s21 wr => ∃ (k : Nat) (v9 v10 : Value), k ≤ p.length ∧ G = p.length - k ∧ s9 = v9 ∧ s10 = v10 ∧ s21 = .int .i64 k ∧ Lib.IsBuilderF 89 5 w1.heap.size w1.heap.size (Lib.byteCells (textTo p k)) wr ∧ Kept w1 wr ∧ (textTo p k).length ≤ 40000)
    case atStart => exact ⟨0, _, _, by omega, rfl, rfl, rfl, rfl, hB, kept_alloc (kept_refl _) _, by simp [textTo]⟩
    case round =>
      clear hB
      obtain ⟨k, v9, v10, hk, rfl, rfl, rfl, rfl, hB, K1, hlen⟩ := hrel
      by_cases hlt : k < p.length
      · obtain ⟨ba, off, E, ce, rfl, h0, h1, hE, hlE⟩ := (HP.out.kept K0) k hlt
        replace h0 := kept_cell K1 h0
        replace h1 := kept_cell K1 h1
        have TK := Lib.hid (TL.out k hlt)
        obtain ⟨x, hx⟩ : ∃ x, x = (tmv p k).c := ⟨_, rfl⟩
        obtain ⟨el, hel⟩ : ∃ el, el = (tmv p k).e := ⟨_, rfl⟩
        obtain ⟨wd, hwd⟩ : ∃ wd, wd = wordTo x el el.length := ⟨_, rfl⟩
        have HS := Lib.hid (show textTo p (k + 1) = textTo p k ++ ((if k = 0 then [] else [32, 43, 32]) ++ wd) by rw [textTo_succ, termW, ← hx, ← hel, hwd])
        rw [← hx, ← hel] at TK
        rw [← hx] at h0
        rw [← hel] at h1 hE hlE
        have HB := Lib.hid hB
        have HE := Lib.hid hE
        have C56 := Lib.hid fun w' (kk : Kept w1 w') => word56_any x el E ce w' (HO.out.kept (kept_trans K0 kk)) (hE.kept kk) ⟨TK.out.2.1, TK.out.2.2.1⟩ (by have := TK.out.1; omega) TK.out.2.2.2
        rw [← hwd] at C56
        have HWL := Lib.hid (show wd.length ≤ 10000 by rw [hwd]; have := wordTo_len ⟨TK.out.2.1, TK.out.2.2.1⟩ TK.out.2.2.2 (by have := TK.out.1; omega) el.length (Nat.le_refl _); have := TK.out.1; omega)
        obtain ⟨sw, hsw⟩ : ∃ sw : ByteArray, sw = ⟨wd.toArray⟩ := ⟨_, rfl⟩
        have HSW := Lib.hid hsw
        rw [← hsw] at C56
        clear hx hel hwd hsw hB hE
        unfold tV at C56
        have KA : Kept wr (wr.alloc (.cells #[.int .i64 x, .slice E el.length ce] 64)) := kept_alloc (kept_refl _) _
        have o10 := Own.new wr 64 [.int .i64 x, .slice E el.length ce]
        have HLEN := Lib.hid hlen
        obtain ⟨L, hL⟩ : ∃ L, L = (textTo p (k + 1)).length := ⟨_, rfl⟩
        have C58 := Lib.hid fun w' => builderLen58 w1.heap.size w1.heap.size (textTo p (k + 1)) L hL w'
        have HL := Lib.hid hL
        clear hL
        by_cases k0 : k = 0
        · have d1 : decide ((0 : Int) < (k : Int)) = false := decide_eq_false (by omega)
          have d1' : decide (0 < k) = false := decide_eq_false (by omega)
          have HS2 := Lib.hid (show textTo p (k + 1) = textTo p k ++ wd by rw [HS.out, if_pos k0]; rfl)
          clear k0 hlen
          by_cases hL4 : L ≤ 40000
          · have C57a := Lib.hid (cmp57_no L hL4)
            have HL4 := Lib.hid hL4
            clear hL4
            go_wp2_with (first
              | (go_at_call 57; ((with_reducible refine (C56.out _ (kept_trans K1 KA)).mono ?_); rintro e w3 ⟨rfl, k3⟩; have C55 := Lib.hid (writeString55 w1.heap.size w1.heap.size (textTo p k) wd w3 (isB_kept HB.out (kept_trans KA k3)) (by have := HLEN.out; have := HWL.out; omega) (by have := K1.size; have := k3.size; have := KA.size; omega)); rw [← HS2.out, ← HSW.out] at C55))
              | (go_at_call 56; ((with_reducible refine C55.out.mono ?_); rintro e w4 ⟨rfl, hB4, k4, _⟩; have HB4 := Lib.hid hB4; have C58' := Lib.hid (C58.out _ hB4); clear hB4))
              | (go_at_call 59; ((with_reducible refine C58'.out.mono ?_); rintro e w5 ⟨rfl, rfl⟩))
              | (go_at_call 58; ((with_reducible refine (C57a.out _).mono ?_); rintro e w6 ⟨v, rfl, dv, rfl⟩)))
            go_roundg (p.length - (k + 1))
            case rel => exact ⟨k + 1, _, _, by omega, rfl, rfl, rfl, by go_num, HB4.out, kept_below (kept_trans K1 (kept_trans KA k3)) k4 (Nat.le_refl _), by rw [← HL.out]; exact HL4.out⟩
            case measure => omega
          · have C57b := Lib.hid (cmp57_yes L (by omega))
            have HL4 := Lib.hid (show 40000 < L by omega)
            clear hL4
            go_wp2_with (first
              | (go_at_call 57; ((with_reducible refine (C56.out _ (kept_trans K1 KA)).mono ?_); rintro e w3 ⟨rfl, k3⟩; have C55 := Lib.hid (writeString55 w1.heap.size w1.heap.size (textTo p k) wd w3 (isB_kept HB.out (kept_trans KA k3)) (by have := HLEN.out; have := HWL.out; omega) (by have := K1.size; have := k3.size; have := KA.size; omega)); rw [← HS2.out, ← HSW.out] at C55))
              | (go_at_call 56; ((with_reducible refine C55.out.mono ?_); rintro e w4 ⟨rfl, hB4, k4, _⟩; have C58' := Lib.hid (C58.out _ hB4); clear hB4))
              | (go_at_call 59; ((with_reducible refine C58'.out.mono ?_); rintro e w5 ⟨rfl, rfl⟩))
              | (go_at_call 58; ((with_reducible refine (C57b.out _).mono ?_); rintro e w6 ⟨rfl, rfl⟩)))
            go_ret2
            exact ⟨show Ending.returned (.tuple #[.string ⟨#[]⟩, .int .i64 5]) = .returned V from (by rw [HV.out]; unfold textV; rw [if_neg HN0.out, if_neg (by have := textTo_mono p (k := k + 1) (m := p.length) hlt; have := HL4.out; have := HL.out; omega)]), kept_trans K0 (kept_below (kept_trans K1 (kept_trans KA k3)) k4 (Nat.le_refl _))⟩
        · have d1 : decide ((0 : Int) < (k : Int)) = true := decide_eq_true (by omega)
          have d1' : decide (0 < k) = true := decide_eq_true (by omega)
          have HS2 := Lib.hid (show textTo p (k + 1) = (textTo p k ++ [32, 43, 32]) ++ wd by rw [HS.out, if_neg k0, List.append_assoc])
          have C55p := Lib.hid (writeString55 w1.heap.size w1.heap.size (textTo p k) [32, 43, 32] _ (isB_kept HB.out KA) (by have := HLEN.out; simp; omega) (by have := K1.size; have := KA.size; omega))
          have hbl : w1.heap.size < wr.heap.size := by
            rcases HB.out with ⟨_, v, h2, _⟩ | ⟨_, v, h2, _⟩ <;> exact (Array.getElem?_eq_some_iff.1 h2).1
          clear k0 hlen
          by_cases hL4 : L ≤ 40000
          · have C57a := Lib.hid (cmp57_no L hL4)
            have HL4 := Lib.hid hL4
            clear hL4
            go_wp2_with (first
              | (go_at_call 57; ((with_reducible refine (C56.out _ K1q).mono ?_); rintro e w3 ⟨rfl, k3⟩; have C55 := Lib.hid (writeString55 w1.heap.size w1.heap.size (textTo p k ++ [32, 43, 32]) wd w3 (isB_kept HQ.out k3) (by have := HLEN.out; have := HWL.out; simp; omega) (by have := K1q.size; have := k3.size; omega)); rw [← HS2.out, ← HSW.out] at C55))
              | (go_at_call 56; ((with_reducible refine C55p.out.mono ?_); clear C55p; rintro e wq ⟨rfl, hQ, kq, ok⟩; have HQ := Lib.hid hQ; have K1q := kept_below (kept_trans K1 KA) kq (Nat.le_refl _); have oq := o10.others ok (by omega); have y0 := oq.cell (j := 0) rfl; have y1 := oq.cell (j := 1) rfl; clear hQ))
              | (go_at_call 56; ((with_reducible refine C55.out.mono ?_); rintro e w4 ⟨rfl, hB4, k4, _⟩; have HB4 := Lib.hid hB4; have C58' := Lib.hid (C58.out _ hB4); clear hB4))
              | (go_at_call 59; ((with_reducible refine C58'.out.mono ?_); rintro e w5 ⟨rfl, rfl⟩))
              | (go_at_call 58; ((with_reducible refine (C57a.out _).mono ?_); rintro e w6 ⟨v, rfl, dv, rfl⟩)))
            go_roundg (p.length - (k + 1))
            case rel => exact ⟨k + 1, _, _, by omega, rfl, rfl, rfl, by go_num, HB4.out, kept_below (kept_trans K1q k3) k4 (Nat.le_refl _), by rw [← HL.out]; exact HL4.out⟩
            case measure => omega
          · have C57b := Lib.hid (cmp57_yes L (by omega))
            have HL4 := Lib.hid (show 40000 < L by omega)
            clear hL4
            go_wp2_with (first
              | (go_at_call 57; ((with_reducible refine (C56.out _ K1q).mono ?_); rintro e w3 ⟨rfl, k3⟩; have C55 := Lib.hid (writeString55 w1.heap.size w1.heap.size (textTo p k ++ [32, 43, 32]) wd w3 (isB_kept HQ.out k3) (by have := HLEN.out; have := HWL.out; simp; omega) (by have := K1q.size; have := k3.size; omega)); rw [← HS2.out, ← HSW.out] at C55))
              | (go_at_call 56; ((with_reducible refine C55p.out.mono ?_); clear C55p; rintro e wq ⟨rfl, hQ, kq, ok⟩; have HQ := Lib.hid hQ; have K1q := kept_below (kept_trans K1 KA) kq (Nat.le_refl _); have oq := o10.others ok (by omega); have y0 := oq.cell (j := 0) rfl; have y1 := oq.cell (j := 1) rfl; clear hQ))
              | (go_at_call 56; ((with_reducible refine C55.out.mono ?_); rintro e w4 ⟨rfl, hB4, k4, _⟩; have HB4 := Lib.hid hB4; have C58' := Lib.hid (C58.out _ hB4); clear hB4))
              | (go_at_call 59; ((with_reducible refine C58'.out.mono ?_); rintro e w5 ⟨rfl, rfl⟩))
              | (go_at_call 58; ((with_reducible refine (C57b.out _).mono ?_); rintro e w6 ⟨rfl, rfl⟩)))
            go_ret2
            exact ⟨show Ending.returned (.tuple #[.string ⟨#[]⟩, .int .i64 5]) = .returned V from (by rw [HV.out]; unfold textV; rw [if_neg HN0.out, if_neg (by have := textTo_mono p (k := k + 1) (m := p.length) hlt; have := HL4.out; have := HL.out; omega)]), kept_trans K0 (kept_below (kept_trans K1q k3) k4 (Nat.le_refl _))⟩
      · obtain rfl : k = p.length := by omega
        have HLEN := Lib.hid hlen
        have C59 := Lib.hid (builderString59 w1.heap.size w1.heap.size (textTo p p.length) wr hB K1.size)
        obtain ⟨sT, hsT⟩ : ∃ sT : ByteArray, sT = ⟨(textTo p p.length).toArray⟩ := ⟨_, rfl⟩
        rw [← hsT] at C59
        have HST := Lib.hid hsT
        clear hsT hlen hB
        go_wp2_with (go_at_call 60; ((with_reducible refine C59.out.mono ?_); rintro e w4 ⟨rfl, k4⟩))
        go_ret2
        exact ⟨show Ending.returned (.tuple #[.string sT, .int .i64 0]) = .returned V from (by rw [HV.out]; unfold textV; rw [if_neg HN0.out, if_pos HLEN.out, HST.out]), kept_trans K0 (kept_below K1 k4 (Nat.le_refl _))⟩
end Go.Proofs.YtnjmpjdampdmmaaGreatDoor
