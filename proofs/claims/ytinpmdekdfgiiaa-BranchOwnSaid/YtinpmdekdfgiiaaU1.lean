/- What the functions of the chapter answer, as one result for every argument; where it lies. -/
import Derived.Test.YtinpmdekdfgiiaaT2
import Derived.Test.YtinpmdekdfgiiaaP9
import Derived.Test.YtinpmdekdfgiiaaM4
set_option linter.unusedVariables false
set_option linter.unusedSimpArgs false
namespace Go.Proofs.Ytinpmdekdfgiiaa
open Go.RowKit

/-- A program was made, with some error number. -/
def BrRes (n s : Int) (l : List Nd) (w : World) (e : Ending) (w' : World) : Prop := ∃ v g, e = .returned (.tuple #[v, .int .i64 g]) ∧ BrIs n s l w v w'
theorem brRes_bad {g : Int} {w : World} {e : Ending} {w' : World} (h : BrBad g w e w') : BrRes 0 0 [] w e w' :=
  ⟨_, g, h.1, none, 0, rfl, World.ownsRow_nil _ _ _ _, h.2⟩

theorem srt_list : ∀ (S T : List Pc), S.Pairwise (fun p q => p.j < q.j ∨ (p.j = q.j ∧ p.x < q.x)) → T.Pairwise (fun p q => p.j < q.j ∨ (p.j = q.j ∧ p.x < q.x)) → (∀ p, p ∈ S ↔ p ∈ T) → S = T := by
  intro S
  induction S with
  | nil =>
    intro T _ _ h
    cases T with
    | nil => rfl
    | cons b T => have := (h b).2 (by simp); simp at this
  | cons a S ih =>
    intro T hS hT h
    cases T with
    | nil => have := (h a).1 (by simp); simp at this
    | cons b T =>
      rw [List.pairwise_cons] at hS hT
      have hab : a = b := by
        have h1 := (h a).1 (by simp)
        have h2 := (h b).2 (by simp)
        rcases List.mem_cons.1 h1 with e | e
        · exact e
        · rcases List.mem_cons.1 h2 with e2 | e2
          · exact e2.symm
          · have := hT.1 a e; have := hS.1 b e2; omega
      subst hab
      rw [ih T hS.2 hT.2 (fun p => ⟨fun hp => ?_, fun hp => ?_⟩)]
      · rcases List.mem_cons.1 ((h p).1 (by simp [hp])) with e | e
        · subst e; have := hS.1 p hp; omega
        · exact e
      · rcases List.mem_cons.1 ((h p).2 (by simp [hp])) with e | e
        · subst e; have := hT.1 p hp; omega
        · exact e
theorem srt_uniq {o S T : List Pc} (hS : Srt o S) (hT : Srt o T) : S = T := by
  have pw : ∀ {S : List Pc}, Srt o S → S.Pairwise (fun p q => p.j < q.j ∨ (p.j = q.j ∧ p.x < q.x)) := fun {S} h => by
    rw [List.pairwise_iff_getElem]
    intro i j hi hj hij
    exact h.sorted i j _ _ hij (List.getElem?_eq_getElem hi) (List.getElem?_eq_getElem hj)
  exact srt_list S T (pw hS) (pw hT) (fun p => by rw [hS.mem, hT.mem])

theorem slim_all (i s : Int) (A : Option Addr) (c : Nat) (l : List Nd) (hl : l.length ≤ 100) : ∃ n' s' l', l'.length ≤ 20001 ∧ ∀ w', RN w' A l → Calls Try.prog 40 #[.agg #[.int .i64 i, .int .i64 s, .slice A l.length c]] w' (BrRes n' s' l' w') := by
  cases hv : validB i s l
  · exact ⟨0, 0, [], by simp, fun w' h => (slim_bad i s A c l w' (by omega) h hv).mono fun _ _ h => brRes_bad h⟩
  · obtain ⟨hi0, hi1, hln, hs⟩ := valid_start hv
    obtain ⟨n, rfl⟩ : ∃ n : Nat, i = n := ⟨i.toNat, by omega⟩
    obtain ⟨t1, t2, t3, t4⟩ := slim_ok hv
    exact ⟨n, _, _, by omega, fun w' h => (slim_good n s A c l w' h hv).mono fun _ _ ⟨v, e, b⟩ => ⟨v, 0, e, b⟩⟩
theorem layers_all (i s : Int) (A : Option Addr) (c : Nat) (l : List Nd) (hl : l.length ≤ 100) : ∃ n' s' l', l'.length ≤ 20001 ∧ ∀ w', RN w' A l → Calls Try.prog 47 #[.agg #[.int .i64 i, .int .i64 s, .slice A l.length c]] w' (BrRes n' s' l' w') := by
  cases hv : validB i s l
  · exact ⟨0, 0, [], by simp, fun w' h => (layers_bad i s A c l w' (by omega) h hv).mono fun _ _ h => brRes_bad h⟩
  · by_cases hb : 20000 < (visB s l).length
    · refine ⟨0, 0, [], by simp, fun w' h => (layers_any i s A c l w' h hv).mono fun _ _ h => ?_⟩
      unfold LaPost at h
      rw [if_pos hb] at h
      exact brRes_bad h
    · by_cases hS : ∃ S, Srt (visB s l) S
      · obtain ⟨S, hS⟩ := hS
        refine ⟨i, fnd S s 0, lyL s l S, by rw [lyL_length, hS.len]; omega, fun w' h => (layers_any i s A c l w' h hv).mono fun _ _ h => ?_⟩
        unfold LaPost at h
        rw [if_neg hb] at h
        obtain ⟨T, v, hT, e, b⟩ := h
        have := srt_uniq hS hT
        subst this
        exact ⟨v, 0, e, b⟩
      · refine ⟨0, 0, [], by simp, fun w' h => (layers_any i s A c l w' h hv).mono fun _ _ h => ?_⟩
        unfold LaPost at h
        rw [if_neg hb] at h
        obtain ⟨T, v, hT, e, b⟩ := h
        exact absurd ⟨T, hT⟩ hS
theorem from_all (f : Fm) (A : Option Addr) (c : Nat) (hc : cntF f ≤ 60) (hl : f.l.length ≤ 9223372036854775807) : ∃ n' s' l', l'.length ≤ 20001 ∧ ∀ w', RK w' A f.l → Calls Try.prog 44 #[fmV f A c, .int .i64 16] w' (BrRes n' s' l' w') := by
  have hd : depF f ≤ 1000 := by have := dep_le_cnt f; omega
  cases hs : shpF f
  · exact ⟨0, 0, [], by simp, fun w' h => (from_bad1 f A c 16 w' (by omega) hd hl h hs).mono fun _ _ h => brRes_bad h⟩
  · have hib := inp_bounds _ f (Nat.le_refl _) hs
    by_cases hbig : 20000 < (putF f (-1) (-2) []).2.length
    · exact ⟨0, 0, [], by simp, fun w' h => (from_big f A c 16 w' (by omega) hd hl h hs (by omega) hbig).mono fun _ _ h => brRes_bad h⟩
    · exact ⟨16, _, _, by rw [tnodes_length]; omega, fun w' h => (from_good f A c 16 w' (by omega) hd hl h hs (by omega) (by omega)).mono fun _ _ ⟨v, e, b⟩ => ⟨v, 0, e, b⟩⟩

def FrRes (f : Fm) (w : World) (e : Ending) (w' : World) : Prop := ∃ A c g, e = .returned (.tuple #[fmV f A c, .int .i64 g]) ∧ TR w' w.heap.size A c f.l ∧ Kept w w'
theorem formula_all (i s : Int) (A : Option Addr) (c : Nat) (l : List Nd) (hl : l.length ≤ 100) : ∃ f, cntF f ≤ 20000 ∧ f.l.length ≤ 9223372036854775807 ∧ ∀ w', RN w' A l → Calls Try.prog 32 #[.agg #[.int .i64 i, .int .i64 s, .slice A l.length c]] w' (FrRes f w') := by
  have bad : ∀ g w e w', FmBad g w e w' → FrRes (.mk 0 0 []) w e w' := fun g w e w' h => ⟨none, 0, g, h.1, .nil, h.2⟩
  cases hv : validB i s l
  · exact ⟨.mk 0 0 [], by simp [cntF, cntL], by simp [Fm.l], fun w' h => (formula32_bad i s A c l w' (by omega) h hv).mono fun _ _ h => bad _ _ _ _ h⟩
  · by_cases hb : 0 ≤ s ∧ (20000 < (mn l s.toNat).1 ∨ 1000 < (mn l s.toNat).2)
    · refine ⟨.mk 0 0 [], by simp [cntF, cntL], by simp [Fm.l], fun w' h => (formula32_tr i s A c l w' h hv).mono fun _ _ h => ?_⟩
      rw [if_pos hb] at h
      exact bad _ _ _ _ h
    · have ht : cntF (tf l s) ≤ 20000 := by
        obtain ⟨hi0, hi1, hln, hs⟩ := valid_start hv
        by_cases h0 : s < 0
        · rw [tf_neg _ h0]; simp [tfE, cntF, cntL]
        · obtain ⟨k, rfl⟩ : ∃ k : Nat, s = k := ⟨s.toNat, by omega⟩
          have hk : k < l.length := by omega
          have h1 := tf_size hv _ k hk (Nat.le_refl _)
          simp only [Int.toNat_natCast] at hb
          exact Nat.le_trans (h1.1 (by omega)) (by omega)
      refine ⟨tf l s, ht, tf_kids l l.length s, fun w' h => (formula32_tr i s A c l w' h hv).mono fun _ _ h => ?_⟩
      rw [if_neg hb] at h
      obtain ⟨A2, c2, e, t, k⟩ := h
      exact ⟨A2, c2, 0, e, t, k⟩
theorem table_both (i s : Int) (A : Option Addr) (c : Nat) (l : List Nd) (w : World) (hl : l.length ≤ 140737488355328) (hr : RN w A l) :
    Calls Try.prog 27 #[.agg #[.int .i64 i, .int .i64 s, .slice A l.length c]] w (TablePost i s l w) := by
  cases hv : validB i s l
  · exact table_bad i s A c l w hl hr (.inl hv)
  · by_cases h : 12 < i
    · exact table_bad i s A c l w hl hr (.inr h)
    · obtain ⟨hi0, _, _, _⟩ := valid_start hv
      obtain ⟨n, rfl⟩ : ∃ n : Nat, i = n := ⟨i.toNat, by omega⟩
      exact table_good n s A c l w hr hv (by omega)
/-- A row of truth values, and one of numbers. -/
def BsRes (t : List Bool) (w : World) (e : Ending) (w' : World) : Prop := ∃ A c g, e = .returned (.tuple #[.slice A t.length c, .int .i64 g]) ∧ w'.ownsRow w.heap.size 4 1 (.slice A t.length c) t.length (bools t) ∧ Kept w w'
theorem own_brow {w : World} {g : Nat} {B : Nat} {t : List Bool} (h : Own w g 4 (bools t)) (hB : B ≤ g) (hl : t.length ≤ 140737488355328) : w.ownsRow B 4 1 (.slice (some ⟨g, 0, none⟩) t.length t.length) t.length (bools t) :=
  h.row B 1 t.length hB (by simp) hl
theorem table_all (i s : Int) (A : Option Addr) (c : Nat) (l : List Nd) (hl : l.length ≤ 100) : ∃ t, t.length ≤ 4096 ∧ ∀ w', RN w' A l → Calls Try.prog 27 #[.agg #[.int .i64 i, .int .i64 s, .slice A l.length c]] w' (BsRes t w') := by
  have key := fun w' (h : RN w' A l) => table_both i s A c l w' (by omega) h
  have bad : ∀ g w e w', e = .returned (.tuple #[.slice none 0 0, .int .i64 g]) → Kept w w' → BsRes [] w e w' := fun g w e w' h k => ⟨none, 0, g, h, World.ownsRow_nil _ _ _ _, k⟩
  cases hv : validB i s l
  · refine ⟨[], by simp, fun w' h => (key w' h).mono fun e w'' hp => ?_⟩
    obtain ⟨k, ⟨_, e1⟩ | ⟨h1, _⟩ | ⟨h1, _⟩⟩ := hp
    · exact bad _ _ _ _ e1 k
    · rw [hv] at h1; cases h1
    · rw [hv] at h1; cases h1
  · obtain ⟨hi0, hi1, hln, hs⟩ := valid_start hv
    by_cases h12 : 12 < i
    · refine ⟨[], by simp, fun w' h => (key w' h).mono fun e w'' hp => ?_⟩
      obtain ⟨k, ⟨h1, _⟩ | ⟨_, _, e1⟩ | ⟨_, h1, _⟩⟩ := hp
      · rw [hv] at h1; cases h1
      · exact bad _ _ _ _ e1 k
      · omega
    · have hlen : (tabB i.toNat s l).length = 2 ^ i.toNat := by simp [tabB]
      have h2 : 2 ^ i.toNat ≤ 2 ^ 12 := Nat.pow_le_pow_right (by omega) (by omega)
      rw [show (2 : Nat) ^ 12 = 4096 from by decide] at h2
      refine ⟨tabB i.toNat s l, by omega, fun w' h => (key w' h).mono fun e w'' hp => ?_⟩
      obtain ⟨k, ⟨h1, _⟩ | ⟨_, h1, _⟩ | ⟨_, _, g, e1, hg, o⟩⟩ := hp
      · rw [hv] at h1; cases h1
      · omega
      · exact ⟨some ⟨g, 0, none⟩, (tabB i.toNat s l).length, 0, by rw [hlen]; exact e1, own_brow o hg (by omega), k⟩
def IsRes (p : List Int) (w : World) (e : Ending) (w' : World) : Prop := ∃ A c q g, e = .returned (.tuple #[.bool q, .slice A p.length c, .int .i64 g]) ∧ w'.ownsRow w.heap.size 3 1 (.slice A p.length c) p.length (ints p) ∧ Kept w w'
theorem run_all (i s : Int) (A : Option Addr) (c : Nat) (l : List Nd) (X : Option Addr) (cx : Nat) (x : List Bool) (hl : l.length ≤ 100) (hx : x.length ≤ 100) : ∃ p, p.length ≤ 1000000 ∧ ∀ w', RN w' A l → Rd w' X (bools x) → Calls Try.prog 26 #[.agg #[.int .i64 i, .int .i64 s, .slice A l.length c], .slice X x.length cx] w' (IsRes p w') := by
  refine ⟨if validB i s l = true ∧ (x.length : Int) = i then wayB s l (xs x) else [], ?_, fun w' h hX => (Run_any i s A c l X x.length cx x w' (by omega) h hX rfl (by omega)).mono fun e w'' hp => ?_⟩
  · split
    · next hv =>
      have h1 := way_len hv.1 (xs x)
      have h2 := lvTo_small s l l.length
      have h3 := (mxTo_le (L := lv s l) (b := 2 * (l.length : Nat)) (fun j => (h2 j).2) (by omega) l.length).2
      have h4 : lenB s l ≤ 2 * (l.length : Nat) + 1 := by unfold lenB mxL; rw [lv_length]; omega
      omega
    · simp
  · obtain ⟨v, p, e1, hr, hp, k⟩ := hp
    subst hp
    obtain ⟨A2, c2, rfl, hr2⟩ := row_form hr
    exact ⟨A2, c2, _, _, e1, hr2, k⟩
end Go.Proofs.Ytinpmdekdfgiiaa
