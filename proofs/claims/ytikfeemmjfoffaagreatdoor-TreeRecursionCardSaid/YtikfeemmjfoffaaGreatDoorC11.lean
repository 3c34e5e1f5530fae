/- Polynomials: what becomes of a sum: (*sum).poly. -/
import Derived.Test.YtikfeemmjfoffaaGreatDoorC10
set_option linter.unusedVariables false
set_option linter.unusedSimpArgs false
namespace Go.Proofs.YtikfeemmjfoffaaGreatDoor
open Go.RowKit Go.Maps Go.Shelf Go.Sort Go.Lib

theorem rp_of_row {w : World} {B cap : Nat} {A : Option Addr} {m : Nat} {S : List Te} (h : w.ownsRow B 78 2 (.slice A m cap) S.length (teCells S)) (ex : ∀ x ∈ S, Rd w x.E (ints x.t.e)) (hl : ∀ x ∈ S, x.t.e.length ≤ 1000) : RP w A (S.map Te.t) := fun j hj => by
  have hj' : j < S.length := by simpa using hj
  have hr := row_rd h
  have e0 := teCells_get S (j * 2) (by omega)
  have e1 := teCells_get S (j * 2 + 1) (by omega)
  have d0 : j * 2 / 2 = j := by omega
  have d1 : (j * 2 + 1) / 2 = j := by omega
  have m0 : j * 2 % 2 = 0 := by omega
  have m1 : (j * 2 + 1) % 2 = 1 := by omega
  simp only [d0, m0] at e0
  simp only [d1, m1] at e1
  obtain ⟨b, off, e, hc⟩ := hr.at_ (by intro h0; rw [h0] at e0; simp at e0)
  have et : tmv (S.map Te.t) j = (S[j]'hj').t := by simp [tmv, hj']
  rw [et]
  refine ⟨b, off, (S[j]'hj').E, (S[j]'hj').cap, e, hc _ _ e0, ?_, ex _ (List.getElem_mem hj'), by have := hl _ (List.getElem_mem hj'); omega⟩
  rw [Nat.add_assoc]
  exact hc _ _ e1
theorem row_val {w : World} {B sz n : Nat} {e : TypeId} {v : Value} {cs : List Value} (h : w.ownsRow B e sz v n cs) : ∃ A c, v = .slice A n c := by
  rcases h.2 with ⟨rfl, rfl⟩ | ⟨g, cap, cur, rfl, _⟩
  · exact ⟨none, 0, rfl⟩
  · exact ⟨_, cap, rfl⟩
/-- The sum as a polynomial: the terms other than 0, rising. -/
def PolyPost (b : Nat) (T : List Tm) (w : World) (e : Ending) (w' : World) : Prop := ∃ (A : Option Addr) (c : Nat) (p : List Tm),
  e = .returned (.tuple #[.slice A p.length c, .int .i64 0]) ∧ p.Perm (T.filter fun t => decide (t.c ≠ 0)) ∧ p.Pairwise (fun a b => ¬ LtL b.e a.e) ∧ RP w' A p ∧ KG b w w'
set_option maxRecDepth 100000 in
set_option maxHeartbeats 1000000 in
theorem poly47_any (P M : Int) (n g b k : Nat) (T : List Te) (w : World) (hs : SumAt P M n g b k T w) (hn : n ≤ 80) (hT : T.length ≤ 20000) :
    Calls Tryz.prog 68 #[.pointer (some ⟨g, 0, none⟩)] w (PolyPost b (T.map Te.t) w) := by
  obtain ⟨D, hown, htab⟩ := hs.tab
  have C77 := Lib.hid fun w' k' => deleteFunc77_any b k D w' (ownsMap_kept hown k')
  have q1 := hs.o.cell (j := 2) rfl
  have glt := hs.o.lt
  have blt := hown.lt
  have HS := Lib.hid hs
  have hd := tab_del htab
  have okd := tabOk_filter hs.ok (fun x => decide (x.t.c ≠ 0))
  have hlen : (T.filter fun x => decide (x.t.c ≠ 0)).length ≤ T.length := List.length_filter_le _ _
  have hsz : Maps.size (Lib.deleteFuncD pdTe D) ≤ 20000 := by rw [tab_size hd]; omega
  obtain ⟨Z, hZ⟩ : ∃ Z, Z = Maps.size (Lib.deleteFuncD pdTe D) := ⟨_, rfl⟩
  have exd : ∀ x ∈ T.filter (fun x => decide (x.t.c ≠ 0)), RdX b w x.E (ints x.t.e) := fun x hx => hs.ex x (List.mem_filter.1 hx).1
  have ne : g ≠ b := hs.ne
  have HX := Lib.hid exd
  have HD := Lib.hid hd
  have HOK := Lib.hid okd
  rw [← hZ] at hsz
  have HZ := Lib.hid hZ
  clear hs hd okd exd htab hown hZ
  go_enter Tryz.func68, Tryz.ntmps68
  go_wp2_with (first
    | (go_at_call 89; ((with_reducible refine (C77.out _ (kept_refl _)).mono ?_); rintro e w1 ⟨rfl, hown1, hg1⟩; replace q1 := (HS.out.o.kg hg1 ne).cell (j := 2) rfl; have hb1 : b < w1.heap.size := hown1.lt; have s1 := hg1.size; have C80 := Lib.hid (callsIn_wide.1 (values80_in Fence.wide 1 trivial rfl (some b) w1))))
    | (at_len; refine wpList_len_own _ rfl _ 129 rfl 9 78 Tryz.underlying129 _ b k _ rfl hown1 ?_; rw [← HZ.out])
    | (go_at_call 92; ((with_reducible refine C80.out.mono ?_); rintro e w2 ⟨rfl, rfl⟩; have C79 := Lib.hid (sorted79_any n w1.heap.size b k _ _ (w1.alloc (.cells #[.map (some b)] 129)) ((Own.new w1 129 [.map (some b)]).cell (j := 0) rfl) (ownsMap_kept hown1 (kept_alloc (kept_refl _) _)) HD.out HOK.out (by omega) (by omega) (fun x hx => ((HX.out x hx).kg (kg_kept hg1 (kept_alloc (kept_refl _) _))).rd))))
    | (go_at_call 91; ((with_reducible refine C79.out.mono ?_); rintro e w3 ⟨v, S, rfl, p1, p2, p3, p4, k3⟩)))
  obtain ⟨A, c, rfl⟩ := row_val p3
  go_ret2
  have KG3 : KG b w w3 := kg_kept (kg_kept hg1 (kept_alloc (kept_refl _) _)) k3
  refine ⟨A, c, S.map Te.t, by simp, ?_, ?_, rp_of_row p3 (fun x hx => ((HX.out x (p1.mem_iff.1 hx)).kg KG3).rd) (fun x hx => by have := (HOK.out.good x (p1.mem_iff.1 hx)).1; omega), KG3⟩
  · have h := p1.map Te.t
    rwa [show (fun x : Te => decide (x.t.c ≠ 0)) = (fun t : Tm => decide (t.c ≠ 0)) ∘ Te.t from rfl, ← List.filter_map] at h
  · exact List.pairwise_map.2 p2
end Go.Proofs.YtikfeemmjfoffaaGreatDoor
