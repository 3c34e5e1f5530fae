/- Polynomials: lists of polynomials of one term, as the reference lays them. -/
import Derived.Test.YtikfeemmjfoffaaGreatDoorC17
set_option linter.unusedVariables false
set_option linter.unusedSimpArgs false
namespace Go.Proofs.YtikfeemmjfoffaaGreatDoor
open Go.RowKit

/-- A polynomial of one term, in a block of its own. -/
structure Pe where
  g : Nat
  x : Te
def valPe (y : Pe) : Value := .slice (some ⟨y.g, 0, none⟩) 1 1
def okPe (y : Pe) (w : World) : Prop := Own w y.g 78 (te2 y.x) ∧ w.ownsRow 0 3 1 (.slice y.x.E y.x.t.e.length y.x.cap) y.x.t.e.length (ints y.x.t.e) ∧ y.x.t.e.length ≤ 1000
theorem okPe.kept {y : Pe} {w w' : World} (h : okPe y w) (k : Kept w w') : okPe y w' := ⟨h.1.kept k, row_kept h.2.1 k, h.2.2⟩
theorem rows_apart {w : World} {B B' sz sz' n n' : Nat} {e e' : TypeId} {v v' : Value} {cs cs' : List Value} (h : w.ownsRow B e sz v n cs) (h' : w.ownsRow B' e' sz' v' n' cs') (ne : e ≠ e') : v.ownBlock = none ∨ v.ownBlock ≠ v'.ownBlock := by
  rcases h.2 with ⟨rfl, _⟩ | ⟨g, cap, cur, rfl, _, hg, _⟩
  · exact .inl rfl
  · refine .inr fun e0 => ?_
    rcases h'.2 with ⟨rfl, _⟩ | ⟨g', cap', cur', rfl, _, hg', _⟩
    · simp [Value.ownBlock] at e0
    · simp only [Value.ownBlock, Option.some.injEq] at e0
      have e1 : g = g' := by simpa using e0
      subst e1
      rw [hg] at hg'
      injection hg' with hg'
      injection hg' with _ h2
      exact ne h2
theorem own_apart {w : World} {B sz n g : Nat} {e e' : TypeId} {v : Value} {cs cs' : List Value} (h : Own w g e cs) (h' : w.ownsRow B e' sz v n cs') (ne : e ≠ e') : some g ≠ v.ownBlock := fun e0 => by
  rcases h'.2 with ⟨rfl, _⟩ | ⟨g', cap', cur', rfl, _, hg', _⟩
  · simp [Value.ownBlock] at e0
  · have e1 : g = g' := by simpa [Value.ownBlock] using e0
    subst e1
    unfold Own at h
    rw [h] at hg'
    injection hg' with hg'
    injection hg' with _ h2
    exact ne h2
theorem okPe.grow {y : Pe} {w w' : World} {B n : Nat} {v : Value} {cs : List Value} (h : okPe y w) (hr : w.ownsRow B 35 1 v n cs) (hg : w.grownBy w' v.ownBlock) : okPe y w' :=
  ⟨h.1.grown hg (own_apart h.1 hr (by decide)), h.2.1.kept hg (rows_apart h.2.1 hr (by decide)), h.2.2⟩
theorem rp_one {y : Pe} {w : World} (h : okPe y w) : RP w (some ⟨y.g, 0, none⟩) [y.x.t] := fun j hj => by
  obtain rfl : j = 0 := by simp at hj; omega
  exact ⟨y.g, 0, y.x.E, y.x.cap, rfl, h.1.cell (j := 0) rfl, h.1.cell (j := 1) rfl, row_rd h.2.1, by have := h.2.2; simp only [tmv, List.getD_cons_zero]; omega⟩
theorem rpp_of_row {w : World} {B cap : Nat} {A : Option Addr} {L : List Pe} (h : w.ownsRow B 35 1 (.slice A L.length cap) L.length (L.map valPe)) (ex : ∀ y ∈ L, okPe y w) : RPP w A (L.map fun y => [y.x.t]) := fun j hj => by
  have hj' : j < L.length := by simpa using hj
  have hr := row_rd h
  have e0 : (L.map valPe)[j]? = some (valPe (L[j]'hj')) := by simp [hj']
  obtain ⟨b, off, e, hc⟩ := hr.at_ (by intro h0; rw [h0] at e0; simp at e0)
  have et : (L.map fun y => [y.x.t]).getD j [] = [(L[j]'hj').x.t] := by simp [hj']
  rw [et]
  exact ⟨b, off, _, 1, e, hc _ _ e0, rp_one (ex _ (List.getElem_mem hj')), by simp⟩
theorem row_cap {w : World} {B sz n cap : Nat} {e : TypeId} {A : Option Addr} {cs : List Value} (h : w.ownsRow B e sz (.slice A n cap) n cs) : n ≤ cap ∧ cap ≤ 9223372036854775807 := by
  rcases h.2 with ⟨e0, h0⟩ | ⟨g, cap', cur, e0, _, _, h1, h2, _⟩
  · injection e0 with _ _ e3
    omega
  · injection e0 with _ _ e3
    subst e3
    simp only [maxLen] at h2
    omega
theorem sumLen_ones (L : List Pe) : sumLen (L.map fun y => [y.x.t]) = L.length := by
  unfold sumLen
  rw [List.map_map]
  induction L with
  | nil => rfl
  | cons y L ih => simp at ih ⊢; omega
/-- The sum of such a list. -/
theorem total_ones (P M : Int) (n : Nat) (ok : okF P M = true) (hn : n ≤ 1000) (L : List Pe) (A : Option Addr) (B cap : Nat) (w : World) (h : w.ownsRow B 35 1 (.slice A L.length cap) L.length (L.map valPe)) (ex : ∀ y ∈ L, okPe y w) (hl : L.length ≤ 20000)
    (hc : ∀ y ∈ L, y.x.t.e.length = n ∧ 1 ≤ y.x.t.c ∧ y.x.t.c < ordF P M) :
    Calls Tryz.prog 42 #[kV P M, .slice A L.length cap] w (TotPost P M (L.map fun y => [y.x.t]) w) := by
  have hcap := row_cap h
  have := rtotal49_any P M n ok hn L.length (L.map fun y => [y.x.t]) A cap w (by simp) (rpp_of_row h ex) (fun p hp => by
    obtain ⟨y, hy, rfl⟩ := List.mem_map.1 hp
    exact ⟨List.pairwise_singleton _ _, fun t ht => by rw [List.mem_singleton.1 ht]; exact (hc y hy).1, fun t ht => by rw [List.mem_singleton.1 ht]; exact (hc y hy).2⟩)
    (by rw [sumLen_ones]; exact hl) (by simpa using hl) (by simpa using hcap.1) hcap.2
  rwa [List.length_map] at this
theorem info25 : (Tryz.prog.info? 35).map (fun i => (i.zero, i.size, i.bytes)) = some (some (.slice none 0 0), 1, 24) := by kernel_rfl
end Go.Proofs.YtikfeemmjfoffaaGreatDoor
