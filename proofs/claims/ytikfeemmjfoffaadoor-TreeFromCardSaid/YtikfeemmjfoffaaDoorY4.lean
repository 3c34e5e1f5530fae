/- Reading an argument that is a formula. -/
import Derived.Test.YtikfeemmjfoffaaDoorW22
import Derived.Test.YtikfeemmjfoffaaDoorY1
set_option linter.unusedVariables false
set_option linter.unusedSimpArgs false
namespace Go.Proofs.YtikfeemmjfoffaaDoor
open Go.RowKit Go.ChangeShapes Go.WideShapes Go.ChangeAt

theorem rk_of {w : World} : ∀ (l : List Fm) (b off : Nat), (∀ j, j < l.length → KidAt w b (off + j * 3) (kd l j)) → RK w (some ⟨b, off, none⟩) l
  | [], b, off, _ => .nil _
  | f :: fs, b, off, h => by
    have h0 := h 0 (by simp)
    rw [kd_zero] at h0
    obtain ⟨A, c, e1, e2⟩ := h0.c2
    refine .cons (by simpa using h0.c0) (by simpa using h0.c1) (by simpa using e1) h0.len e2 (rk_of fs b (off + 3) fun j hj => ?_)
    have := h (j + 1) (by simpa using hj)
    rw [kd_succ] at this
    rwa [show off + (j + 1) * 3 = off + 3 + j * 3 from by omega] at this

set_option maxRecDepth 100000 in
theorem read_fm {H : Type} {enc : TypeId × Value → H} {w : World} {base : Nat} {spare : Nat → Bool} {held : Bool} : ∀ (fuel : Nat) (cs : List Value) (x : DataW H × List MemPlace), DataW.trod enc Tryd.prog w base spare held fuel 48 cs = some x →
    ∃ (f : Fm) (A : Option Addr) (c : Nat), cs = [.int .i64 f.k, .int .i64 f.n, .slice A f.l.length c] ∧ RK w A f.l ∧ f.l.length ≤ 9223372036854775807 := by
  intro fuel
  induction fuel using Nat.strongRecOn with
  | ind fuel ih =>
    intro cs x h
    obtain ⟨xs, n, hfu, rfl, hl, hlen, hf⟩ := DataW.trod_struct Tryd.underlying48 h
    match xs, hlen with
    | [y0, y1, y2], _ =>
      have h0 : DataW.trod enc Tryd.prog w base spare held n 3 ((cs.drop 0).take (Tryd.prog.cellsOf 3)) = some y0 := hf 0 _ rfl
      have h1 : DataW.trod enc Tryd.prog w base spare held n 3 ((cs.drop 1).take (Tryd.prog.cellsOf 3)) = some y1 := hf 1 _ rfl
      have h2 : DataW.trod enc Tryd.prog w base spare held n 46 ((cs.drop 2).take (Tryd.prog.cellsOf 46)) = some y2 := hf 2 _ rfl
      rw [show Tryd.prog.cellsOf 48 = 3 by kernel_rfl] at hl
      match cs, hl with
      | [a, b, c], _ =>
        rw [show Tryd.prog.cellsOf 3 = 1 by kernel_rfl] at h0 h1
        rw [show Tryd.prog.cellsOf 46 = 1 by kernel_rfl] at h2
        obtain ⟨x0, e0, _⟩ := DataW.trod_int Tryd.underlying3 h0
        obtain ⟨x1, e1, _⟩ := DataW.trod_int Tryd.underlying3 h1
        simp at e0 e1
        subst e0 e1
        rcases DataW.trod_slice Tryd.underlying46 h2 with ⟨hcs, _⟩ | ⟨ad, len, cap, elems, rest, m, hnm, hcs, hx, hb, hlc, hcm, hel, hE, _⟩
        · simp at hcs
          subst hcs
          exact ⟨.mk x0 x1 [], none, 0, rfl, .nil _, by simp [Fm.l]⟩
        · simp at hcs
          subst hcs
          rw [show Tryd.prog.cellsOf 48 = 3 by kernel_rfl] at hE
          obtain ⟨N, hN⟩ := Deep.choose_lt (n := len) (p := fun i (f : Fm) => ∃ A c, w.cells? base (ad.add (i * 3)) 3 = some [.int .i64 f.k, .int .i64 f.n, .slice A f.l.length c] ∧ RK w A f.l ∧ f.l.length ≤ 9223372036854775807) (fun i hi => by
            have := hE i hi
            rw [List.getElem?_eq_getElem (by omega)] at this
            obtain ⟨cs', h3, h4⟩ := Option.bind_eq_some_iff.1 this
            obtain ⟨f, A, c, rfl, h5, h6⟩ := ih m (by omega) cs' _ h4
            exact ⟨f, A, c, h3, h5, h6⟩)
          have hmx : maxLen = 9223372036854775807 := rfl
          refine ⟨.mk x0 x1 ((List.range len).map N), some ad, cap, by simp [Fm.k, Fm.n, Fm.l], ?_, by simp [Fm.l]; omega⟩
          show RK w (some ad) ((List.range len).map N)
          rcases Nat.eq_zero_or_pos len with hz | hz
          · subst hz; exact .nil _
          · obtain ⟨bk, off, spot⟩ := ad
            have hspot : spot = none := by
              obtain ⟨A, c, h3, _⟩ := hN 0 hz
              have := (World.cells?_some h3).2.2 0 (by omega)
              simpa [Addr.add] using World.cell?_spot this
            subst hspot
            refine rk_of _ bk off fun j hj => ?_
            have hj' : j < len := by simpa using hj
            obtain ⟨A, c, h3, h4, h5⟩ := hN j hj'
            have hk : kd ((List.range len).map N) j = N j := by simp [kd, hj']
            rw [hk]
            have hc := (World.cells?_some h3).2.2
            have c0 := hc 0 (by omega)
            have c1 := hc 1 (by omega)
            have c2 := hc 2 (by omega)
            rw [add_at, add_at] at c0 c1 c2
            exact ⟨by simpa using c0, by simpa using c1, ⟨A, c, by simpa using c2, h4⟩, h5⟩

set_option maxRecDepth 100000 in
theorem read_formula {H : Type} {enc : TypeId × Value → H} {w : World} {base : Nat} {spare : Nat → Bool} {held : Bool} {b0 : Nat} {r : Reach} {v : Value} {d : DataW H} {p : List MemPlace}
    (hv : Value.okWide Tryd.prog w r b0 48 v) (h : DataW.Trod enc Tryd.prog w base spare held 48 v d p) :
    ∃ (f : Fm) (A : Option Addr) (c : Nat), v = fmV f A c ∧ RK w A f.l ∧ f.l.length ≤ 9223372036854775807 := by
  have hc : Tryd.prog.cellsOf 48 = 3 := by kernel_rfl
  have h' := h
  obtain ⟨c0, c1, c2, y0, y1, y2, m, rfl, rfl, rfl, hy0, hy1, hy2⟩ := Joins.open_agg3 Tryd.underlying48 (by kernel_rfl) hc hv h
  obtain ⟨fuel, hf⟩ := h'
  obtain ⟨f, A, c, e, h1, h2⟩ := read_fm fuel _ _ hf
  have hcells : (Value.agg #[c0, c1, c2]).cells.toList = [c0, c1, c2] := by rfl
  rw [hcells] at e
  simp at e
  obtain ⟨rfl, rfl, rfl⟩ := e
  exact ⟨f, A, c, rfl, h1, h2⟩
end Go.Proofs.YtikfeemmjfoffaaDoor
