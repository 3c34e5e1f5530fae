/- Polynomials: the reference's Mul. -/
import Derived.Test.YtnjmpjdampdmmaaGreatDoorC28
import Derived.Test.YtnjmpjdampdmmaaGreatDoorC19
set_option linter.unusedVariables false
set_option linter.unusedSimpArgs false
namespace Go.Proofs.YtnjmpjdampdmmaaGreatDoor
open Go.RowKit Go.Shelf

/-- A term whose exponents lie in a row of their own. -/
def okTe (x : Te) (w : World) : Prop := w.ownsRow 0 3 1 (.slice x.E x.t.e.length x.cap) x.t.e.length (ints x.t.e) ∧ x.t.e.length ≤ 1000
theorem okTe.kept {x : Te} {w w' : World} (h : okTe x w) (k : Kept w w') : okTe x w' := ⟨row_kept h.1 k, h.2⟩
theorem okTe.grow {x : Te} {w w' : World} {B sz n : Nat} {e : TypeId} {v : Value} {cs : List Value} (h : okTe x w) (hr : w.ownsRow B e sz v n cs) (ne : 3 ≠ e) (hg : w.grownBy w' v.ownBlock) : okTe x w' :=
  ⟨h.1.kept hg (rows_apart h.1 hr ne), h.2⟩
/-- A polynomial laid term by term in a row. -/
structure Rw where
  A : Option Addr
  cap : Nat
  S : List Te
def valRw (y : Rw) : Value := .slice y.A y.S.length y.cap
def okRw (y : Rw) (w : World) : Prop := w.ownsRow 0 64 2 (valRw y) y.S.length (teCells y.S) ∧ (∀ x ∈ y.S, okTe x w) ∧ y.S.length ≤ 20000
theorem okRw.kept {y : Rw} {w w' : World} (h : okRw y w) (k : Kept w w') : okRw y w' := ⟨row_kept h.1 k, fun x hx => (h.2.1 x hx).kept k, h.2.2⟩
theorem okRw.grow {y : Rw} {w w' : World} {B n : Nat} {v : Value} {cs : List Value} (h : okRw y w) (hr : w.ownsRow B 25 1 v n cs) (hg : w.grownBy w' v.ownBlock) : okRw y w' :=
  ⟨h.1.kept hg (rows_apart h.1 hr (by decide)), fun x hx => (h.2.1 x hx).grow hr (by decide) hg, h.2.2⟩
theorem okRw.rp {y : Rw} {w : World} (h : okRw y w) : RP w y.A (y.S.map Te.t) := rp_of_row h.1 (fun x hx => row_rd (h.2.1 x hx).1) (fun x hx => (h.2.1 x hx).2)
theorem rppR_of_row {w : World} {B cap : Nat} {A : Option Addr} {L : List Rw} (h : w.ownsRow B 25 1 (.slice A L.length cap) L.length (L.map valRw)) (ex : ∀ y ∈ L, okRw y w) : RPP w A (L.map fun y => y.S.map Te.t) := fun j hj => by
  have hj' : j < L.length := by simpa using hj
  have hr := row_rd h
  have e0 : (L.map valRw)[j]? = some (valRw (L[j]'hj')) := by simp [hj']
  obtain ⟨b, off, e, hc⟩ := hr.at_ (by intro h0; rw [h0] at e0; simp at e0)
  have et : (L.map fun y => y.S.map Te.t).getD j [] = (L[j]'hj').S.map Te.t := by simp [hj']
  rw [et]
  have hm := ex _ (List.getElem_mem hj')
  refine ⟨b, off, (L[j]'hj').A, (L[j]'hj').cap, e, ?_, hm.rp, by rw [List.length_map]; have := hm.2.2; omega⟩
  rw [List.length_map]
  exact hc _ _ e0
theorem prodL_take {mul : Int → Int → Int} {p r : List Tm} {i : Nat} (h : i < p.length) : prodL mul (p.take (i + 1)) r = prodL mul (p.take i) r ++ [r.map (mulTm mul (tmv p i))] := by
  rw [take_tm h]
  simp [prodL]
theorem sumLen_prodL (mul : Int → Int → Int) (r : List Tm) : ∀ p : List Tm, sumLen (prodL mul p r) = p.length * r.length
  | [] => by simp [sumLen, prodL]
  | t :: p => by
    have ih := sumLen_prodL mul r p
    unfold sumLen prodL at ih ⊢
    simp only [List.map_cons, List.sum_cons, List.length_map, List.length_cons, Nat.add_mul] at ih ⊢
    omega
theorem tab_addE {e f : List Int} {n : Nat} (he : e.length = n) (hf : f.length = n) : tabI (fun k => ia e k + ia f k) n n = addE e f := by
  have hl := addE_len he hf
  rw [tabI_all]
  apply List.ext_getElem?
  intro j
  by_cases h : j < n
  · have h1 := ia_addE (e := e) (f := f) (by omega) (k := j) (by omega)
    unfold ia at h1
    rw [List.getD_eq_getElem?_getD, List.getElem?_eq_getElem (by omega), Option.getD_some] at h1
    rw [List.getElem?_map, List.getElem?_range h, List.getElem?_eq_getElem (by omega), h1]
    rfl
  · rw [List.getElem?_eq_none (by simp; omega), List.getElem?_eq_none (by omega)]
/-- Terms with exponents that may be over the limit, but not by much. -/
def TmsUp (P M : Int) (n : Nat) (p : List Tm) : Prop := ∀ k, k < p.length → (tmv p k).e.length = n ∧ 1 ≤ (tmv p k).c ∧ (tmv p k).c < ordF P M ∧ ∀ x ∈ (tmv p k).e, 0 ≤ x ∧ x ≤ 1000000000000
theorem TmsOk.up {P M : Int} {n : Nat} {p : List Tm} (h : TmsOk P M n p) : TmsUp P M n p := fun k hk => by
  obtain ⟨h1, h2, h3, h4⟩ := h k hk
  exact ⟨h1, h2, h3, fun x hx => by have := h4 x hx; omega⟩
set_option maxRecDepth 100000 in
set_option maxHeartbeats 1000000 in
theorem rmul30_up (P M : Int) (n : Nat) (p r : List Tm) (A B : Option Addr) (c d : Nat) (w : World) (ok : okF P M = true) (hP : RP w A p) (hR : RP w B r) (hn : n ≤ 80) (tp : TmsUp P M n p) (tr : TmsUp P M n r) (hp : p.length ≤ 20000) (hr : r.length ≤ 20000) (hpr : p.length * r.length ≤ 20000) (cp : Canon (ordF P M) n p) (cr : Canon (ordF P M) n r) :
    Calls Tryz.prog 43 #[kV P M, .slice A p.length c, .slice B r.length d] w (TotPost P M (prodL (mulF P M) p r) w) := by
  have C65 := Lib.hid fun w' (a b : Int) (h1 : inF P M a) (h2 : inF P M b) => rmul65_any P M a b w' ok h1 h2
  have C49 := Lib.hid fun A' c' w' h1 h4 h5 => rtotal49_any P M n ok (by omega) (prodL (mulF P M) p r).length (prodL (mulF P M) p r) A' c' w' (Nat.le_refl _) h1 (prodL_canon (fldF ok) cp cr) (by rw [sumLen_prodL]; exact hpr) (by simpa [prodL] using hp) h4 h5
  have HP := Lib.hid hP
  have HR := Lib.hid hR
  have OK := Lib.hid ok
  have TP := Lib.hid tp
  have TR := Lib.hid tr
  unfold kV at *
  have K0 := kept_alloc (kept_refl w) (.cells #[.int .i64 P, .int .i64 M, .int .i64 (ordF P M), .int .i64 (kitM M)] 37)
  have o2 := Own.new w 37 [.int .i64 P, .int .i64 M, .int .i64 (ordF P M), .int .i64 (kitM M)]
  obtain ⟨q, hqq⟩ : ∃ q, q = ordF P M := ⟨_, rfl⟩
  obtain ⟨km, hkm⟩ : ∃ km, km = kitM M := ⟨_, rfl⟩
  rw [← hqq, ← hkm] at C65 C49 K0 o2 ⊢
  clear hP hR ok tp tr hqq hkm cp cr hpr
  go_enter Tryz.func43, Tryz.ntmps43
  obtain ⟨w0, hw0⟩ : ∃ w0, w0 = w.alloc (.cells #[.int .i64 P, .int .i64 M, .int .i64 q, .int .i64 km] 37) := ⟨_, rfl⟩
  go_upto_region 1 with fail
  rw [← hw0] at K0 o2 ⊢
  clear hw0
  go_wp2_with fail
  go_loopg [7, 8, 9, 10, 11, 12] p.length (fun G s7 s8 s9 s10 s11 s12 wr => ∃ (i : Nat) (L : List Rw) (v9 v10 v11 v12 : Value), i ≤ p.length ∧ G = p.length - i ∧ s8 = .int .i64 i ∧ s9 = v9 ∧ s10 = v10 ∧ s11 = v11 ∧ s12 = v12 ∧ wr.ownsRow w0.heap.size 25 1 s7 i (L.map valRw) ∧ Hid (L.length = i ∧ (L.map fun y => y.S.map Te.t) = prodL (mulF P M) (p.take i) r) ∧ Hid (∀ y ∈ L, okRw y wr) ∧ Kept w0 wr)
  case atStart => exact ⟨0, [], _, _, _, _, by omega, rfl, rfl, rfl, rfl, rfl, rfl, World.ownsRow_nil _ _ _ _, Lib.hid (by simp [prodL]), Lib.hid (by simp), kept_refl _⟩
  case round =>
    obtain ⟨i, L, v9, v10, v11, v12, hi, rfl, rfl, rfl, rfl, rfl, rfl, h7, HL, HK, K1⟩ := hrel
    by_cases hit : i < p.length
    · obtain ⟨ba, off, E, ce, rfl, h0, h1, hE, hlE⟩ := (HP.out.kept K0) i hit
      have H0 := Lib.hid h0
      have H1 := Lib.hid h1
      obtain ⟨x, hx⟩ : ∃ x, x = (tmv p i).c := ⟨_, rfl⟩
      obtain ⟨el, hel⟩ : ∃ el, el = (tmv p i).e := ⟨_, rfl⟩
      have TK := Lib.hid (TP.out i hit)
      have HTM := Lib.hid (show tmv p i = ⟨x, el⟩ by rw [hx, hel])
      rw [← hx, ← hel] at TK
      rw [← hx] at H0
      rw [← hel] at H1 hE hlE
      have HE := Lib.hid hE
      have hl80 : el.length ≤ 80 := by have := TK.out.1; omega
      clear hx hel hE h0 h1
      go_wp2_with fail
      obtain ⟨wo, rfl⟩ : ∃ x, x = wr := ⟨_, rfl⟩
      go_loopg [9, 10, 11, 12] r.length (fun G s9 s10 s11 s12 wr => ∃ (j : Nat) (S : List Te) (v11 v12 : Value), j ≤ r.length ∧ G = r.length - j ∧ s10 = .int .i64 j ∧ s11 = v11 ∧ s12 = v12 ∧ wr.ownsRow wo.heap.size 64 2 s9 j (teCells S) ∧ Hid (S.length = j ∧ S.map Te.t = (r.take j).map (mulTm (mulF P M) ⟨x, el⟩)) ∧ Hid (∀ z ∈ S, okTe z wr) ∧ Kept wo wr)
      case atStart => exact ⟨0, [], _, _, by omega, rfl, rfl, rfl, rfl, World.ownsRow_nil _ _ _ _, Lib.hid (by simp), Lib.hid (by simp), kept_refl _⟩
      case round =>
        obtain ⟨j, S, v11, v12, hj, rfl, rfl, rfl, rfl, h9, HS, HKS, K2⟩ := hrel
        have KX := kept_trans K1 K2
        by_cases hjt : j < r.length
        · obtain ⟨bb, off2, D, cd, rfl, h2, h3, hD, hlD⟩ := (HR.out.kept K0) j hjt
          have H2 := Lib.hid h2
          have H3 := Lib.hid h3
          obtain ⟨y, hy⟩ : ∃ y, y = (tmv r j).c := ⟨_, rfl⟩
          obtain ⟨fl, hfl⟩ : ∃ fl, fl = (tmv r j).e := ⟨_, rfl⟩
          have TJ := Lib.hid (TR.out j hjt)
          have HTJ := Lib.hid (show tmv r j = ⟨y, fl⟩ by rw [hy, hfl])
          rw [← hy, ← hfl] at TJ
          rw [← hy] at H2
          rw [← hfl] at H3 hD hlD
          have HD := Lib.hid hD
          have HFL := Lib.hid (show fl.length = el.length by rw [TJ.out.1, TK.out.1])
          have g1 := kept_cell KX H1.out
          have hmk := make_ints el.length (by omega)
          have oe := Own.new wr 3 (ints (List.replicate el.length 0))
          clear hy hfl hD h2 h3
          go_wp2_with fail
          clear hmk g1
          obtain ⟨wm, rfl⟩ : ∃ x, x = wr := ⟨_, rfl⟩
          go_loopg [12] el.length (fun G s12 wr => ∃ (k : Nat), k ≤ el.length ∧ G = el.length - k ∧ s12 = .int .i64 k ∧ Own wr wm.heap.size 3 (ints (tabI (fun k => ia el k + ia fl k) el.length k)) ∧ Kept wm wr)
          case atStart => exact ⟨0, by omega, rfl, rfl, by rw [tabI_zero]; exact oe, kept_alloc (kept_refl _) _⟩
          case round =>
            clear oe
            obtain ⟨k, hk, rfl, rfl, oe, K3⟩ := hrel
            have KY := kept_trans KX K3
            by_cases hkt : k < el.length
            · have hkf : k < fl.length := by have := HFL.out; omega
              have g1 := kept_cell KY H1.out
              have g3 := kept_cell KY H3.out
              obtain ⟨b1, o1, rfl, hc1⟩ := (HE.out.kept KY).int hkt
              obtain ⟨b2, o2', rfl, hc2⟩ := (HD.out.kept KY).int hkf
              have x0 := hc1 k hkt
              have x1 := hc2 k hkf
              have bx := TK.out.2.2.2 (ia el k) (ia_mem hkt)
              have bz := TJ.out.2.2.2 (ia fl k) (ia_mem hkf)
              obtain ⟨xa, hxa⟩ : ∃ xa, xa = ia el k := ⟨_, rfl⟩
              obtain ⟨xb, hxb⟩ : ∃ xb, xb = ia fl k := ⟨_, rfl⟩
              rw [← hxa] at x0 bx
              rw [← hxb] at x1 bz
              have HSET := Lib.hid (show (tabI (fun k => ia el k + ia fl k) el.length k).set k (xa + xb) = tabI (fun k => ia el k + ia fl k) el.length (k + 1) by rw [← tabI_set (fun k => ia el k + ia fl k) hkt, hxa, hxb])
              have ew : IntKind.i64.wrap (xa + xb) = xa + xb := IntWalk.i64_in _ (by omega)
              have ew2 : wrap64 (xa + xb) = xa + xb := IntWalk.wrap64_in _ (by omega)
              have hb1 : IntKind.i64.wrap ((k : Nat) : Int) = k := IntWalk.i64_in _ (by omega)
              have hlk : k < (tabI (fun k => ia el k + ia fl k) el.length k).length := by rw [tabI_len]; exact hkt
              have OE := Lib.hid oe
              clear hxa hxb hc1 hc2 oe
              go_upto_region 13 with fail
              refine region_x (fun w' => Kept wr w') [20] (by kernel_rfl) (kept_drew (kept_refl _)) (fun hHeld => ?_)
              refine x_take (i := 0) (oi := { dst := some 38, op := Op.move (Operand.tmp 11), type := 53, pos := "ref.go:129", after := #[], guard := none }) (v := ?_) rfl (by kernel_rfl) (by kernel_rfl) (by kernel_rfl) (by kernel_rfl) (by kernel_rfl) (fun _ _ _ h => h) (Or.inl ⟨rfl, ?_⟩) (by assumption) ?_
              rotate_left
              · (intro w' hSw; replace g1 := kept_cell hSw g1; replace g3 := kept_cell hSw g3; replace x0 := kept_cell hSw x0; replace x1 := kept_cell hSw x1; go_simp; try with_reducible rfl)
              try simp only [Act.put, List.setIfInBounds_toArray, List.set_cons_zero, List.set_cons_succ]
              refine x_take (i := 1) (oi := { dst := some 39, op := Op.move (Operand.tmp 12), type := 3, pos := "ref.go:129", after := #[], guard := none }) (v := ?_) rfl (by kernel_rfl) (by kernel_rfl) (by kernel_rfl) (by kernel_rfl) (by kernel_rfl) (fun _ _ _ h => h) (Or.inl ⟨rfl, ?_⟩) (by assumption) ?_
              rotate_left
              · (intro w' hSw; replace g1 := kept_cell hSw g1; replace g3 := kept_cell hSw g3; replace x0 := kept_cell hSw x0; replace x1 := kept_cell hSw x1; go_simp; try with_reducible rfl)
              try simp only [Act.put, List.setIfInBounds_toArray, List.set_cons_zero, List.set_cons_succ]
              refine x_take (i := 2) (oi := { dst := some 40, op := Op.move (Operand.tmp 1), type := 25, pos := "ref.go:129", after := #[], guard := none }) (v := ?_) rfl (by kernel_rfl) (by kernel_rfl) (by kernel_rfl) (by kernel_rfl) (by kernel_rfl) (fun _ _ _ h => h) (Or.inl ⟨rfl, ?_⟩) (by assumption) ?_
              rotate_left
              · (intro w' hSw; replace g1 := kept_cell hSw g1; replace g3 := kept_cell hSw g3; replace x0 := kept_cell hSw x0; replace x1 := kept_cell hSw x1; go_simp; try with_reducible rfl)
              try simp only [Act.put, List.setIfInBounds_toArray, List.set_cons_zero, List.set_cons_succ]
              refine x_take (i := 3) (oi := { dst := some 41, op := Op.move (Operand.tmp 8), type := 3, pos := "ref.go:129", after := #[], guard := none }) (v := ?_) rfl (by kernel_rfl) (by kernel_rfl) (by kernel_rfl) (by kernel_rfl) (by kernel_rfl) (fun _ _ _ h => h) (Or.inl ⟨rfl, ?_⟩) (by assumption) ?_
              rotate_left
              · (intro w' hSw; replace g1 := kept_cell hSw g1; replace g3 := kept_cell hSw g3; replace x0 := kept_cell hSw x0; replace x1 := kept_cell hSw x1; go_simp; try with_reducible rfl)
              try simp only [Act.put, List.setIfInBounds_toArray, List.set_cons_zero, List.set_cons_succ]
              refine x_take (i := 4) (oi := { dst := some 42, op := Op.indexAddr 25 (Operand.tmp 40) (Operand.tmp 41), type := 0, pos := "ref.go:129", after := #[{ on := 2, ground := Ground.data }, { on := 3, ground := Ground.data }], guard := none }) (v := ?_) rfl (by kernel_rfl) (by kernel_rfl) (by kernel_rfl) (by kernel_rfl) (by kernel_rfl) (fun _ _ _ h => h) (Or.inl ⟨rfl, ?_⟩) (by assumption) ?_
              rotate_left
              · (intro w' hSw; replace g1 := kept_cell hSw g1; replace g3 := kept_cell hSw g3; replace x0 := kept_cell hSw x0; replace x1 := kept_cell hSw x1; go_simp; try with_reducible rfl)
              try simp only [Act.put, List.setIfInBounds_toArray, List.set_cons_zero, List.set_cons_succ]
              refine x_take (i := 5) (oi := { dst := some 43, op := Op.fieldAddr 64 (Operand.tmp 42) 1, type := 0, pos := "ref.go:129", after := #[{ on := 4, ground := Ground.data }], guard := none }) (v := ?_) rfl (by kernel_rfl) (by kernel_rfl) (by kernel_rfl) (by kernel_rfl) (by kernel_rfl) (fun _ _ _ h => h) (Or.inl ⟨rfl, ?_⟩) (by assumption) ?_
              rotate_left
              · (intro w' hSw; replace g1 := kept_cell hSw g1; replace g3 := kept_cell hSw g3; replace x0 := kept_cell hSw x0; replace x1 := kept_cell hSw x1; go_simp; try with_reducible rfl)
              try simp only [Act.put, List.setIfInBounds_toArray, List.set_cons_zero, List.set_cons_succ]
              refine x_take (i := 6) (oi := { dst := some 44, op := Op.load 53 (Operand.tmp 43), type := 53, pos := "ref.go:129", after := #[{ on := 5, ground := Ground.data }], guard := none }) (v := ?_) rfl (by kernel_rfl) (by kernel_rfl) (by kernel_rfl) (by kernel_rfl) (by kernel_rfl) (fun _ _ _ h => h) (Or.inl ⟨rfl, ?_⟩) (by assumption) ?_
              rotate_left
              · (intro w' hSw; replace g1 := kept_cell hSw g1; replace g3 := kept_cell hSw g3; replace x0 := kept_cell hSw x0; replace x1 := kept_cell hSw x1; go_simp; try with_reducible rfl)
              try simp only [Act.put, List.setIfInBounds_toArray, List.set_cons_zero, List.set_cons_succ]
              refine x_take (i := 7) (oi := { dst := some 45, op := Op.move (Operand.tmp 12), type := 3, pos := "ref.go:129", after := #[], guard := none }) (v := ?_) rfl (by kernel_rfl) (by kernel_rfl) (by kernel_rfl) (by kernel_rfl) (by kernel_rfl) (fun _ _ _ h => h) (Or.inl ⟨rfl, ?_⟩) (by assumption) ?_
              rotate_left
              · (intro w' hSw; replace g1 := kept_cell hSw g1; replace g3 := kept_cell hSw g3; replace x0 := kept_cell hSw x0; replace x1 := kept_cell hSw x1; go_simp; try with_reducible rfl)
              try simp only [Act.put, List.setIfInBounds_toArray, List.set_cons_zero, List.set_cons_succ]
              refine x_take (i := 8) (oi := { dst := some 46, op := Op.indexAddr 53 (Operand.tmp 44) (Operand.tmp 45), type := 0, pos := "ref.go:129", after := #[{ on := 6, ground := Ground.data }, { on := 7, ground := Ground.data }], guard := none }) (v := ?_) rfl (by kernel_rfl) (by kernel_rfl) (by kernel_rfl) (by kernel_rfl) (by kernel_rfl) (fun _ _ _ h => h) (Or.inl ⟨rfl, ?_⟩) (by assumption) ?_
              rotate_left
              · (intro w' hSw; replace g1 := kept_cell hSw g1; replace g3 := kept_cell hSw g3; replace x0 := kept_cell hSw x0; replace x1 := kept_cell hSw x1; go_simp; try with_reducible rfl)
              try simp only [Act.put, List.setIfInBounds_toArray, List.set_cons_zero, List.set_cons_succ]
              refine x_take (i := 9) (oi := { dst := some 47, op := Op.load 3 (Operand.tmp 46), type := 3, pos := "ref.go:129", after := #[{ on := 8, ground := Ground.data }], guard := none }) (v := ?_) rfl (by kernel_rfl) (by kernel_rfl) (by kernel_rfl) (by kernel_rfl) (by kernel_rfl) (fun _ _ _ h => h) (Or.inl ⟨rfl, ?_⟩) (by assumption) ?_
              rotate_left
              · (intro w' hSw; replace g1 := kept_cell hSw g1; replace g3 := kept_cell hSw g3; replace x0 := kept_cell hSw x0; replace x1 := kept_cell hSw x1; go_simp; try with_reducible rfl)
              try simp only [Act.put, List.setIfInBounds_toArray, List.set_cons_zero, List.set_cons_succ]
              refine x_take (i := 10) (oi := { dst := some 48, op := Op.move (Operand.tmp 2), type := 25, pos := "ref.go:129", after := #[], guard := none }) (v := ?_) rfl (by kernel_rfl) (by kernel_rfl) (by kernel_rfl) (by kernel_rfl) (by kernel_rfl) (fun _ _ _ h => h) (Or.inl ⟨rfl, ?_⟩) (by assumption) ?_
              rotate_left
              · (intro w' hSw; replace g1 := kept_cell hSw g1; replace g3 := kept_cell hSw g3; replace x0 := kept_cell hSw x0; replace x1 := kept_cell hSw x1; go_simp; try with_reducible rfl)
              try simp only [Act.put, List.setIfInBounds_toArray, List.set_cons_zero, List.set_cons_succ]
              refine x_take (i := 11) (oi := { dst := some 49, op := Op.move (Operand.tmp 10), type := 3, pos := "ref.go:129", after := #[], guard := none }) (v := ?_) rfl (by kernel_rfl) (by kernel_rfl) (by kernel_rfl) (by kernel_rfl) (by kernel_rfl) (fun _ _ _ h => h) (Or.inl ⟨rfl, ?_⟩) (by assumption) ?_
              rotate_left
              · (intro w' hSw; replace g1 := kept_cell hSw g1; replace g3 := kept_cell hSw g3; replace x0 := kept_cell hSw x0; replace x1 := kept_cell hSw x1; go_simp; try with_reducible rfl)
              try simp only [Act.put, List.setIfInBounds_toArray, List.set_cons_zero, List.set_cons_succ]
              refine x_take (i := 12) (oi := { dst := some 50, op := Op.indexAddr 25 (Operand.tmp 48) (Operand.tmp 49), type := 0, pos := "ref.go:129", after := #[{ on := 10, ground := Ground.data }, { on := 11, ground := Ground.data }], guard := none }) (v := ?_) rfl (by kernel_rfl) (by kernel_rfl) (by kernel_rfl) (by kernel_rfl) (by kernel_rfl) (fun _ _ _ h => h) (Or.inl ⟨rfl, ?_⟩) (by assumption) ?_
              rotate_left
              · (intro w' hSw; replace g1 := kept_cell hSw g1; replace g3 := kept_cell hSw g3; replace x0 := kept_cell hSw x0; replace x1 := kept_cell hSw x1; go_simp; try with_reducible rfl)
              try simp only [Act.put, List.setIfInBounds_toArray, List.set_cons_zero, List.set_cons_succ]
              refine x_take (i := 13) (oi := { dst := some 51, op := Op.fieldAddr 64 (Operand.tmp 50) 1, type := 0, pos := "ref.go:129", after := #[{ on := 12, ground := Ground.data }], guard := none }) (v := ?_) rfl (by kernel_rfl) (by kernel_rfl) (by kernel_rfl) (by kernel_rfl) (by kernel_rfl) (fun _ _ _ h => h) (Or.inl ⟨rfl, ?_⟩) (by assumption) ?_
              rotate_left
              · (intro w' hSw; replace g1 := kept_cell hSw g1; replace g3 := kept_cell hSw g3; replace x0 := kept_cell hSw x0; replace x1 := kept_cell hSw x1; go_simp; try with_reducible rfl)
              try simp only [Act.put, List.setIfInBounds_toArray, List.set_cons_zero, List.set_cons_succ]
              refine x_take (i := 14) (oi := { dst := some 52, op := Op.load 53 (Operand.tmp 51), type := 53, pos := "ref.go:129", after := #[{ on := 13, ground := Ground.data }], guard := none }) (v := ?_) rfl (by kernel_rfl) (by kernel_rfl) (by kernel_rfl) (by kernel_rfl) (by kernel_rfl) (fun _ _ _ h => h) (Or.inl ⟨rfl, ?_⟩) (by assumption) ?_
              rotate_left
              · (intro w' hSw; replace g1 := kept_cell hSw g1; replace g3 := kept_cell hSw g3; replace x0 := kept_cell hSw x0; replace x1 := kept_cell hSw x1; go_simp; try with_reducible rfl)
              try simp only [Act.put, List.setIfInBounds_toArray, List.set_cons_zero, List.set_cons_succ]
              refine x_take (i := 15) (oi := { dst := some 53, op := Op.move (Operand.tmp 12), type := 3, pos := "ref.go:129", after := #[], guard := none }) (v := ?_) rfl (by kernel_rfl) (by kernel_rfl) (by kernel_rfl) (by kernel_rfl) (by kernel_rfl) (fun _ _ _ h => h) (Or.inl ⟨rfl, ?_⟩) (by assumption) ?_
              rotate_left
              · (intro w' hSw; replace g1 := kept_cell hSw g1; replace g3 := kept_cell hSw g3; replace x0 := kept_cell hSw x0; replace x1 := kept_cell hSw x1; go_simp; try with_reducible rfl)
              try simp only [Act.put, List.setIfInBounds_toArray, List.set_cons_zero, List.set_cons_succ]
              refine x_take (i := 16) (oi := { dst := some 54, op := Op.indexAddr 53 (Operand.tmp 52) (Operand.tmp 53), type := 0, pos := "ref.go:129", after := #[{ on := 14, ground := Ground.data }, { on := 15, ground := Ground.data }], guard := none }) (v := ?_) rfl (by kernel_rfl) (by kernel_rfl) (by kernel_rfl) (by kernel_rfl) (by kernel_rfl) (fun _ _ _ h => h) (Or.inl ⟨rfl, ?_⟩) (by assumption) ?_
              rotate_left
              · (intro w' hSw; replace g1 := kept_cell hSw g1; replace g3 := kept_cell hSw g3; replace x0 := kept_cell hSw x0; replace x1 := kept_cell hSw x1; go_simp; try with_reducible rfl)
              try simp only [Act.put, List.setIfInBounds_toArray, List.set_cons_zero, List.set_cons_succ]
              refine x_take (i := 17) (oi := { dst := some 55, op := Op.load 3 (Operand.tmp 54), type := 3, pos := "ref.go:129", after := #[{ on := 16, ground := Ground.data }], guard := none }) (v := ?_) rfl (by kernel_rfl) (by kernel_rfl) (by kernel_rfl) (by kernel_rfl) (by kernel_rfl) (fun _ _ _ h => h) (Or.inl ⟨rfl, ?_⟩) (by assumption) ?_
              rotate_left
              · (intro w' hSw; replace g1 := kept_cell hSw g1; replace g3 := kept_cell hSw g3; replace x0 := kept_cell hSw x0; replace x1 := kept_cell hSw x1; go_simp; try with_reducible rfl)
              try simp only [Act.put, List.setIfInBounds_toArray, List.set_cons_zero, List.set_cons_succ]
              refine x_take (i := 18) (oi := { dst := some 56, op := Op.binOp BinOp.add 3 (Operand.tmp 47) (Operand.tmp 55) 3, type := 3, pos := "ref.go:129", after := #[{ on := 9, ground := Ground.data }, { on := 17, ground := Ground.data }], guard := none }) (v := ?_) rfl (by kernel_rfl) (by kernel_rfl) (by kernel_rfl) (by kernel_rfl) (by kernel_rfl) (fun _ _ _ h => h) (Or.inl ⟨rfl, ?_⟩) (by assumption) ?_
              rotate_left
              · (intro w' hSw; replace g1 := kept_cell hSw g1; replace g3 := kept_cell hSw g3; replace x0 := kept_cell hSw x0; replace x1 := kept_cell hSw x1; go_simp; try with_reducible rfl)
              try simp only [Act.put, List.setIfInBounds_toArray, List.set_cons_zero, List.set_cons_succ]
              refine x_take (i := 19) (oi := { dst := some 57, op := Op.indexAddr 53 (Operand.tmp 38) (Operand.tmp 39), type := 0, pos := "ref.go:129", after := #[{ on := 0, ground := Ground.data }, { on := 1, ground := Ground.data }, { on := 0, ground := Ground.phase }, { on := 1, ground := Ground.phase }, { on := 2, ground := Ground.phase }, { on := 3, ground := Ground.phase }, { on := 4, ground := Ground.phase }, { on := 5, ground := Ground.phase }, { on := 6, ground := Ground.phase }, { on := 7, ground := Ground.phase }, { on := 8, ground := Ground.phase }, { on := 9, ground := Ground.phase }, { on := 10, ground := Ground.phase }, { on := 11, ground := Ground.phase }, { on := 12, ground := Ground.phase }, { on := 13, ground := Ground.phase }, { on := 14, ground := Ground.phase }, { on := 15, ground := Ground.phase }, { on := 16, ground := Ground.phase }, { on := 17, ground := Ground.phase }, { on := 18, ground := Ground.phase }], guard := none }) (v := ?_) rfl (by kernel_rfl) (by kernel_rfl) (by kernel_rfl) (by kernel_rfl) (by kernel_rfl) (fun _ _ _ h => h) (Or.inl ⟨rfl, ?_⟩) (by assumption) ?_
              rotate_left
              · (intro w' hSw; replace g1 := kept_cell hSw g1; replace g3 := kept_cell hSw g3; replace x0 := kept_cell hSw x0; replace x1 := kept_cell hSw x1; go_simp; try with_reducible rfl)
              try simp only [Act.put, List.setIfInBounds_toArray, List.set_cons_zero, List.set_cons_succ]
              refine x_last (i := 20) (o := { dst := none, op := Op.store 3 (Operand.tmp 57) (Operand.tmp 56), type := 0, pos := "ref.go:129", after := #[{ on := 19, ground := Ground.data }, { on := 18, ground := Ground.data }, { on := 0, ground := Ground.phase }, { on := 1, ground := Ground.phase }, { on := 2, ground := Ground.phase }, { on := 3, ground := Ground.phase }, { on := 4, ground := Ground.phase }, { on := 5, ground := Ground.phase }, { on := 6, ground := Ground.phase }, { on := 7, ground := Ground.phase }, { on := 8, ground := Ground.phase }, { on := 9, ground := Ground.phase }, { on := 10, ground := Ground.phase }, { on := 11, ground := Ground.phase }, { on := 12, ground := Ground.phase }, { on := 13, ground := Ground.phase }, { on := 14, ground := Ground.phase }, { on := 15, ground := Ground.phase }, { on := 16, ground := Ground.phase }, { on := 17, ground := Ground.phase }, { on := 18, ground := Ground.phase }], guard := none }) (by kernel_rfl) rfl (by simp) (fun K hK => ?_)
              (have oe5 := OE.out.kept hHeld; have f4 := oe5.frozen k; have c4 := oe5.int (j := k) hlk; go_simp)
              refine hK.out _ _ ?_
              clear hK K
              try simp only [Act.put, List.setIfInBounds_toArray, List.set_cons_zero, List.set_cons_succ]
              refine x_done (by kernel_rfl) ?_ _
              clear g1 g3 x0 x1 f4 c4
              go_wp2_with fail
              go_roundg (el.length - (k + 1))
              case rel => exact ⟨k + 1, by omega, rfl, by go_num, by (rw [← HSET.out]; exact oe5.setInt k (xa + xb)), kept_set (kept_trans K3 hHeld) (Nat.le_refl _) _⟩
              case measure => omega
            · obtain rfl : k = el.length := by omega
              have etab := tab_addE (e := el) (f := fl) (n := el.length) rfl HFL.out
              rw [etab] at oe
              have hae : (addE el fl).length = el.length := addE_len rfl HFL.out
              have g0 := kept_cell K1 H0.out
              have g2 := kept_cell K1 H2.out
              have inx : inF P M x := ⟨by have := TK.out.2.1; omega, TK.out.2.2.1⟩
              have iny : inF P M y := ⟨by have := TJ.out.2.1; omega, TJ.out.2.2.1⟩
              have CM := Lib.hid fun w' => C65.out w' x y inx iny
              obtain ⟨m, hm⟩ : ∃ m, m = mulF P M x y := ⟨_, rfl⟩
              rw [← hm] at CM
              have HMT := Lib.hid (show (⟨m, addE el fl⟩ : Tm) = mulTm (mulF P M) ⟨x, el⟩ (tmv r j) by rw [HTJ.out, hm]; rfl)
              have q0 := (o2.kept K1).cell (j := 0) rfl
              have q1 := (o2.kept K1).cell (j := 1) rfl
              have q2 := (o2.kept K1).cell (j := 2) rfl
              have q3 := (o2.kept K1).cell (j := 3) rfl
              have HROE := Lib.hid (oe.row wm.heap.size 1 el.length (Nat.le_refl _) (by simp [hae]) (by omega))
              have h9' := row_kept h9 K3
              have HKS' := Lib.hid (show ∀ z ∈ S, okTe z wr from fun z hz => (HKS.out z hz).kept K3)
              have K23 := kept_trans K2 K3
              have hsz9 := K23.size
              clear oe etab hm
              go_upto_region 14 with fail
              refine region_x (fun w' => Kept wo w') [] (by kernel_rfl) (kept_drew (K23)) (fun hHeld => ?_)
              refine x_take (i := 0) (oi := { dst := some 58, op := Op.move (Operand.tmp 9), type := 25, pos := "ref.go:131", after := #[], guard := none }) (v := ?_) rfl (by kernel_rfl) (by kernel_rfl) (by kernel_rfl) (by kernel_rfl) (by kernel_rfl) (fun _ _ _ h => h) (Or.inl ⟨rfl, ?_⟩) (by assumption) ?_
              rotate_left
              · (intro w' hSw; replace q0 := kept_cell hSw q0; replace q1 := kept_cell hSw q1; replace q2 := kept_cell hSw q2; replace q3 := kept_cell hSw q3; replace g0 := kept_cell hSw g0; replace g2 := kept_cell hSw g2; go_simp; try with_reducible rfl)
              try simp only [Act.put, List.setIfInBounds_toArray, List.set_cons_zero, List.set_cons_succ]
              refine x_take (i := 1) (oi := { dst := some 59, op := Op.load 37 (Operand.tmp 3), type := 37, pos := "ref.go:131", after := #[], guard := none }) (v := ?_) rfl (by kernel_rfl) (by kernel_rfl) (by kernel_rfl) (by kernel_rfl) (by kernel_rfl) (fun _ _ _ h => h) (Or.inl ⟨rfl, ?_⟩) (by assumption) ?_
              rotate_left
              · (intro w' hSw; replace q0 := kept_cell hSw q0; replace q1 := kept_cell hSw q1; replace q2 := kept_cell hSw q2; replace q3 := kept_cell hSw q3; replace g0 := kept_cell hSw g0; replace g2 := kept_cell hSw g2; go_simp; try with_reducible rfl)
              try simp only [Act.put, List.setIfInBounds_toArray, List.set_cons_zero, List.set_cons_succ]
              refine x_take (i := 2) (oi := { dst := some 60, op := Op.move (Operand.tmp 1), type := 25, pos := "ref.go:131", after := #[], guard := none }) (v := ?_) rfl (by kernel_rfl) (by kernel_rfl) (by kernel_rfl) (by kernel_rfl) (by kernel_rfl) (fun _ _ _ h => h) (Or.inl ⟨rfl, ?_⟩) (by assumption) ?_
              rotate_left
              · (intro w' hSw; replace q0 := kept_cell hSw q0; replace q1 := kept_cell hSw q1; replace q2 := kept_cell hSw q2; replace q3 := kept_cell hSw q3; replace g0 := kept_cell hSw g0; replace g2 := kept_cell hSw g2; go_simp; try with_reducible rfl)
              try simp only [Act.put, List.setIfInBounds_toArray, List.set_cons_zero, List.set_cons_succ]
              refine x_take (i := 3) (oi := { dst := some 61, op := Op.move (Operand.tmp 8), type := 3, pos := "ref.go:131", after := #[], guard := none }) (v := ?_) rfl (by kernel_rfl) (by kernel_rfl) (by kernel_rfl) (by kernel_rfl) (by kernel_rfl) (fun _ _ _ h => h) (Or.inl ⟨rfl, ?_⟩) (by assumption) ?_
              rotate_left
              · (intro w' hSw; replace q0 := kept_cell hSw q0; replace q1 := kept_cell hSw q1; replace q2 := kept_cell hSw q2; replace q3 := kept_cell hSw q3; replace g0 := kept_cell hSw g0; replace g2 := kept_cell hSw g2; go_simp; try with_reducible rfl)
              try simp only [Act.put, List.setIfInBounds_toArray, List.set_cons_zero, List.set_cons_succ]
              refine x_take (i := 4) (oi := { dst := some 62, op := Op.indexAddr 25 (Operand.tmp 60) (Operand.tmp 61), type := 0, pos := "ref.go:131", after := #[{ on := 2, ground := Ground.data }, { on := 3, ground := Ground.data }], guard := none }) (v := ?_) rfl (by kernel_rfl) (by kernel_rfl) (by kernel_rfl) (by kernel_rfl) (by kernel_rfl) (fun _ _ _ h => h) (Or.inl ⟨rfl, ?_⟩) (by assumption) ?_
              rotate_left
              · (intro w' hSw; replace q0 := kept_cell hSw q0; replace q1 := kept_cell hSw q1; replace q2 := kept_cell hSw q2; replace q3 := kept_cell hSw q3; replace g0 := kept_cell hSw g0; replace g2 := kept_cell hSw g2; go_simp; try with_reducible rfl)
              try simp only [Act.put, List.setIfInBounds_toArray, List.set_cons_zero, List.set_cons_succ]
              refine x_take (i := 5) (oi := { dst := some 63, op := Op.fieldAddr 64 (Operand.tmp 62) 0, type := 0, pos := "ref.go:131", after := #[{ on := 4, ground := Ground.data }], guard := none }) (v := ?_) rfl (by kernel_rfl) (by kernel_rfl) (by kernel_rfl) (by kernel_rfl) (by kernel_rfl) (fun _ _ _ h => h) (Or.inl ⟨rfl, ?_⟩) (by assumption) ?_
              rotate_left
              · (intro w' hSw; replace q0 := kept_cell hSw q0; replace q1 := kept_cell hSw q1; replace q2 := kept_cell hSw q2; replace q3 := kept_cell hSw q3; replace g0 := kept_cell hSw g0; replace g2 := kept_cell hSw g2; go_simp; try with_reducible rfl)
              try simp only [Act.put, List.setIfInBounds_toArray, List.set_cons_zero, List.set_cons_succ]
              refine x_take (i := 6) (oi := { dst := some 64, op := Op.load 3 (Operand.tmp 63), type := 3, pos := "ref.go:131", after := #[{ on := 5, ground := Ground.data }], guard := none }) (v := ?_) rfl (by kernel_rfl) (by kernel_rfl) (by kernel_rfl) (by kernel_rfl) (by kernel_rfl) (fun _ _ _ h => h) (Or.inl ⟨rfl, ?_⟩) (by assumption) ?_
              rotate_left
              · (intro w' hSw; replace q0 := kept_cell hSw q0; replace q1 := kept_cell hSw q1; replace q2 := kept_cell hSw q2; replace q3 := kept_cell hSw q3; replace g0 := kept_cell hSw g0; replace g2 := kept_cell hSw g2; go_simp; try with_reducible rfl)
              try simp only [Act.put, List.setIfInBounds_toArray, List.set_cons_zero, List.set_cons_succ]
              refine x_take (i := 7) (oi := { dst := some 65, op := Op.move (Operand.tmp 2), type := 25, pos := "ref.go:131", after := #[], guard := none }) (v := ?_) rfl (by kernel_rfl) (by kernel_rfl) (by kernel_rfl) (by kernel_rfl) (by kernel_rfl) (fun _ _ _ h => h) (Or.inl ⟨rfl, ?_⟩) (by assumption) ?_
              rotate_left
              · (intro w' hSw; replace q0 := kept_cell hSw q0; replace q1 := kept_cell hSw q1; replace q2 := kept_cell hSw q2; replace q3 := kept_cell hSw q3; replace g0 := kept_cell hSw g0; replace g2 := kept_cell hSw g2; go_simp; try with_reducible rfl)
              try simp only [Act.put, List.setIfInBounds_toArray, List.set_cons_zero, List.set_cons_succ]
              refine x_take (i := 8) (oi := { dst := some 66, op := Op.move (Operand.tmp 10), type := 3, pos := "ref.go:131", after := #[], guard := none }) (v := ?_) rfl (by kernel_rfl) (by kernel_rfl) (by kernel_rfl) (by kernel_rfl) (by kernel_rfl) (fun _ _ _ h => h) (Or.inl ⟨rfl, ?_⟩) (by assumption) ?_
              rotate_left
              · (intro w' hSw; replace q0 := kept_cell hSw q0; replace q1 := kept_cell hSw q1; replace q2 := kept_cell hSw q2; replace q3 := kept_cell hSw q3; replace g0 := kept_cell hSw g0; replace g2 := kept_cell hSw g2; go_simp; try with_reducible rfl)
              try simp only [Act.put, List.setIfInBounds_toArray, List.set_cons_zero, List.set_cons_succ]
              refine x_take (i := 9) (oi := { dst := some 67, op := Op.indexAddr 25 (Operand.tmp 65) (Operand.tmp 66), type := 0, pos := "ref.go:131", after := #[{ on := 7, ground := Ground.data }, { on := 8, ground := Ground.data }], guard := none }) (v := ?_) rfl (by kernel_rfl) (by kernel_rfl) (by kernel_rfl) (by kernel_rfl) (by kernel_rfl) (fun _ _ _ h => h) (Or.inl ⟨rfl, ?_⟩) (by assumption) ?_
              rotate_left
              · (intro w' hSw; replace q0 := kept_cell hSw q0; replace q1 := kept_cell hSw q1; replace q2 := kept_cell hSw q2; replace q3 := kept_cell hSw q3; replace g0 := kept_cell hSw g0; replace g2 := kept_cell hSw g2; go_simp; try with_reducible rfl)
              try simp only [Act.put, List.setIfInBounds_toArray, List.set_cons_zero, List.set_cons_succ]
              refine x_take (i := 10) (oi := { dst := some 68, op := Op.fieldAddr 64 (Operand.tmp 67) 0, type := 0, pos := "ref.go:131", after := #[{ on := 9, ground := Ground.data }], guard := none }) (v := ?_) rfl (by kernel_rfl) (by kernel_rfl) (by kernel_rfl) (by kernel_rfl) (by kernel_rfl) (fun _ _ _ h => h) (Or.inl ⟨rfl, ?_⟩) (by assumption) ?_
              rotate_left
              · (intro w' hSw; replace q0 := kept_cell hSw q0; replace q1 := kept_cell hSw q1; replace q2 := kept_cell hSw q2; replace q3 := kept_cell hSw q3; replace g0 := kept_cell hSw g0; replace g2 := kept_cell hSw g2; go_simp; try with_reducible rfl)
              try simp only [Act.put, List.setIfInBounds_toArray, List.set_cons_zero, List.set_cons_succ]
              refine x_take (i := 11) (oi := { dst := some 69, op := Op.load 3 (Operand.tmp 68), type := 3, pos := "ref.go:131", after := #[{ on := 10, ground := Ground.data }], guard := none }) (v := ?_) rfl (by kernel_rfl) (by kernel_rfl) (by kernel_rfl) (by kernel_rfl) (by kernel_rfl) (fun _ _ _ h => h) (Or.inl ⟨rfl, ?_⟩) (by assumption) ?_
              rotate_left
              · (intro w' hSw; replace q0 := kept_cell hSw q0; replace q1 := kept_cell hSw q1; replace q2 := kept_cell hSw q2; replace q3 := kept_cell hSw q3; replace g0 := kept_cell hSw g0; replace g2 := kept_cell hSw g2; go_simp; try with_reducible rfl)
              try simp only [Act.put, List.setIfInBounds_toArray, List.set_cons_zero, List.set_cons_succ]
              refine x_take (i := 13) (oi := { dst := some 71, op := Op.move (Operand.tmp 11), type := 53, pos := "ref.go:131", after := #[], guard := none }) (v := ?_) rfl (by kernel_rfl) (by kernel_rfl) (by kernel_rfl) (by kernel_rfl) (by kernel_rfl) (fun _ _ _ h => h) (Or.inl ⟨rfl, ?_⟩) (by assumption) ?_
              rotate_left
              · (intro w' hSw; replace q0 := kept_cell hSw q0; replace q1 := kept_cell hSw q1; replace q2 := kept_cell hSw q2; replace q3 := kept_cell hSw q3; replace g0 := kept_cell hSw g0; replace g2 := kept_cell hSw g2; go_simp; try with_reducible rfl)
              try simp only [Act.put, List.setIfInBounds_toArray, List.set_cons_zero, List.set_cons_succ]
              refine x_one (i := 12) (o := { dst := some 70, op := Op.call { callee := Callee.value (Operand.func 36), args := #[Operand.tmp 59, Operand.tmp 64, Operand.tmp 69], argTypes := #[37, 3, 3] }, type := 3, pos := "ref.go:131", after := #[{ on := 1, ground := Ground.data }, { on := 6, ground := Ground.data }, { on := 11, ground := Ground.data }], guard := none }) (by kernel_rfl) rfl (fun K hK => ?_)
              (go_simp; go_at_call 36; (with_reducible refine (CM.out _).mono ?_); rintro e w5 ⟨rfl, k5⟩; have KR := kept_trans (kept_drew (kept_refl wr)) k5; have G5 := kept_trans K23 KR; try dsimp only)
              refine hK.out _ _ ?_ (fun hHeld => ?_)
              · (try dsimp only); repeat (first | assumption | exact kept_refl _ | refine kept_drew ?_ | refine kept_alloc ?_ _ | refine kept_set ?_ (by omega) _)
              clear hK K
              try simp only [Act.put, List.setIfInBounds_toArray, List.set_cons_zero, List.set_cons_succ]
              refine x_take (i := 14) (oi := { dst := some 72, op := Op.build 64 #[(0, Operand.tmp 70), (1, Operand.tmp 71)], type := 64, pos := "ref.go:131", after := #[{ on := 12, ground := Ground.data }, { on := 13, ground := Ground.data }], guard := none }) (v := ?_) rfl (by kernel_rfl) (by kernel_rfl) (by kernel_rfl) (by kernel_rfl) (by kernel_rfl) (fun _ _ _ h => h) (Or.inl ⟨rfl, ?_⟩) (by assumption) ?_
              rotate_left
              · (intro w' hSw; replace q0 := kept_cell hSw q0; replace q1 := kept_cell hSw q1; replace q2 := kept_cell hSw q2; replace q3 := kept_cell hSw q3; replace g0 := kept_cell hSw g0; replace g2 := kept_cell hSw g2; go_simp; try with_reducible rfl)
              try simp only [Act.put, List.setIfInBounds_toArray, List.set_cons_zero, List.set_cons_succ]
              refine x_one (i := 15) (o := { dst := some 73, op := Op.buildSlice 25 1 #[(0, Operand.tmp 72)], type := 25, pos := "ref.go:131", after := #[{ on := 14, ground := Ground.data }], guard := none }) (by kernel_rfl) rfl (fun K hK => ?_)
              (go_simp)
              refine hK.out _ _ ?_ (fun hHeld => ?_)
              · (try dsimp only); repeat (first | assumption | exact kept_refl _ | refine kept_drew ?_ | refine kept_alloc ?_ _ | refine kept_set ?_ (by omega) _)
              clear hK K
              try simp only [Act.put, List.setIfInBounds_toArray, List.set_cons_zero, List.set_cons_succ]
              refine x_one (i := 16) (o := { dst := some 74, op := Op.call { callee := Callee.builtin Builtin.append, args := #[Operand.tmp 58, Operand.tmp 73], argTypes := #[25, 25] }, type := 25, pos := "ref.go:131", after := #[{ on := 0, ground := Ground.data }, { on := 15, ground := Ground.data }, { on := 12, ground := Ground.chain }], guard := none }) (by kernel_rfl) rfl (fun K hK => ?_)
              (refine step_own wo.heap.size rfl (.tmp 58) (.tmp 73) 25 64 (.agg #[.int .i64 0, .slice none 0 0]) 2 32 rfl Tryz.underlying25 info67 rfl (by omega) (by omega) u9 j 1 1 ⟨w5.heap.size, 0, none⟩ (teCells S) [.int .i64 m, .slice (some ⟨wm.heap.size, 0, none⟩) el.length el.length] rfl rfl rfl (news_rd (Own.new w5 64 [.int .i64 m, .slice (some ⟨wm.heap.size, 0, none⟩) el.length el.length]).rd) (one_te _ _ _ _) (row_kept h9' (kept_alloc KR _)) hHeld.size (by omega) ?_; intro v9 w9 hr9 hg9 _; have G9 : Kept wo w9 := kept_grown (kept_trans K23 (kept_alloc KR _)) (row_kept h9' (kept_alloc KR _)) (Nat.le_refl _) hg9)
              refine hK.out _ _ ?_ (fun hHeld => ?_)
              · (try dsimp only); repeat (first | assumption | exact kept_refl _ | refine kept_drew ?_ | refine kept_alloc ?_ _ | refine kept_set ?_ (by omega) _)
              clear hK K
              try simp only [Act.put, List.setIfInBounds_toArray, List.set_cons_zero, List.set_cons_succ]
              refine x_take (i := 17) (oi := { dst := some 9, op := Op.assign (Operand.tmp 74), type := 25, pos := "ref.go:131", after := #[{ on := 16, ground := Ground.data }, { on := 16, ground := Ground.chain }, { on := 0, ground := Ground.phase }, { on := 1, ground := Ground.phase }, { on := 2, ground := Ground.phase }, { on := 3, ground := Ground.phase }, { on := 4, ground := Ground.phase }, { on := 5, ground := Ground.phase }, { on := 6, ground := Ground.phase }, { on := 7, ground := Ground.phase }, { on := 8, ground := Ground.phase }, { on := 9, ground := Ground.phase }, { on := 10, ground := Ground.phase }, { on := 11, ground := Ground.phase }, { on := 12, ground := Ground.phase }, { on := 13, ground := Ground.phase }, { on := 14, ground := Ground.phase }, { on := 15, ground := Ground.phase }, { on := 16, ground := Ground.phase }], guard := none }) (v := ?_) rfl (by kernel_rfl) (by kernel_rfl) (by kernel_rfl) (by kernel_rfl) (by kernel_rfl) (fun _ _ _ h => h) (Or.inl ⟨rfl, ?_⟩) (by assumption) ?_
              rotate_left
              · (intro w' hSw; replace q0 := kept_cell hSw q0; replace q1 := kept_cell hSw q1; replace q2 := kept_cell hSw q2; replace q3 := kept_cell hSw q3; replace g0 := kept_cell hSw g0; replace g2 := kept_cell hSw g2; go_simp; try with_reducible rfl)
              try simp only [Act.put, List.setIfInBounds_toArray, List.set_cons_zero, List.set_cons_succ]
              refine x_done (by kernel_rfl) ?_ _
              have K9 := G9
              have KRA : Kept wr (w5.alloc (.cells #[.int .i64 m, .slice (some ⟨wm.heap.size, 0, none⟩) el.length el.length] 64)) := kept_alloc KR _
              have hr9' : w9.ownsRow wo.heap.size 64 2 v9 (j + 1) (teCells (S ++ [⟨⟨m, addE el fl⟩, some ⟨wm.heap.size, 0, none⟩, el.length⟩])) := by
                rw [teCells_snoc]
                simpa [te2, hae] using hr9
              have HOK9 := Lib.hid (show ∀ z ∈ S ++ [⟨⟨m, addE el fl⟩, some ⟨wm.heap.size, 0, none⟩, el.length⟩], okTe z w9 from fun z hz => by
                rcases List.mem_append.1 hz with hz | hz
                · exact ((HKS'.out z hz).kept KRA).grow (row_kept h9' KRA) (by decide) hg9
                · obtain rfl := List.mem_singleton.1 hz
                  have h5 : okTe ⟨⟨m, addE el fl⟩, some ⟨wm.heap.size, 0, none⟩, el.length⟩ wr := ⟨by
                    have := row_base HROE.out (Nat.zero_le _)
                    simpa [hae] using this, by simp [hae]; omega⟩
                  exact (h5.kept KRA).grow (row_kept h9' KRA) (by decide) hg9)
              clear hr9 hg9 q0 q1 q2 q3 g0 g2
              go_wp2_with fail
              go_roundg (r.length - (j + 1))
              case rel => exact ⟨j + 1, S ++ [⟨⟨m, addE el fl⟩, some ⟨wm.heap.size, 0, none⟩, el.length⟩], _, _, by omega, rfl, by go_num, rfl, rfl, hr9', Lib.hid ⟨by (rw [List.length_append, HS.out.1]; rfl), by
                rw [List.map_append, HS.out.2, take_tm hjt, List.map_append]
                simp only [List.map_cons, List.map_nil]
                rw [HMT.out]⟩, HOK9, K9⟩
              case measure => omega
        · obtain rfl : j = r.length := by omega
          obtain ⟨A9, c9, rfl⟩ := row_val h9
          have h7' := row_kept h7 K2
          have hB5 : w0.heap.size ≤ wr.heap.size := (kept_trans K1 K2).size
          have OKR := Lib.hid (show okRw ⟨A9, c9, S⟩ wr from ⟨by
            have := row_base h9 (Nat.zero_le _)
            simpa [valRw, HS.out.1] using this, HKS.out, by rw [HS.out.1]; exact hr⟩)
          clear h9
          go_wp2_with (at_builtin; go_loud (refine app_law w0.heap.size rfl (.tmp 75) (.tmp 77) 43 25 (.slice none 0 0) 1 24 rfl Tryz.underlying43 info25 rfl (by omega) (by omega) u7 i 1 (L.map valRw) [.slice A9 r.length c9] rfl rfl rfl (by intro u hu; simp at hu; subst hu; rfl) h7' hB5 (by omega) ?_; intro v5 w5 h5 hg5 _))
          go_roundg (p.length - (i + 1))
          case rel => exact ⟨i + 1, L ++ [⟨A9, c9, S⟩], _, _, _, _, by omega, rfl, by go_num, rfl, rfl, rfl, rfl, by
              (rw [List.map_append]; simpa [valRw, HS.out.1] using h5), Lib.hid ⟨by (rw [List.length_append, HL.out.1]; rfl), by
              rw [List.map_append, HL.out.2, prodL_take hit, HTM.out]
              simp only [List.map_cons, List.map_nil]
              rw [HS.out.2, List.take_length]⟩, Lib.hid (fun y hy => by
              rcases List.mem_append.1 hy with hy | hy
              · exact ((HK.out y hy).kept K2).grow h7' hg5
              · obtain rfl := List.mem_singleton.1 hy
                exact OKR.out.grow h7' hg5), kept_grown (kept_trans K1 K2) h7' (Nat.le_refl _) hg5⟩
          case measure => omega
    · obtain rfl : i = p.length := by omega
      have hcl := HL.out.1
      obtain ⟨A7, c7, rfl⟩ := row_val h7
      have hcap := row_cap h7
      have hpl : (prodL (mulF P M) p r).length = p.length := by simp [prodL]
      have hrpp : RPP wr A7 (prodL (mulF P M) p r) := by
        have h5 := rppR_of_row (L := L) (cap := c7) (by rw [hcl]; exact h7) HK.out
        rw [HL.out.2, List.take_length] at h5
        exact h5
      have y0 := (o2.kept K1).cell (j := 0) rfl; have y1 := (o2.kept K1).cell (j := 1) rfl; have y2 := (o2.kept K1).cell (j := 2) rfl; have y3 := (o2.kept K1).cell (j := 3) rfl
      have D49 := Lib.hid (C49.out A7 c7 wr hrpp (by rw [hpl]; exact hcap.1) hcap.2)
      rw [hpl] at D49
      clear hcl hrpp hcap hpl
      go_wp2_with (go_at_call 67; ((with_reducible refine D49.out.mono ?_); rintro e w5 ⟨A6, c6, out, rfl, ho, hrp, k6⟩; have HO := Lib.hid ho; clear ho))
      go_ret
      exact ⟨A6, c6, out, rfl, HO.out, hrp, kept_trans K0 (kept_trans K1 k6)⟩
theorem rmul30_any (P M : Int) (n : Nat) (p r : List Tm) (A B : Option Addr) (c d : Nat) (w : World) (ok : okF P M = true) (hP : RP w A p) (hR : RP w B r) (hn : n ≤ 80) (tp : TmsOk P M n p) (tr : TmsOk P M n r) (hp : p.length ≤ 20000) (hr : r.length ≤ 20000) (hpr : p.length * r.length ≤ 20000) (cp : Canon (ordF P M) n p) (cr : Canon (ordF P M) n r) :
    Calls Tryz.prog 43 #[kV P M, .slice A p.length c, .slice B r.length d] w (TotPost P M (prodL (mulF P M) p r) w) :=
  rmul30_up P M n p r A B c d w ok hP hR hn tp.up tr.up hp hr hpr cp cr
end Go.Proofs.YtnjmpjdampdmmaaGreatDoor
