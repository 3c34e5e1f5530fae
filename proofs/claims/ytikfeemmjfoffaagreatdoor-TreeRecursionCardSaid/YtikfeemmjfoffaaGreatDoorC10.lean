/- Polynomials: the values of a table are collected and sorted (slices.SortedFunc over maps.Values). -/
import Derived.Test.YtikfeemmjfoffaaGreatDoorC9
import Derived.Shelf.SlSortCmp.NoneTotal
import Derived.Shelf.SlSortCmp.WholeK
set_option linter.unusedVariables false
set_option linter.unusedSimpArgs false
namespace Go.Proofs.YtikfeemmjfoffaaGreatDoor
open Go.RowKit Go.Maps Go.Shelf Go.Sort Go.Lib

/-! ### slices.Collect -/
set_option maxRecDepth 100000 in
set_option maxHeartbeats 1000000 in
theorem collect95_any (Bm b nn : Nat) (D : DataW Value) (w : World) (hs : Maps.size D ≤ 1000000000000) (hm : w.cell? ⟨Bm, 0, none⟩ = some (.map (some b))) (hown : w.ownsMap Tryz.prog 9 termR b nn D) :
    Calls Tryz.prog 110 #[.func (.func 112) #[] #[.pointer (some ⟨Bm, 0, none⟩)]] w fun e w' => ∃ (v : Value) (xs : List Tv), e = .returned v ∧ (∃ ps, AllV D ps ∧ xs = ps.map (·.2)) ∧ w'.ownsRow w.heap.size 78 2 v xs.length (tvCells xs) ∧ (v = .slice none 0 0 ↔ xs = []) ∧ Below w.heap.size w w' := by
  have hseq := values97_stops Fence.wide 2 trivial rfl (by decide) Bm b nn D w (kept_lt hm) hm hown
  have C := callsIn_wide.1 (appendSeq102_in Fence.wide 3 trivial rfl (by decide) 112 #[.pointer (some ⟨Bm, 0, none⟩)] trivial (enters_of Tryz.func112 (by kernel_rfl) rfl) _ _ _ hs w hseq)
  have C102 := Lib.hid C
  clear C hseq hown hm hs
  go_enter Tryz.func110, Tryz.ntmps110
  go_wp2_with (go_at_call 126; ((with_reducible refine C102.out.mono ?_); rintro e w1 ⟨v, xs, rfl, hS, hrow, hnil, hb⟩; have HN := Lib.hid hnil; clear hnil))
  go_ret
  exact ⟨v, xs, rfl, hS, hrow, HN.out, hb⟩

/-! ### A row of terms, in the sort's words -/
def te2 (x : Te) : List Value := [.int .i64 x.t.c, .slice x.E x.t.e.length x.cap]
def teCells (l : List Te) : List Value := l.flatMap te2
theorem teCells_length : ∀ l : List Te, (teCells l).length = l.length * 2
  | [] => rfl
  | x :: l => by
    have ih := teCells_length l
    simp only [teCells, List.flatMap_cons, List.length_append, List.length_cons] at ih ⊢
    simp only [te2, List.length_cons, List.length_nil]
    omega
theorem teCells_get : ∀ (l : List Te) (j : Nat) (h : j < l.length * 2), (teCells l)[j]? = some ((te2 (l[j / 2]'(by omega)))[j % 2]!)
  | [], j, h => by simp at h
  | x :: l, 0, h => rfl
  | x :: l, 1, h => rfl
  | x :: l, j + 2, h => by
    have ih := teCells_get l j (by simp at h; omega)
    have e1 : (j + 2) / 2 = j / 2 + 1 := by omega
    have e2 : (j + 2) % 2 = j % 2 := by omega
    have e3 : (teCells (x :: l))[j + 2]? = (teCells l)[j]? := by simp [teCells, te2]
    rw [e3, ih]
    simp only [e1, e2, List.getElem_cons_succ]
/-- The terms whose exponents lie in another block than g. -/
abbrev Tx (n g : Nat) (w : World) := { x : Te // x.t.e.length = n ∧ RdX g w x.E (ints x.t.e) }
section
variable {n g0 : Nat} {w0 : World}
def encTx (x : Tx n g0 w0) : List Value := te2 x.1
def cfTx (x y : Tx n g0 w0) : Int := cmpL x.1.t.e y.1.t.e
theorem ltTx (x y : Tx n g0 w0) : ltOf cfTx x y = true ↔ LtL x.1.t.e y.1.t.e := by
  unfold ltOf cfTx LtL
  rw [decide_eq_true_eq]
theorem ltTx_no (x y : Tx n g0 w0) : ltOf cfTx x y = false ↔ ¬ LtL x.1.t.e y.1.t.e := by rw [← ltTx]; simp
theorem swoTx : SWO (ltOf (cfTx (n := n) (g0 := g0) (w0 := w0))) where
  irrefl x := by rw [ltTx_no]; exact ltL_irrefl _
  trans x y z h1 h2 := by
    rw [ltTx] at *
    exact ltL_trans (by rw [x.2.1, y.2.1]) (by rw [y.2.1, z.2.1]) h1 h2
  ntrans x y z h1 h2 := by
    rw [ltTx_no] at *
    intro h
    rcases ltL_total (a := x.1.t.e) (b := y.1.t.e) (by rw [x.2.1, y.2.1]) with h3 | h3 | h3
    · exact h1 h3
    · rw [h3] at h; exact h2 h
    · exact h2 (ltL_trans (by rw [y.2.1, x.2.1]) (by rw [x.2.1, z.2.1]) h3 h)
variable [Inhabited (Tx n g0 w0)]
theorem te_flat (d : Array (Tx n g0 w0)) (j : Nat) (h : j < d.size * 2) : (teCells (d.toList.map (·.1)))[j]? = some (flatK encTx 2 d)[j]! := by
  have hk : j / 2 < d.size := by omega
  rw [teCells_get _ j (by simpa using h), get_flatK _ _ _ _ h]
  unfold encTx
  simp [getElem!_pos, hk]
theorem te_frame {w : World} {g m : Nat} {d : Array (Tx n g0 w0)} {os : Array Obj} : w.grownBy (sortWorldK encTx 2 w g 0 m d os) (some g) := by
  refine ⟨rfl, rfl, rfl, ?_, fun k hk hne => ?_⟩
  · simp [sortWorldK, putRowK, grow, putRow, mapBlock, Sort.ahead]
  · have hne' : g ≠ k := fun e => hne (by rw [e])
    simp [sortWorldK, putRowK, grow, putRow, mapBlock, Sort.ahead, Array.getElem?_append, hk, Array.getElem_modify, hne']
theorem te_holds {w : World} {B m cap g : Nat} {d : Array (Tx n g0 w0)} (h : w.ownsRow B 78 2 (.slice (some ⟨g, 0, none⟩) m cap) m (teCells (d.toList.map (·.1)))) : HoldsK encTx 2 w g 0 d := by
  intro j hj
  rw [size_flatK] at hj
  have hr := row_rd h
  have hc := te_flat d j hj
  refine ⟨?_, ?_⟩
  · obtain ⟨b, off, e, hcell⟩ := hr.at_ (by intro h0; rw [h0] at hc; simp at hc)
    injection e with e
    injection e with e1 e2 _
    subst e1; subst e2
    exact hcell j _ hc
  · rcases h.2 with ⟨e0, _⟩ | ⟨g', cap', cur, e0, hb, hg, _⟩
    · cases e0
    · injection e0 with e1 _ _
      injection e1 with e1
      injection e1 with e1
      subst e1
      simp [World.frozen?, hg]
theorem te_row {w : World} {B k cap g m : Nat} {o : List Te} {d : Array (Tx n g0 w0)} {os : Array Obj} (h : w.ownsRow B 78 2 (.slice (some ⟨g, 0, none⟩) k cap) k (teCells o)) (hd : d.size = k) :
    (sortWorldK encTx 2 w g 0 m d os).ownsRow B 78 2 (.slice (some ⟨g, 0, none⟩) k cap) k (teCells (d.toList.map (·.1))) := by
  rcases h.2 with ⟨e0, _⟩ | ⟨g', cap', cur, e0, hb, hg, hn, hm, hs, ht⟩
  · cases e0
  · injection e0 with e1 _ e3
    injection e1 with e1
    injection e1 with e1
    subst e1; subst e3
    have hlt : g < w.heap.size := (Array.getElem?_eq_some_iff.1 hg).1
    refine ⟨by rw [teCells_length]; simp [hd], .inr ⟨g, cap, putCells id 0 (flatK encTx 2 d) cur, rfl, hb, ?_, by omega, hm, by simpa [putCells] using hs, ?_⟩⟩
    · have hg2 := (Array.getElem?_eq_some_iff.1 hg).2
      simp [sortWorldK, putRowK, grow, putRow, mapBlock, Sort.ahead, Array.getElem?_append, hlt, Array.getElem_modify, hg2, onCells]
    · apply List.ext_getElem?
      intro j
      rw [List.getElem?_take, Array.getElem?_toList]
      by_cases hj : j < k * 2
      · have hjc : j < cur.size := by omega
        rw [if_pos hj, te_flat d j (by rw [hd]; exact hj)]
        simp only [putCells, Array.getElem?_mapIdx, Array.getElem?_eq_getElem hjc, Option.map_some]
        rw [if_pos (by rw [size_flatK, hd]; omega)]
        simp
      · rw [if_neg hj, List.getElem?_eq_none (by rw [teCells_length]; simp [hd]; omega)]
theorem cmpTx (g size : Nat) (w : World) (hw : KG g0 w0 w) (hg : g = g0) (hn : n ≤ 1000) : CmpLays Tryz.prog 73 #[] (encTx (n := n) (g0 := g0) (w0 := w0)) 2 cfTx g 0 size w := fun m os dk _ x y => by
  subst hg
  have k := kg_trans hw (te_frame (g := g) (m := m) (d := dk) (os := os))
  have h := exponents60_any x.1.t.c y.1.t.c x.1.t.e y.1.t.e x.1.E y.1.E x.1.cap y.1.cap (sortWorldK encTx 2 w g 0 m dk os) (x.2.2.kg k).rd (y.2.2.kg k).rd (by rw [x.2.1, y.2.1]) (by rw [x.2.1]; omega)
  refine Calls.mono (R := _) h ?_
  rintro e w' ⟨rfl, rfl⟩
  exact ⟨rfl, 0, _, by rw [alloc_eq_grow, alloc_eq_grow, grow_grow]; rfl⟩
theorem srt_tx {o d : Array (Tx n g0 w0)} (hp : PermIn 0 o.size o d) (ho : SortedIn (ltOf cfTx) 0 o.size d) : (d.toList.map (·.1)).Perm (o.toList.map (·.1)) ∧ (d.toList.map (·.1)).Pairwise fun a b => ¬ LtL b.t.e a.t.e := by
  obtain ⟨h1, _, h3⟩ := hp
  have hd : d.extract 0 o.size = d := by rw [← h1]; simp
  have ha : o.extract 0 o.size = o := by simp
  rw [hd, ha] at h3
  refine ⟨h3.map _, ?_⟩
  rw [List.pairwise_map, List.pairwise_iff_getElem]
  intro i j hi hj hij
  have hj' : j < d.size := by simpa using hj
  have hi' : i < d.size := by omega
  have h := ho i j (Nat.zero_le _) hij (by rw [← h1]; exact hj')
  rw [ltTx_no] at h
  rw [getElem!_pos d i hi', getElem!_pos d j hj'] at h
  simpa using h
end
/-- What the sort leaves. -/
def SortPost (o : List Te) (v : Value) (B : Nat) (w : World) (e : Ending) (w' : World) : Prop := e = .returned (.tuple #[]) ∧ ∃ S : List Te, S.Perm o ∧ S.Pairwise (fun a b => ¬ LtL b.t.e a.t.e) ∧ w'.ownsRow B 78 2 v S.length (teCells S) ∧ w.grownBy w' v.ownBlock
theorem sort96_any (n : Nat) (o : List Te) (v : Value) (B : Nat) (w : World) (h : w.ownsRow B 78 2 v o.length (teCells o)) (hn : n ≤ 1000) (hl : o.length ≤ 1000000000) (ho : ∀ x ∈ o, x.t.e.length = n ∧ ∀ g, B ≤ g → RdX g w x.E (ints x.t.e)) :
    Calls Tryz.prog 111 #[v, .func (.func 73) #[] #[]] w (SortPost o v B w) := by
  have h0 := h
  rcases h.2 with ⟨e0, hn0⟩ | ⟨g, cap, cur, e0, hb, hg, hn1, hm, hsz, ht⟩
  · subst e0
    have ho2 : o = [] := List.eq_nil_of_length_eq_zero hn0
    subst ho2
    have hcon := AnyF.slices_SortFunc_none Tryz.sortTm none 0 (.func (.func 73) #[] #[]) w
    change Calls Tryz.prog 111 _ _ _ at hcon
    refine hcon.mono ?_
    rintro e w' ⟨rfl, rfl⟩
    exact ⟨rfl, [], .refl _, .nil, h0, ⟨rfl, rfl, rfl, Nat.le_refl _, fun _ _ _ => rfl⟩⟩
  · subst e0
    have hlt : g < w.heap.size := (Array.getElem?_eq_some_iff.1 hg).1
    have hall : ∀ x ∈ o, x.t.e.length = n ∧ RdX g w x.E (ints x.t.e) := fun x hx => ⟨(ho x hx).1, (ho x hx).2 g hb⟩
    obtain ⟨d, hd⟩ : ∃ d : List (Tx n g w), d.map (·.1) = o := ⟨o.attachWith _ hall, List.attachWith_map_subtype_val _⟩
    by_cases hne : d = []
    · -- nothing to sort, in a block
      subst hne
      obtain rfl : [] = o := hd
      have hcon := AnyF.slices_SortFunc_none Tryz.sortTm (some ⟨g, 0, none⟩) cap (.func (.func 73) #[] #[]) w
      change Calls Tryz.prog 111 _ _ _ at hcon
      refine hcon.mono ?_
      rintro e w' ⟨rfl, rfl⟩
      exact ⟨rfl, [], .refl _, .nil, h0, ⟨rfl, rfl, rfl, Nat.le_refl _, fun _ _ _ => rfl⟩⟩
    · letI : Inhabited (Tx n g w) := ⟨d.head hne⟩
      have eg : ∀ args w, (callFunc 73 args).run Tryz.prog w = .ok (.enter 73 args) w := enters_of Tryz.func73 (by kernel_rfl) rfl
      have hz : d.toArray.size = o.length := by rw [← hd]; simp
      have hH : HoldsK encTx 2 w g 0 d.toArray := te_holds (B := B) (m := o.length) (cap := cap) (by simpa [hd] using h0)
      have hcon := AnyQ.slices_SortFunc Tryz.sortTm 2 Tryz.isAgg78 Tryz.sizeOf78 encTx (fun _ => rfl) (fun x v hv => by simp [encTx, te2] at hv; rcases hv with rfl | rfl <;> rfl) cfTx swoTx 73 #[] g 0 cap d.toArray w eg (cmpTx g d.toArray.size w (kg_of (kept_refl w)) rfl hn) hH hlt (by rw [hz]; omega)
      rw [hz] at hcon
      change Calls Tryz.prog 111 _ _ _ at hcon
      refine hcon.mono ?_
      rintro e w' ⟨rfl, d', m, os, hp, hso, rfl⟩
      have hp' : PermIn 0 d.toArray.size d.toArray d' := by rw [hz]; exact hp
      have hso' : SortedIn (ltOf cfTx) 0 d.toArray.size d' := by rw [hz]; exact hso
      obtain ⟨s1, s2⟩ := srt_tx hp' hso'
      have hd' : d'.size = o.length := by rw [hp'.1, hz]
      rw [show d.toArray.toList.map (·.1) = o from hd] at s1
      refine ⟨rfl, _, s1, s2, ?_, te_frame⟩
      rw [s1.length_eq]
      exact te_row h0 hd'
theorem own_from {w : World} {B sz n : Nat} {e : TypeId} {v : Value} {cs : List Value} (h : w.ownsRow B e sz v n cs) {k : Nat} (hk : v.ownBlock = some k) : B ≤ k := by
  rcases h.2 with ⟨rfl, _⟩ | ⟨g, cap, cur, rfl, hb, _⟩
  · cases hk
  · simp [Value.ownBlock] at hk
    omega
theorem rdx_new {w w1 : World} {A : Option Addr} {cs : List Value} (h : Rd w A cs) (k : Kept w w1) {g : Nat} (hg : w.heap.size ≤ g) : RdX g w1 A cs := fun hn => by
  obtain ⟨b, off, e, hc⟩ := h.at_ hn
  refine ⟨b, off, e, ?_, fun j v hj => kept_cell k (hc j v hj)⟩
  obtain ⟨v, l, rfl⟩ := List.exists_cons_of_ne_nil hn
  have hlt : b < w.heap.size := kept_lt (hc 0 v rfl)
  omega
set_option maxRecDepth 100000 in
set_option maxHeartbeats 1000000 in
theorem sorted79_any (n Bm b nn : Nat) (M : List Te) (D : DataW Value) (w : World) (hm : w.cell? ⟨Bm, 0, none⟩ = some (.map (some b))) (hown : w.ownsMap Tryz.prog 9 termR b nn D) (htab : Tab D M) (ok : TabOk n M) (hn : n ≤ 1000) (hl : M.length ≤ 1000000000) (ex : ∀ x ∈ M, Rd w x.E (ints x.t.e)) :
    Calls Tryz.prog 91 #[.func (.func 112) #[] #[.pointer (some ⟨Bm, 0, none⟩)], .func (.func 73) #[] #[]] w fun e w' => ∃ (v : Value) (S : List Te), e = .returned v ∧ S.Perm M ∧ S.Pairwise (fun a b => ¬ LtL b.t.e a.t.e) ∧ w'.ownsRow w.heap.size 78 2 v S.length (teCells S) ∧ (v = .slice none 0 0 ↔ S = []) ∧ Kept w w' := by
  have C95 := Lib.hid (collect95_any Bm b nn D w (by rw [tab_size htab]; omega) hm hown)
  have hall : ∀ ps : List (List UInt8 × Tv), AllV D ps → ∃ o : List Te, o.Perm M ∧ tvCells (ps.map (·.2)) = teCells o ∧ ps.length = o.length := fun ps hA => by
    obtain ⟨M', p1, p2⟩ := tab_all htab ok (ps := ps.map fun p => (p.1, encTv p.2)) (by rw [List.map_map]; exact hA.1) (fun p hp z => by
      obtain ⟨q, hq, rfl⟩ := List.mem_map.1 hp
      exact hA.2 q hq z)
    rw [List.map_map] at p2
    refine ⟨M', p1, ?_, by have := congrArg List.length p2; simpa using this⟩
    have e1 : tvCells (ps.map (·.2)) = (ps.map (fun p => encTv p.2)).flatMap fun v => v.cells.toList := by
      unfold tvCells encTv
      simp [List.flatMap_map, Value.cells]
    have e2 : teCells M' = (M'.map valTe).flatMap fun v => v.cells.toList := by
      unfold teCells te2 valTe
      simp [List.flatMap_map, Value.cells]
    rw [e1, e2]
    exact congrArg _ p2
  have HALL := Lib.hid hall
  have OK := Lib.hid ok
  have EX := Lib.hid ex
  clear hm hown htab ok ex hall
  go_enter Tryz.func91, Tryz.ntmps91
  go_wp2_with (first
    | (go_at_call 110; ((with_reducible refine C95.out.mono ?_); rintro e w1 ⟨v, xs, rfl, ⟨ps, hA, rfl⟩, hrow, hnil, hb⟩; obtain ⟨o, po, ec, el⟩ := HALL.out ps hA; rw [ec, List.length_map, el] at hrow; have C96 := Lib.hid (sort96_any n o v w.heap.size w1 hrow hn (by rw [po.length_eq]; exact hl) (fun x hx => ⟨(OK.out.good x (po.mem_iff.1 hx)).1, fun g hg => rdx_new (EX.out x (po.mem_iff.1 hx)) hb hg⟩)); have HN := Lib.hid hnil; have EL := Lib.hid el; have PO := Lib.hid po; clear hnil hrow el po))
    | (go_at_call 111; ((with_reducible refine C96.out.mono ?_); rintro e w2 ⟨rfl, S, s1, s2, s3, s4⟩)))
  go_ret
  have eS : S.length = ps.length := by rw [s1.length_eq, EL.out]
  exact ⟨v, S, rfl, s1.trans PO.out, s2, s3, by rw [HN.out, ← List.length_eq_zero_iff, ← List.length_eq_zero_iff, List.length_map, eS], hb.grown s4 hb.size (fun k e => own_from s3 e)⟩
end Go.Proofs.YtikfeemmjfoffaaGreatDoor
