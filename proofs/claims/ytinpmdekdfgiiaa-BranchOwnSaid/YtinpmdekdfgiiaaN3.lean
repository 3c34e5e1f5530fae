/- Joined: P6, P7. -/
import Derived.Test.YtinpmdekdfgiiaaN2
import Derived.Shelf.SlSortCmp.NoneTotal
/- Layers: the places are sorted (slices.SortFunc by the library's contract, laid at this program). -/
set_option linter.unusedVariables false
set_option linter.unusedSimpArgs false
namespace Go.Proofs.Ytinpmdekdfgiiaa
open Go.RowKit Go.Sort Go.Shelf Go.Lib

def sortPc_ren : Go.Shelf.Ren := ⟨fun | 6 => 86 | 15 => 99 | 14 => 98 | 28 => 109 | 29 => 110 | 20 => 101 | 21 => 102 | 22 => 103 | 23 => 104 | 24 => 105 | 25 => 106 | 26 => 107 | 27 => 108 | 46 => 112 | 47 => 113 | 48 => 114 | 49 => 115 | 50 => 116 | 57 => 117 | n => n, fun | 22 => 99 | 24 => 102 | 25 => 104 | 3 => 3 | 39 => 83 | 0 => 0 | 53 => 125 | 55 => 127 | 4 => 4 | 46 => 119 | 45 => 118 | 50 => 96 | 5 => 5 | 9 => 9 | 66 => 130 | 70 => 134 | 76 => 136 | 77 => 91 | n => n, fun | n => n⟩
theorem sortPc : Go.Proofs.SlLaysF0.n6 Try.prog sortPc_ren := {
  mixed := by kernel_rfl
  f6 := ⟨Try.f86.name, by decide, Try.func86.trans (congrArg some (by kernel_rfl))⟩
  f14 := ⟨Try.f98.name, by decide, Try.func98.trans (congrArg some (by kernel_rfl))⟩
  f15 := Try.func99.trans (congrArg some (by kernel_rfl))
  f20 := ⟨Try.f101.name, by decide, Try.func101.trans (congrArg some (by kernel_rfl))⟩
  f21 := ⟨Try.f102.name, by decide, Try.func102.trans (congrArg some (by kernel_rfl))⟩
  f22 := ⟨Try.f103.name, by decide, Try.func103.trans (congrArg some (by kernel_rfl))⟩
  f23 := ⟨Try.f104.name, by decide, Try.func104.trans (congrArg some (by kernel_rfl))⟩
  f24 := ⟨Try.f105.name, by decide, Try.func105.trans (congrArg some (by kernel_rfl))⟩
  f25 := ⟨Try.f106.name, by decide, Try.func106.trans (congrArg some (by kernel_rfl))⟩
  f26 := ⟨Try.f107.name, by decide, Try.func107.trans (congrArg some (by kernel_rfl))⟩
  f27 := ⟨Try.f108.name, by decide, Try.func108.trans (congrArg some (by kernel_rfl))⟩
  f28 := Try.func109.trans (congrArg some (by kernel_rfl))
  f29 := Try.func110.trans (congrArg some (by kernel_rfl))
  f46 := ⟨Try.f112.name, by decide, Try.func112.trans (congrArg some (by kernel_rfl))⟩
  f47 := Try.func113.trans (congrArg some (by kernel_rfl))
  f48 := Try.func114.trans (congrArg some (by kernel_rfl))
  f49 := ⟨Try.f115.name, by decide, Try.func115.trans (congrArg some (by kernel_rfl))⟩
  f50 := ⟨Try.f116.name, by decide, Try.func116.trans (congrArg some (by kernel_rfl))⟩
  f57 := ⟨Try.f117.name, by decide, Try.func117.trans (congrArg some (by kernel_rfl))⟩
  t0 := Try.underlying0
  a0 := Try.isAgg0
  z0 := Try.sizeOf0
  v0 := Try.zeroValue0
  t3 := Try.underlying3
  a3 := Try.isAgg3
  z3 := Try.sizeOf3
  v3 := Try.zeroValue3
  t4 := Try.underlying4
  a4 := Try.isAgg4
  z4 := Try.sizeOf4
  v4 := Try.zeroValue4
  t5 := Try.underlying5
  a5 := Try.isAgg5
  z5 := Try.sizeOf5
  v5 := Try.zeroValue5
  t9 := Try.underlying9
  a9 := Try.isAgg9
  z9 := Try.sizeOf9
  v9 := Try.zeroValue9
  t22 := Try.underlying99
  a22 := Try.isAgg99
  z22 := Try.sizeOf99
  v22 := Try.zeroValue99
  t25 := Try.underlying104
  a25 := Try.isAgg104
  z25 := Try.sizeOf104
  v25 := Try.zeroValue104
  t39 := Try.underlying83
  a39 := Try.isAgg83
  z39 := Try.sizeOf83
  v39 := Try.zeroValue83
  t45 := Try.underlying118
  a45 := Try.isAgg118
  z45 := Try.sizeOf118
  v45 := Try.zeroValue118
  t46 := Try.underlying119
  a46 := Try.isAgg119
  z46 := Try.sizeOf119
  v46 := Try.zeroValue119
  t50 := Try.underlying96
  a50 := Try.isAgg96
  z50 := Try.sizeOf96
  v50 := Try.zeroValue96
  t53 := Try.underlying125
  a53 := Try.isAgg125
  z53 := Try.sizeOf125
  v53 := Try.zeroValue125
  t55 := Try.underlying127
  a55 := Try.isAgg127
  z55 := Try.sizeOf127
  v55 := Try.zeroValue127
  t66 := Try.underlying130
  a66 := Try.isAgg130
  z66 := Try.sizeOf130
  v66 := Try.zeroValue130
  t70 := Try.underlying134
  a70 := Try.isAgg134
  z70 := Try.sizeOf134
  v70 := Try.zeroValue134
  t76 := Try.underlying136
  a76 := Try.isAgg136
  z76 := Try.sizeOf136
  v76 := Try.zeroValue136
  t77 := Try.underlying91
  a77 := Try.isAgg91
  z77 := Try.sizeOf91
  v77 := Try.zeroValue91 }

/-- Places with small numbers: what the sort handles. -/
abbrev Pn := Fin 65536 × Fin 65536
def encPn (a : Pn) : List Value := [.int .i64 (a.1.val : Int), .int .i64 (a.2.val : Int)]
def cfPn (a b : Pn) : Int := if (a.2.val : Int) = (b.2.val : Int) then (a.1.val : Int) - (b.1.val : Int) else (a.2.val : Int) - (b.2.val : Int)
theorem ltPn (a b : Pn) : ltOf cfPn a b = true ↔ a.2.val < b.2.val ∨ (a.2.val = b.2.val ∧ a.1.val < b.1.val) := by
  unfold ltOf cfPn
  rw [decide_eq_true_eq]
  split <;> omega
theorem ltPn_no (a b : Pn) : ltOf cfPn a b = false ↔ ¬ (a.2.val < b.2.val ∨ (a.2.val = b.2.val ∧ a.1.val < b.1.val)) := by
  rw [← ltPn]; simp
theorem swoPn : SWO (ltOf cfPn) where
  irrefl x := by rw [ltPn_no]; omega
  trans x y z h1 h2 := by rw [ltPn] at *; omega
  ntrans x y z h1 h2 := by rw [ltPn_no] at *; omega

set_option maxRecDepth 100000 in
set_option maxHeartbeats 1000000 in
theorem cmp87_any (x y : Pn) (W : World) : Calls Try.prog 87 #[.agg #[.int .i64 (x.1.val : Int), .int .i64 (x.2.val : Int)], .agg #[.int .i64 (y.1.val : Int), .int .i64 (y.2.val : Int)]] W fun e w' => e = .returned (.int .i64 (cfPn x y)) ∧ ∃ q os', w' = grow (W.drewN q) os' := by
  unfold cfPn
  have h1 := x.1.isLt; have h2 := x.2.isLt; have h3 := y.1.isLt; have h4 := y.2.isLt
  generalize x.1.val = a at *
  generalize x.2.val = b at *
  generalize y.1.val = c at *
  generalize y.2.val = d at *
  by_cases h : (b : Int) = (d : Int)
  · have e1 : ((b : Int) != (d : Int)) = false := by simpa using h
    have e2 : (b != d) = false := by have : b = d := by omega
                                     simp [this]
    have m1 : IntKind.i64.wrap ((a : Int) - (c : Int)) = (a : Int) - (c : Int) := IntWalk.i64_in _ (by omega)
    rw [if_pos h]
    clear h
    go_enter Try.func87, Try.ntmps87
    go_wp2_with fail
    go_ret
    exact ⟨rfl, 0, _, by rw [alloc_eq_grow, alloc_eq_grow, grow_grow]; rfl⟩
  · have e1 : ((b : Int) != (d : Int)) = true := by simpa using h
    have e2 : (b != d) = true := by have : b ≠ d := by omega
                                    simp [this]
    have m1 : IntKind.i64.wrap ((b : Int) - (d : Int)) = (b : Int) - (d : Int) := IntWalk.i64_in _ (by omega)
    rw [if_neg h]
    clear h
    go_enter Try.func87, Try.ntmps87
    go_wp2_with fail
    go_ret
    exact ⟨rfl, 0, _, by rw [alloc_eq_grow, alloc_eq_grow, grow_grow]; rfl⟩
theorem cmpLays87 (blk off size : Nat) (w : World) : CmpLays Try.prog 87 #[] encPn 2 cfPn blk off size w :=
  fun _ _ _ _ x y => cmp87_any x y _

/-! ### The row of places, in the sort's words -/
def pnOf (p : Pc) : Pn := (Fin.ofNat 65536 p.x.toNat, Fin.ofNat 65536 p.j.toNat)
def pcOf (a : Pn) : Pc := ⟨(a.1.val : Nat), (a.2.val : Nat)⟩
def smallP (p : Pc) : Prop := 0 ≤ p.x ∧ p.x < 65536 ∧ 0 ≤ p.j ∧ p.j < 65536
theorem pcOf_pnOf {p : Pc} (h : smallP p) : pcOf (pnOf p) = p := by
  obtain ⟨h1, h2, h3, h4⟩ := h
  cases p
  unfold pcOf pnOf
  simp only [Pc.mk.injEq, Fin.val_ofNat] at *
  omega
def pnArr (o : List Pc) : Array Pn := (o.map pnOf).toArray
theorem flat_get (d : Array Pn) (k : Nat) (h : k < d.size) : (flatK encPn 2 d)[k * 2]! = .int .i64 ((d[k]!).1.val : Int) ∧ (flatK encPn 2 d)[k * 2 + 1]! = .int .i64 ((d[k]!).2.val : Int) := by
  refine ⟨?_, ?_⟩
  · rw [get_flatK _ _ _ _ (by omega), show k * 2 / 2 = k from by omega, show k * 2 % 2 = 0 from by omega]; rfl
  · rw [get_flatK _ _ _ _ (by omega), show (k * 2 + 1) / 2 = k from by omega, show (k * 2 + 1) % 2 = 1 from by omega]; rfl
theorem flat_cells (d : Array Pn) (j : Nat) (h : j < d.size * 2) : (pcCells (d.toList.map pcOf))[j]? = some (flatK encPn 2 d)[j]! := by
  have hk : j / 2 < d.size := by omega
  have hg := pcCells_get (d.toList.map pcOf) (j / 2) (by simpa using hk)
  have hp : pc (d.toList.map pcOf) (j / 2) = pcOf (d[j / 2]!) := by
    simp [pc, List.getD_eq_getElem?_getD, hk, getElem!_pos]
  have hf := flat_get d (j / 2) hk
  rw [hp] at hg
  rcases Nat.mod_two_eq_zero_or_one j with e | e
  · have ej : j = j / 2 * 2 := by omega
    rw [ej, hf.1, hg.1]; rfl
  · have ej : j = j / 2 * 2 + 1 := by omega
    rw [ej, hf.2, hg.2]; rfl
theorem pnArr_back {o : List Pc} (h : ∀ p, p ∈ o → smallP p) : (pnArr o).toList.map pcOf = o := by
  unfold pnArr
  rw [List.map_map]
  conv => rhs; rw [← List.map_id o]
  exact List.map_congr_left fun p hp => pcOf_pnOf (h p hp)
theorem holds_pcs {w : World} {B n cap g : Nat} {o : List Pc} (h : w.ownsRow B 102 2 (.slice (some ⟨g, 0, none⟩) n cap) n (pcCells o)) (hs : ∀ p, p ∈ o → smallP p) : HoldsK encPn 2 w g 0 (pnArr o) := by
  intro j hj
  rw [size_flatK] at hj
  have hr := row_rd h
  have hc := flat_cells (pnArr o) j hj
  rw [pnArr_back hs] at hc
  refine ⟨?_, ?_⟩
  · obtain ⟨b, off, e, hcell⟩ := hr.at_ (by intro h0; rw [h0] at hc; simp at hc)
    injection e with e
    injection e with e1 e2 _
    subst e1; subst e2
    exact hcell j _ hc
  · rcases h.2 with ⟨e0, _⟩ | ⟨g', cap', cur, e0, hb, hg, _⟩
    · cases e0
    · injection e0 with e1 _ _
      injection e1 with e1
      injection e1 with e1
      subst e1
      simp [World.frozen?, hg]
theorem pcs_row {w : World} {B n cap g m : Nat} {o : List Pc} {d : Array Pn} {os : Array Obj} (h : w.ownsRow B 102 2 (.slice (some ⟨g, 0, none⟩) n cap) n (pcCells o)) (hd : d.size = n) :
    (sortWorldK encPn 2 w g 0 m d os).ownsRow B 102 2 (.slice (some ⟨g, 0, none⟩) n cap) n (pcCells (d.toList.map pcOf)) := by
  rcases h.2 with ⟨e0, _⟩ | ⟨g', cap', cur, e0, hb, hg, hn, hm, hs, ht⟩
  · cases e0
  · injection e0 with e1 _ e3
    injection e1 with e1
    injection e1 with e1
    subst e1; subst e3
    have hlt : g < w.heap.size := (Array.getElem?_eq_some_iff.1 hg).1
    refine ⟨by rw [pcCells_length]; simp [hd], .inr ⟨g, cap, putCells id 0 (flatK encPn 2 d) cur, rfl, hb, ?_, by omega, hm, by simpa [putCells] using hs, ?_⟩⟩
    · have hl2 : g < (w.heap.modify g (onCells (putCells id 0 (flatK encPn 2 d)))).size := by simpa using hlt
      have hg2 := (Array.getElem?_eq_some_iff.1 hg).2
      simp [sortWorldK, putRowK, grow, putRow, mapBlock, Sort.ahead, Array.getElem?_append, hlt, Array.getElem_modify, hg2, onCells]
    · apply List.ext_getElem?
      intro j
      rw [List.getElem?_take, Array.getElem?_toList]
      by_cases hj : j < n * 2
      · have hjc : j < cur.size := by omega
        rw [if_pos hj, flat_cells d j (by rw [hd]; exact hj)]
        simp only [putCells, Array.getElem?_mapIdx, Array.getElem?_eq_getElem hjc, Option.map_some]
        rw [if_pos (by rw [size_flatK, hd]; omega)]
        simp
      · rw [if_neg hj, List.getElem?_eq_none (by rw [pcCells_length]; simp [hd]; omega)]
theorem pcs_frame {w : World} {g m : Nat} {d : Array Pn} {os : Array Obj} : w.grownBy (sortWorldK encPn 2 w g 0 m d os) (some g) := by
  refine ⟨rfl, rfl, rfl, ?_, fun k hk hne => ?_⟩
  · simp [sortWorldK, putRowK, grow, putRow, mapBlock, Sort.ahead]
  · have hne' : g ≠ k := fun e => hne (by rw [e])
    simp [sortWorldK, putRowK, grow, putRow, mapBlock, Sort.ahead, Array.getElem?_append, hk, Array.getElem_modify, hne']

theorem srt_of {o : List Pc} {d : Array Pn} (hs : ∀ p, p ∈ o → smallP p) (hnd : o.Nodup) (hp : PermIn 0 (pnArr o).size (pnArr o) d) (ho : SortedIn (ltOf cfPn) 0 (pnArr o).size d) : Srt o (d.toList.map pcOf) := by
  obtain ⟨h1, _, h3⟩ := hp
  have hd : d.extract 0 (pnArr o).size = d := by rw [← h1]; simp
  have ha : (pnArr o).extract 0 (pnArr o).size = pnArr o := by simp
  rw [hd, ha] at h3
  have hperm : (d.toList.map pcOf).Perm o := by
    have := h3.map pcOf
    rwa [pnArr_back hs] at this
  have hlen : (d.toList.map pcOf).length = o.length := hperm.length_eq
  have hsz : d.size = o.length := by simpa using hlen
  have hnd2 : (d.toList.map pcOf).Nodup := hperm.nodup_iff.2 hnd
  refine ⟨hlen, fun p => hperm.mem_iff, fun a b p q hab ea eb => ?_⟩
  have hb : b < d.size := by
    have := (List.getElem?_eq_some_iff.1 eb).1
    simpa using this
  have ha' : a < d.size := by omega
  have h := ho a b (Nat.zero_le _) hab (by rw [← h1]; exact hb)
  rw [ltPn_no] at h
  have e1 : p = pcOf (d[a]!) := by
    rw [List.getElem?_map, Array.getElem?_toList, Array.getElem?_eq_getElem ha'] at ea
    simp only [Option.map_some, Option.some.injEq] at ea
    rw [getElem!_pos d a ha', ← ea]
  have e2 : q = pcOf (d[b]!) := by
    rw [List.getElem?_map, Array.getElem?_toList, Array.getElem?_eq_getElem hb] at eb
    simp only [Option.map_some, Option.some.injEq] at eb
    rw [getElem!_pos d b hb, ← eb]
  have hne : p ≠ q := by
    intro e
    obtain ⟨ha3, ea3⟩ := List.getElem?_eq_some_iff.1 ea
    obtain ⟨hb3, eb3⟩ := List.getElem?_eq_some_iff.1 eb
    have hx := (List.pairwise_iff_getElem.1 hnd2) a b ha3 hb3 hab
    rw [ea3, eb3, e] at hx
    exact hx rfl
  have hne2 : ¬ ((d[a]!).1.val = (d[b]!).1.val ∧ (d[a]!).2.val = (d[b]!).2.val) := by
    intro e
    apply hne
    rw [e1, e2]
    unfold pcOf
    rw [e.1, e.2]
  rw [e1, e2]
  unfold pcOf
  dsimp only
  omega

/-- What the sort leaves. -/
def SortPost (o : List Pc) (v : Value) (B : Nat) (w : World) (e : Ending) (w' : World) : Prop := ∃ S, e = .returned (.tuple #[]) ∧ Srt o S ∧ w'.ownsRow B 102 2 v S.length (pcCells S) ∧ w.grownBy w' v.ownBlock
theorem sort86_any (o : List Pc) (v : Value) (B : Nat) (w : World) (h : w.ownsRow B 102 2 v o.length (pcCells o)) (hs : ∀ p, p ∈ o → smallP p) (hnd : o.Nodup) (hl : o.length ≤ 20001) :
    Calls Try.prog 86 #[v, .func (.func 87) #[] #[]] w (SortPost o v B w) := by
  have h0 := h
  rcases h.2 with ⟨e0, hn⟩ | ⟨g, cap, cur, e0, hb, hg, hn, hm, hsz, ht⟩
  · subst e0
    have ho : o = [] := List.eq_nil_of_length_eq_zero hn
    subst ho
    have hcon := AnyF.slices_SortFunc_none sortPc none 0 (.func (.func 87) #[] #[]) w
    change Calls Try.prog 86 _ _ _ at hcon
    refine hcon.mono ?_
    rintro e w' ⟨rfl, rfl⟩
    exact ⟨[], rfl, ⟨rfl, fun p => Iff.rfl, fun a b p q _ ha _ => by simp at ha⟩, h0, ⟨rfl, rfl, rfl, Nat.le_refl _, fun _ _ _ => rfl⟩⟩
  · subst e0
    have hlt : g < w.heap.size := (Array.getElem?_eq_some_iff.1 hg).1
    have eg : ∀ args w, (callFunc 87 args).run Try.prog w = .ok (.enter 87 args) w := enters_of Try.func87 (by kernel_rfl) rfl
    have hz : (pnArr o).size = o.length := by simp [pnArr]
    have hcon := AnyQ.slices_SortFunc sortPc 2 Try.isAgg102 Try.sizeOf102 encPn (fun _ => rfl) (fun x v hv => by simp [encPn] at hv; rcases hv with rfl | rfl <;> rfl) cfPn swoPn 87 #[] g 0 cap (pnArr o) w eg (cmpLays87 g 0 (pnArr o).size w) (holds_pcs h0 hs) hlt (by rw [hz]; omega)
    rw [hz] at hcon
    change Calls Try.prog 86 _ _ _ at hcon
    refine hcon.mono ?_
    rintro e w' ⟨rfl, d, m, os, hp, hso, rfl⟩
    have hp' : PermIn 0 (pnArr o).size (pnArr o) d := by rw [hz]; exact hp
    have hso' : SortedIn (ltOf cfPn) 0 (pnArr o).size d := by rw [hz]; exact hso
    have hS := srt_of hs hnd hp' hso'
    have hd : d.size = o.length := by rw [hp'.1, hz]
    refine ⟨d.toList.map pcOf, rfl, hS, ?_, pcs_frame⟩
    rw [hS.len]
    exact pcs_row h0 hd
end Go.Proofs.Ytinpmdekdfgiiaa

/- Layers: the number of a place; small words for its loops. -/
set_option linter.unusedVariables false
set_option linter.unusedSimpArgs false
namespace Go.Proofs.Ytinpmdekdfgiiaa
open Go.RowKit Go.Maps

set_option maxRecDepth 100000 in
set_option maxHeartbeats 1000000 in
theorem find88_any (S : List Pc) (x j : Int) (g5 gM m : Nat) (D : DataW Unit) (w : World) (h5 : w.cell? ⟨g5, 0, none⟩ = some (.map (some gM))) (hown : w.ownsMap Try.prog 102 (plainElem Try.prog 3) gM m D) (hD : PMapIs D S S S.length)
    (hx : x < 0 ∨ (⟨x, j⟩ ∈ S ∧ pcIn ⟨x, j⟩)) : Calls Try.prog 88 #[.int .i64 x, .int .i64 j, .pointer (some ⟨g5, 0, none⟩)] w fun e w' => e = .returned (.int .i64 (fnd S x j)) ∧ w = w' := by
  unfold fnd
  by_cases h0 : x < 0
  · have d0 : decide (x < 0) = true := decide_eq_true h0
    rw [if_pos h0]
    clear hown hD hx h0
    go_enter Try.func88, Try.ntmps88
    go_wp2_with fail
    go_ret
    exact ⟨rfl, rfl⟩
  · have d0 : decide (x < 0) = false := decide_eq_false h0
    rw [if_neg h0]
    obtain ⟨h1, h2⟩ := hx.resolve_left h0
    have h3 := (hD _ h2).2 h1 (px_mem h1).1
    have z5 : g5 < w.heap.size := kept_lt h5
    clear hx h0 hD h1
    go_enter Try.func88, Try.ntmps88
    go_wp2_with (at_lookup; go_loud (refine wpList_lookup_own_int _ rfl _ _ 98 rfl 102 3 .i64 placeLaw under98 Try.underlying3 (pzero3 _) gM m D rfl hown _ (pcLit ⟨x, j⟩) rfl (pc_key h2) ?_; intro c0 hat hwc; obtain rfl : c0 = ((px S ⟨x, j⟩ : Nat) : Int) := by (rw [h3] at hat; injection hat with h; injection h with _ h2; exact h2.symm)))
    go_ret
    exact ⟨rfl, rfl⟩

theorem gb_kept {a b c : World} {r : Option Nat} (h : a.grownBy b r) (k : Kept b c) : a.grownBy c r :=
  ⟨by rw [k.os, h.os], by rw [k.tape, h.tape], by rw [k.output, h.output], Nat.le_trans h.size k.size, fun i hi hn => (k.block i (Nat.lt_of_lt_of_le hi h.size)).trans (h.block i hi hn)⟩
theorem gb_set {a b : World} {g : Nat} (h : a.grownBy b (some g)) (j : Nat) (v : Value) : a.grownBy (b.setCell ⟨g, j, none⟩ v) (some g) :=
  ⟨h.os, h.tape, h.output, by simpa using h.size, fun i hi hn => (Below.heap_setCell b ⟨g, j, none⟩ v i (fun e => hn (by dsimp only at e; rw [e]))).trans (h.block i hi hn)⟩
theorem gb_row {a b c : World} {g : Nat} {v : Value} (h : a.grownBy b (some g)) (k : b.grownBy c v.ownBlock) (hv : ∀ x, v.ownBlock = some x → a.heap.size ≤ x) : a.grownBy c (some g) :=
  ⟨by rw [k.os, h.os], by rw [k.tape, h.tape], by rw [k.output, h.output], Nat.le_trans h.size k.size, fun i hi hn => (k.block i (Nat.lt_of_lt_of_le hi h.size) (fun e => by have := hv i e.symm; omega)).trans (h.block i hi hn)⟩
theorem gb_refl (a : World) (r : Option Nat) : a.grownBy a r := ⟨rfl, rfl, rfl, Nat.le_refl _, fun _ _ _ => rfl⟩

theorem LaEnv.sort {w W w' : World} {k1 g : Nat} {n s : Int} {A : Option Addr} {c : Nat} {l : List Nd} {o S : List Pc} {v : Value} (h : LaEnv w W k1 g n s A c l o [] 0 o.length v) (h1 : w.heap.size + 1 < k1) (h2 : g < k1)
    (hS : Srt o S) (hr : w'.ownsRow (k1 + 5) 102 2 v S.length (pcCells S)) (hg : W.grownBy w' v.ownBlock) : LaEnv w w' k1 g n s A c l S S 0 S.length v := by
  have hv : ∀ b, v.ownBlock = some b → k1 + 5 ≤ b := fun b hb => (h.row.lt b hb).1
  have M : ∀ b, b < k1 + 5 → some b ≠ v.ownBlock := fun b hb e => by have := hv b e.symm; omega
  obtain ⟨D, hD1, hD2⟩ := h.mp
  refine ⟨h.o0.grown hg (M _ (by omega)), h.o1.grown hg (M _ (by omega)), h.oL.grown hg (M _ (by omega)), h.o4.grown hg (M _ (by omega)), h.o5.grown hg (M _ (by omega)), h.o6.grown hg (M _ (by omega)), h.o7.grown hg (M _ (by omega)), ⟨D, ?_, ?_⟩, hr, ?_⟩
  · rw [hS.len]; exact hD1.kept hg (M _ (by omega))
  · intro p hp
    have := hD2 p hp
    refine ⟨by rw [this.1]; exact decide_eq_decide.2 (hS.mem p).symm, fun _ h0 => by omega⟩
  · exact h.K.grown hg h.K.size (fun b hb => by have := hv b hb; omega)
/-- A place gets its number. -/
theorem LaEnv.number {w W w' : World} {k1 g : Nat} {n s : Int} {A : Option Addr} {c : Nat} {l : List Nd} {S : List Pc} {i m : Nat} {v : Value} (h : LaEnv w W k1 g n s A c l S S i m v) (h1 : w.heap.size + 1 < k1) (h2 : g < k1)
    (hm : ∃ D : DataW Unit, w'.ownsMap Try.prog 102 (plainElem Try.prog 3) (k1 + 1) (m + 1) D ∧ PMapIs D S S (i + 1)) (hg : W.grownBy w' (some (k1 + 1))) : LaEnv w w' k1 g n s A c l S S (i + 1) (m + 1) v := by
  have N : ∀ b, b ≠ k1 + 1 → some b ≠ some (k1 + 1) := fun b hb e => by injection e with e; exact hb e
  have hv : ∀ b, v.ownBlock = some b → k1 + 5 ≤ b := fun b hb => (h.row.lt b hb).1
  refine ⟨h.o0.grown hg (N _ (by omega)), h.o1.grown hg (N _ (by omega)), h.oL.grown hg (N _ (by omega)), h.o4.grown hg (N _ (by omega)), h.o5.grown hg (N _ (by omega)), h.o6.grown hg (N _ (by omega)), h.o7.grown hg (N _ (by omega)), hm, h.row.kept hg (.inr (by intro e; have := hv _ e; omega)), ?_⟩
  exact h.K.grown hg h.K.size (fun b hb => by cases hb; omega)
/-- A block that is none of these changes. -/
theorem LaEnv.gb {w W w' : World} {k1 g : Nat} {n s : Int} {A : Option Addr} {c : Nat} {l : List Nd} {S : List Pc} {i m : Nat} {v : Value} {b : Nat} (h : LaEnv w W k1 g n s A c l S S i m v) (h1 : w.heap.size + 1 < k1) (h2 : g < k1) (hg : W.grownBy w' (some b)) (hb : k1 + 5 ≤ b) (hv : v.ownBlock ≠ some b) : LaEnv w w' k1 g n s A c l S S i m v := by
  have N : ∀ x, x < k1 + 5 → some x ≠ some b := fun x hx e => by injection e with e; omega
  refine ⟨h.o0.grown hg (N _ (by omega)), h.o1.grown hg (N _ (by omega)), h.oL.grown hg (N _ (by omega)), h.o4.grown hg (N _ (by omega)), h.o5.grown hg (N _ (by omega)), h.o6.grown hg (N _ (by omega)), h.o7.grown hg (N _ (by omega)), ?_, h.row.kept hg (.inr hv), ?_⟩
  · obtain ⟨D, hD1, hD2⟩ := h.mp
    exact ⟨D, hD1.kept hg (N _ (by omega)), hD2⟩
  · exact h.K.grown hg h.K.size (fun x hx => by cases hx; omega)

theorem pcs_at {w : World} {A : Option Addr} {l : List Pc} (h : Rd w A (pcCells l)) {k : Nat} (hk : k < l.length) :
    ∃ b off, A = some ⟨b, off, none⟩ ∧ ∀ j, j < l.length → w.cell? ⟨b, off + j * 2, none⟩ = some (.int .i64 (pc l j).x) ∧ w.cell? ⟨b, off + j * 2 + 1, none⟩ = some (.int .i64 (pc l j).j) := by
  obtain ⟨b, off, e, hc⟩ := Rd.at_ h (ne_nil_of_lt (k := k) (by rw [pcCells_length]; omega))
  refine ⟨b, off, e, fun j hj => ?_⟩
  obtain ⟨h0, h1⟩ := pcCells_get l j hj
  exact ⟨hc _ _ h0, hc _ _ h1⟩
end Go.Proofs.Ytinpmdekdfgiiaa
