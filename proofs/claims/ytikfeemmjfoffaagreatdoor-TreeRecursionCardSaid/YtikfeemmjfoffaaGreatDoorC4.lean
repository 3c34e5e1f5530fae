/- Polynomials: what a table of terms reads as. -/
import Derived.Test.YtikfeemmjfoffaaGreatDoorC3
import Derived.Maps.OwnSet
import Derived.Maps.RangeWalk
import Derived.Sort.KeysCollected
import Derived.Lib.SlMapFilter
set_option linter.unusedVariables false
set_option linter.unusedSimpArgs false
namespace Go.Proofs.YtikfeemmjfoffaaGreatDoor
open Go.RowKit Go.Maps

/-- A term of a table: with the place of its exponents. -/
structure Te where
  t : Tm
  E : Option Addr
  cap : Nat
def valTe (x : Te) : Value := .agg #[.int .i64 x.t.c, .slice x.E x.t.e.length x.cap]
def keyL (e : List Int) : Lit := .string (keyB e)
def entTe (x : Te) : Lit × DataW Value := (keyL x.t.e, .held (valTe x))
theorem keyL_key (e : List Int) : WideAt.IsKeyLit (keyL e) := trivial
/-- How a term in a map reads. -/
def termR : Value → Option (DataW Value × List MemPlace)
  | .agg l => match l.toList with
    | [.int .i64 c, .slice E n cap] => some (.held (.agg #[.int .i64 c, .slice E n cap]), [])
    | _ => none
  | _ => none
theorem termR_te (x : Te) : termR (valTe x) = some (.held (valTe x), []) := rfl
theorem termR_mk (c : Int) (E : Option Addr) (n cap : Nat) : termR (.agg #[.int .i64 c, .slice E n cap]) = some (.held (.agg #[.int .i64 c, .slice E n cap]), []) := rfl
theorem termR_inv {v : Value} {z : DataW Value × List MemPlace} (h : termR v = some z) : ∃ c E n cap, v = .agg #[.int .i64 c, .slice E n cap] ∧ z = (.held v, []) := by
  unfold termR at h
  split at h
  · rename_i l
    split at h
    · rename_i c E n cap hl
      obtain rfl : l = #[.int .i64 c, .slice E n cap] := by
        apply Array.toList_inj.1; rw [hl]
      cases h
      exact ⟨c, E, n, cap, rfl, rfl⟩
    · cases h
  · cases h

def GoodE (n : Nat) (e : List Int) : Prop := e.length = n ∧ ∀ x ∈ e, 0 ≤ x ∧ x ≤ 65535
theorem keyL_inj {n : Nat} {a b : List Int} (ha : GoodE n a) (hb : GoodE n b) (h : keyL a = keyL b) : a = b := by
  unfold keyL at h
  injection h with h
  exact keyB_inj ha.2 hb.2 h
/-- The datum D reads as the terms M, in some order. -/
def Tab (D : DataW Value) (M : List Te) : Prop := ∃ es, D = .map es ∧ es.Perm (M.map entTe)
structure TabOk (n : Nat) (M : List Te) : Prop where
  apart : Apart (M.map Te.t)
  good : ∀ x ∈ M, GoodE n x.t.e
theorem TabOk.keys {n : Nat} {M : List Te} (h : TabOk n M) : (M.map entTe).Pairwise fun p q => p.1 ≠ q.1 := by
  have h1 := h.apart
  unfold Apart at h1
  rw [List.pairwise_map] at h1 ⊢
  exact h1.imp_of_mem fun {a b} ha hb hab e => hab (keyL_inj (h.good a ha) (h.good b hb) e)
theorem tab_new : Tab (.map []) [] := ⟨[], rfl, .nil⟩
theorem tab_has {n : Nat} {D : DataW Value} {M : List Te} (h : Tab D M) (ok : TabOk n M) {e : List Int} (he : GoodE n e) : has D (keyL e) = true ↔ ∃ x ∈ M, x.t.e = e := by
  obtain ⟨es, rfl, hp⟩ := h
  rw [has_eq, List.any_eq_true]
  constructor
  · rintro ⟨p, hpm, hk⟩
    obtain ⟨x, hx, rfl⟩ := List.mem_map.1 (hp.mem_iff.1 hpm)
    exact ⟨x, hx, keyL_inj (ok.good x hx) he ((WideAt.sameKey_iff (keyL_key e)).1 hk)⟩
  · rintro ⟨x, hx, rfl⟩
    exact ⟨entTe x, hp.mem_iff.2 (List.mem_map.2 ⟨x, hx, rfl⟩), WideAt.sameKey_self (keyL_key _)⟩
theorem tab_at {n : Nat} {D : DataW Value} {M : List Te} (h : Tab D M) (ok : TabOk n M) {x : Te} (hx : x ∈ M) (z : DataW Value) : D.atKey (keyL x.t.e) z = .held (valTe x) := by
  obtain ⟨es, rfl, hp⟩ := h
  have hm : entTe x ∈ es := hp.mem_iff.2 (List.mem_map.2 ⟨x, hx, rfl⟩)
  exact WideAt.atKey_mem z (keyL_key _) (hp.symm.pairwise ok.keys (fun h => h.symm)) hm
theorem tab_size {D : DataW Value} {M : List Te} (h : Tab D M) : Maps.size D = M.length := by
  obtain ⟨es, rfl, hp⟩ := h
  rw [size_eq, hp.length_eq, List.length_map]
/-- A term is put in the place of the one with its exponents. -/
def putTe (x : Te) (M : List Te) : List Te := x :: M.filter fun y => decide (y.t.e ≠ x.t.e)
theorem tab_put {n : Nat} {D : DataW Value} {M : List Te} (h : Tab D M) (ok : TabOk n M) (x : Te) (hx : GoodE n x.t.e) : Tab (D.put (keyL x.t.e) (.held (valTe x))) (putTe x M) := by
  obtain ⟨es, rfl, hp⟩ := h
  refine ⟨_, rfl, ?_⟩
  refine (Go.WideShapes.insert_perm _ _).trans ?_
  unfold putTe
  rw [List.map_cons]
  refine List.Perm.cons _ ?_
  have h1 := hp.filter (fun p => !p.1.sameKey (keyL x.t.e))
  rw [List.filter_map] at h1
  refine h1.trans (List.Perm.of_eq ?_)
  congr 1
  refine List.filter_congr fun y hy => ?_
  show (!(keyL y.t.e).sameKey (keyL x.t.e)) = decide (y.t.e ≠ x.t.e)
  by_cases e : y.t.e = x.t.e
  · rw [e, WideAt.sameKey_self (keyL_key _)]; simp
  · rw [sameKey_ne (fun h => e (keyL_inj (ok.good y hy) hx h))]; simp [e]
theorem tabOk_put {n : Nat} {M : List Te} (ok : TabOk n M) (x : Te) (hx : GoodE n x.t.e) : TabOk n (putTe x M) := by
  refine ⟨?_, fun y hy => ?_⟩
  · unfold putTe Apart
    rw [List.map_cons, List.pairwise_cons]
    refine ⟨fun t ht => ?_, ?_⟩
    · obtain ⟨y, hy, rfl⟩ := List.mem_map.1 ht
      have := (List.mem_filter.1 hy).2
      simp only [ne_eq, decide_not, Bool.not_eq_true', decide_eq_false_iff_not] at this
      exact fun e => this e.symm
    · have h1 := ok.apart
      unfold Apart at h1
      rw [List.pairwise_map] at h1 ⊢
      exact h1.filter _
  · rcases List.mem_cons.1 hy with rfl | hy
    · exact hx
    · exact ok.good y (List.mem_filter.1 hy).1
section
variable {add : Int → Int → Int}
theorem mput_perm : ∀ {T : List Tm} {t : Tm}, Apart T → (mput add T t).Perm (⟨add (cf T t.e) t.c, t.e⟩ :: T.filter fun u => decide (u.e ≠ t.e))
  | [], t, _ => .refl _
  | u :: T, t, h => by
    have h1 := List.pairwise_cons.1 h
    rw [mput, cf]
    by_cases e : u.e = t.e
    · rw [if_pos e, if_pos e, e, List.filter_cons_of_neg (by simp [e])]
      refine List.Perm.cons _ (List.Perm.of_eq ?_)
      rw [List.filter_eq_self.2]
      intro v hv
      have := h1.1 v hv
      rw [e] at this
      simpa using fun h => this h.symm
    · rw [if_neg e, if_neg e, List.filter_cons_of_pos (by simpa using e)]
      exact ((mput_perm h1.2).cons u).trans (.swap _ _ _)
theorem cf_perm {T T' : List Tm} (h : T.Perm T') (hA : Apart T) (e : List Int) : cf T e = cf T' e := by
  have aux : ∀ {T : List Tm} {u : Tm}, Apart T → u ∈ T → cf T u.e = u.c := by
    intro T
    induction T with
    | nil => intro u _ hu; cases hu
    | cons v T ih =>
      intro u hA hu
      have h1 := List.pairwise_cons.1 hA
      rw [cf]
      rcases List.mem_cons.1 hu with rfl | hu
      · rw [if_pos rfl]
      · rw [if_neg (h1.1 u hu), ih h1.2 hu]
  have aux0 : ∀ {T : List Tm} {e : List Int}, (∀ u ∈ T, u.e ≠ e) → cf T e = 0 := by
    intro T
    induction T with
    | nil => intro e _; rfl
    | cons v T ih => intro e h; rw [cf, if_neg (h v (by simp)), ih (fun u hu => h u (by simp [hu]))]
  have hA' : Apart T' := h.pairwise hA (fun h => h.symm)
  by_cases hx : ∃ u ∈ T, u.e = e
  · obtain ⟨u, hu, rfl⟩ := hx
    rw [aux hA hu, aux hA' (h.mem_iff.1 hu)]
  · rw [aux0 (fun u hu he => hx ⟨u, hu, he⟩), aux0 (fun u hu he => hx ⟨u, h.mem_iff.2 hu, he⟩)]
/-- Upon the table M the term ⟨c, e⟩ is put, with the sum as its coefficient. -/
theorem put_same {n : Nat} {M : List Te} {T : List Tm} (ok : TabOk n M) (hp : (M.map Te.t).Perm T) (x : Te) (c : Int) (hc : x.t.c = add (cf (M.map Te.t) x.t.e) c) : ((putTe x M).map Te.t).Perm (mput add T ⟨c, x.t.e⟩) := by
  have hA : Apart T := hp.pairwise ok.apart (fun h => h.symm)
  refine List.Perm.trans ?_ (mput_perm hA).symm
  unfold putTe
  rw [List.map_cons, ← cf_perm hp ok.apart]
  dsimp only
  rw [← hc]
  refine List.Perm.cons _ ?_
  have h1 := hp.filter (fun u => decide (u.e ≠ x.t.e))
  rw [List.filter_map] at h1
  exact h1
end
theorem cf_mem {M : List Te} (hA : Apart (M.map Te.t)) {x : Te} (hx : x ∈ M) : cf (M.map Te.t) x.t.e = x.t.c := by
  have aux : ∀ {T : List Tm} {u : Tm}, Apart T → u ∈ T → cf T u.e = u.c := by
    intro T
    induction T with
    | nil => intro u _ hu; cases hu
    | cons v T ih =>
      intro u hA hu
      have h1 := List.pairwise_cons.1 hA
      rw [cf]
      rcases List.mem_cons.1 hu with rfl | hu
      · rw [if_pos rfl]
      · rw [if_neg (h1.1 u hu), ih h1.2 hu]
  exact aux hA (List.mem_map.2 ⟨x, hx, rfl⟩)
theorem cf_none {M : List Te} {e : List Int} (h : ∀ x ∈ M, x.t.e ≠ e) : cf (M.map Te.t) e = 0 := by
  induction M with
  | nil => rfl
  | cons v M ih => rw [List.map_cons, cf, if_neg (h v (by simp)), ih (fun u hu => h u (by simp [hu]))]
/-- Without the terms with coefficient 0. -/
def pdTe (_ : Lit) (d : DataW Value) : Bool := match d with
  | .held (.agg l) => match l.toList with
    | [.int .i64 c, .slice _ _ _] => c == 0
    | _ => false
  | _ => false
theorem tab_del {D : DataW Value} {M : List Te} (h : Tab D M) : Tab (Lib.deleteFuncD pdTe D) (M.filter fun x => decide (x.t.c ≠ 0)) := by
  obtain ⟨es, rfl, hp⟩ := h
  refine ⟨_, rfl, ?_⟩
  have h1 := hp.filter (fun p => !pdTe p.1 p.2)
  rw [List.filter_map] at h1
  refine h1.trans (List.Perm.of_eq ?_)
  congr 1
  refine List.filter_congr fun y _ => ?_
  show (!(y.t.c == 0)) = decide (y.t.c ≠ 0)
  by_cases e : y.t.c = 0 <;> simp [e]
theorem tabOk_filter {n : Nat} {M : List Te} (ok : TabOk n M) (p : Te → Bool) : TabOk n (M.filter p) := by
  refine ⟨?_, fun x hx => ok.good x (List.mem_filter.1 hx).1⟩
  have h1 := ok.apart
  unfold Apart at h1 ⊢
  rw [List.pairwise_map] at h1 ⊢
  exact h1.filter _
theorem perm_map_back {α β : Type} {f : α → β} {l l' : List β} (h : l.Perm l') : ∀ {M : List α}, l' = M.map f → ∃ M' : List α, M'.Perm M ∧ l = M'.map f := by
  induction h with
  | nil => intro M hM; exact ⟨[], by rw [List.map_eq_nil_iff.1 hM.symm], rfl⟩
  | cons x h ih =>
    intro M hM
    obtain ⟨a, r, rfl, ha, hr⟩ := List.map_eq_cons_iff.1 hM.symm
    obtain ⟨M', hp, e⟩ := ih hr.symm
    exact ⟨a :: M', hp.cons a, by rw [List.map_cons, ha, e]⟩
  | swap x y l =>
    intro M hM
    obtain ⟨a, r, rfl, ha, hr⟩ := List.map_eq_cons_iff.1 hM.symm
    obtain ⟨b, r2, rfl, hb, hr2⟩ := List.map_eq_cons_iff.1 hr
    exact ⟨b :: a :: r2, .swap _ _ _, by rw [List.map_cons, List.map_cons, ha, hb, hr2]⟩
  | trans h1 h2 ih1 ih2 =>
    intro M hM
    obtain ⟨M1, p1, e1⟩ := ih2 hM
    obtain ⟨M2, p2, e2⟩ := ih1 e1
    exact ⟨M2, p2.trans p1, e2⟩
/-- What a range over the map has brought: the terms, in some order. -/
theorem tab_all {n : Nat} {D : DataW Value} {M : List Te} (h : Tab D M) (ok : TabOk n M) {ps : List (List UInt8 × Value)} (hk : (ps.map (·.1)).Perm (strKeys D)) (hv : ∀ p ∈ ps, ∀ z, D.atKey (.string p.1) z = .held p.2) :
    ∃ M' : List Te, M'.Perm M ∧ ps.map (·.2) = M'.map valTe := by
  obtain ⟨es, rfl, hp⟩ := h
  have hpair : es.Pairwise (fun p q => p.1 ≠ q.1) := hp.symm.pairwise ok.keys (fun h => h.symm)
  have hkey : ∀ q ∈ es, ∃ e, q.1 = keyL e := fun q hq => by
    obtain ⟨x, _, rfl⟩ := List.mem_map.1 (hp.mem_iff.1 hq)
    exact ⟨_, rfl⟩
  have hs : strKeys (DataW.map es) = es.map fun p => strOf p.1 := rfl
  rw [hs] at hk
  have hnd : (es.map fun p => strOf p.1).Nodup := by
    refine List.pairwise_map.2 (hpair.imp_of_mem fun {p q} hp' hq' hne e => hne ?_)
    obtain ⟨a, ha⟩ := hkey p hp'
    obtain ⟨b, hb⟩ := hkey q hq'
    rw [ha, hb] at e ⊢
    exact congrArg Lit.string e
  have hnd2 : (ps.map (·.1)).Nodup := hk.nodup_iff.2 hnd
  have hval : ∀ p ∈ ps, ∀ q ∈ es, q.1 = .string p.1 → q.2 = .held p.2 := fun p hpp q hq e => by
    have h1 := WideAt.atKey_mem (DataW.nil) (k := q.1) (d := q.2) (by rw [e]; trivial) hpair hq
    rw [e, hv p hpp] at h1
    exact h1.symm
  have hperm : (ps.map fun p => ((Lit.string p.1, DataW.held p.2) : Lit × DataW Value)).Perm es := by
    refine (List.perm_ext_iff_of_nodup ?_ ?_).2 fun q => ?_
    · have h2 := List.pairwise_map.1 hnd2
      exact List.pairwise_map.2 (h2.imp fun {a b} hne e => hne (by injection e with e _; injection e))
    · exact hpair.imp fun {a b} hne e => hne (by rw [e])
    · constructor
      · intro hq
        obtain ⟨p, hpp, rfl⟩ := List.mem_map.1 hq
        have h3 : p.1 ∈ es.map fun p => strOf p.1 := hk.mem_iff.1 (List.mem_map.2 ⟨p, hpp, rfl⟩)
        obtain ⟨r, hr, er⟩ := List.mem_map.1 h3
        obtain ⟨e, he⟩ := hkey r hr
        have e1 : r.1 = .string p.1 := by rw [he] at er ⊢; exact congrArg Lit.string er
        have e2 := hval p hpp r hr e1
        rw [show ((Lit.string p.1, DataW.held p.2) : Lit × DataW Value) = r from by rw [← e1, ← e2]]
        exact hr
      · intro hq
        have h3 : strOf q.1 ∈ ps.map (·.1) := hk.mem_iff.2 (List.mem_map.2 ⟨q, hq, rfl⟩)
        obtain ⟨p, hpp, ep⟩ := List.mem_map.1 h3
        obtain ⟨e, he⟩ := hkey q hq
        have e1 : q.1 = .string p.1 := by rw [he] at ep ⊢; exact congrArg Lit.string ep.symm
        have e2 := hval p hpp q hq e1
        exact List.mem_map.2 ⟨p, hpp, by rw [← e1, ← e2]⟩
  have h4 := (hperm.trans hp).map (·.2)
  rw [List.map_map, List.map_map] at h4
  have h5 : (ps.map (·.2)).map (DataW.held (H := Value)) = (ps.map (fun p => ((Lit.string p.1, DataW.held p.2) : Lit × DataW Value))).map (·.2) := by rw [List.map_map, List.map_map]; rfl
  obtain ⟨M', hm, e⟩ := perm_map_back (f := fun x => DataW.held (valTe x)) (l := (ps.map (·.2)).map (DataW.held (H := Value))) (by rw [h5, List.map_map]; exact h4) (M := M) rfl
  refine ⟨M', hm, ?_⟩
  have e' : (ps.map (·.2)).map (DataW.held (H := Value)) = (M'.map valTe).map DataW.held := by rw [e, List.map_map]; rfl
  exact List.map_inj_right (fun a b h => by injection h) |>.1 e'
end Go.Proofs.YtikfeemmjfoffaaGreatDoor
