/- Plain law of Slim, second part: a program without the nodes that are not reached has the same values. -/
import Derived.Test.YtinpmdekdfgiiaaD2
set_option linter.unusedVariables false
set_option linter.unusedSimpArgs false
namespace Go.Proofs.Ytinpmdekdfgiiaa

def hitB (s : Int) (l : List Nd) (k : Nat) : Bool := decide (0 ≤ ia (lv s l) k)
theorem hitB_iff {s : Int} {l : List Nd} {k : Nat} : hitB s l k = true ↔ hit s l k := by unfold hitB hit; simp
/-- The reached ones among the first k nodes. -/
def keptL (s : Int) (l : List Nd) (k : Nat) : List Nat := (List.range k).filter (hitB s l)
def rk (s : Int) (l : List Nd) (k : Nat) : Int := (keptL s l k).length
def at2 (s : Int) (l : List Nd) : List Int := (List.range l.length).map (rk s l)
def rnode (s : Int) (l : List Nd) (k : Nat) : Nd := ⟨nv l k, pl (at2 s l) (nz l k), pl (at2 s l) (no l k)⟩
def rnodes (s : Int) (l : List Nd) : List Nd := (keptL s l l.length).map (rnode s l)
def rstart (s : Int) (l : List Nd) : Int := pl (at2 s l) s

theorem kept_succ (s : Int) (l : List Nd) (k : Nat) : keptL s l (k + 1) = if hitB s l k = true then keptL s l k ++ [k] else keptL s l k := by
  unfold keptL
  rw [List.range_succ, List.filter_append]
  by_cases h : hitB s l k = true
  · simp [h]
  · simp [h]
theorem kept_le (s : Int) (l : List Nd) (k : Nat) : (keptL s l k).length ≤ k := by
  induction k with
  | zero => simp [keptL]
  | succ k ih =>
    rw [kept_succ]
    split
    · rw [List.length_append]; simp only [List.length_cons, List.length_nil]; omega
    · omega
theorem rk_succ (s : Int) (l : List Nd) (k : Nat) : rk s l (k + 1) = rk s l k + if hitB s l k = true then 1 else 0 := by
  unfold rk
  rw [kept_succ]
  split <;> simp
theorem rk_mono (s : Int) (l : List Nd) {k m : Nat} (h : k ≤ m) : rk s l k ≤ rk s l m := by
  induction m with
  | zero => obtain rfl : k = 0 := by omega
            exact Int.le_refl _
  | succ m ih =>
    by_cases e : k = m + 1
    · subst e; exact Int.le_refl _
    · have := ih (by omega)
      rw [rk_succ]
      split <;> omega
theorem rk_lt {s : Int} {l : List Nd} {k m : Nat} (hk : hit s l k) (h : k < m) : rk s l k < rk s l m := by
  have h1 := rk_mono s l (k := k + 1) (m := m) (by omega)
  rw [rk_succ, if_pos (hitB_iff.2 hk)] at h1
  omega
theorem rk_nonneg (s : Int) (l : List Nd) (k : Nat) : 0 ≤ rk s l k := by unfold rk; omega
theorem kept_at {s : Int} {l : List Nd} {k : Nat} (hk : hit s l k) : ∀ m, k < m → (keptL s l m)[(rk s l k).toNat]? = some k := by
  intro m
  induction m with
  | zero => intro h; omega
  | succ m ih =>
    intro h
    rw [kept_succ]
    by_cases e : k = m
    · subst e
      rw [if_pos (hitB_iff.2 hk)]
      unfold rk
      simp
    · have := ih (by omega)
      have hl := (List.getElem?_eq_some_iff.1 this).1
      split
      · rw [List.getElem?_append, if_pos hl]; exact this
      · exact this
theorem kept_of {s : Int} {l : List Nd} : ∀ (m p : Nat) (k : Nat), (keptL s l m)[p]? = some k → k < m ∧ hit s l k ∧ rk s l k = p := by
  intro m
  induction m with
  | zero => intro p k h; simp [keptL] at h
  | succ m ih =>
    intro p k h
    rw [kept_succ] at h
    split at h
    · rename_i hm
      rw [List.getElem?_append] at h
      split at h
      · obtain ⟨a, b, c⟩ := ih p k h
        exact ⟨by omega, b, c⟩
      · rename_i hp
        have hp2 : p - (keptL s l m).length = 0 := by
          rcases Nat.eq_zero_or_pos (p - (keptL s l m).length) with e | e
          · exact e
          · rw [List.getElem?_eq_none (by simp only [List.length_cons, List.length_nil]; omega)] at h; cases h
        rw [hp2] at h
        simp at h
        subst h
        exact ⟨by omega, hitB_iff.1 hm, by unfold rk; omega⟩
    · obtain ⟨a, b, c⟩ := ih p k h
      exact ⟨by omega, b, c⟩
@[simp] theorem at2_length (s : Int) (l : List Nd) : (at2 s l).length = l.length := by simp [at2]
theorem at2_at {s : Int} {l : List Nd} {k : Nat} (h : k < l.length) : ia (at2 s l) k = rk s l k := by simp [ia, at2, List.getD_eq_getElem?_getD, h]
theorem rnodes_nd {s : Int} {l : List Nd} {k : Nat} (hk : k < l.length) (hh : hit s l k) : nd (rnodes s l) (rk s l k).toNat = rnode s l k := by
  simp [nd, rnodes, List.getD_eq_getElem?_getD, kept_at hh _ hk]
theorem rnodes_src {s : Int} {l : List Nd} {p : Nat} (hp : p < (rnodes s l).length) : ∃ k, k < l.length ∧ hit s l k ∧ rk s l k = p := by
  have hp' : p < (keptL s l l.length).length := by simpa [rnodes] using hp
  obtain ⟨k, hk⟩ : ∃ k, (keptL s l l.length)[p]? = some k := ⟨_, List.getElem?_eq_getElem hp'⟩
  exact ⟨k, kept_of _ _ _ hk⟩
theorem rnodes_len (s : Int) (l : List Nd) : ((rnodes s l).length : Int) = rk s l l.length := by simp [rnodes, rk]

theorem plr_neg {s : Int} {l : List Nd} {c : Int} (h : c < 0) : pl (at2 s l) c = c := if_pos h
theorem plr_pos {s : Int} {l : List Nd} {c : Int} (h : 0 ≤ c) (hc : c < l.length) : pl (at2 s l) c = rk s l c.toNat := by
  unfold pl
  rw [if_neg (by omega), at2_at (by omega)]

/-- A reference that leads to an end or to a reached node. -/
def leads (s : Int) (l : List Nd) (c : Int) : Prop := c = -1 ∨ c = -2 ∨ (0 ≤ c ∧ c < l.length ∧ hit s l c.toNat)
theorem plr_inj {s : Int} {l : List Nd} {c d : Int} (hc : leads s l c) (hd : leads s l d) (h : pl (at2 s l) c = pl (at2 s l) d) : c = d := by
  have pos : ∀ e, leads s l e → e < 0 ∧ pl (at2 s l) e = e ∨ 0 ≤ e ∧ e < l.length ∧ hit s l e.toNat ∧ pl (at2 s l) e = rk s l e.toNat := by
    intro e he
    rcases he with rfl | rfl | ⟨a, b, c⟩
    · exact .inl ⟨by omega, rfl⟩
    · exact .inl ⟨by omega, rfl⟩
    · exact .inr ⟨a, b, c, plr_pos a b⟩
  rcases pos c hc with ⟨a, b⟩ | ⟨a, a1, b, b1⟩
  · rcases pos d hd with ⟨a', b'⟩ | ⟨a', a1', b', b1'⟩
    · omega
    · have := rk_nonneg s l d.toNat; omega
  · rcases pos d hd with ⟨a', b'⟩ | ⟨a', a1', b', b1'⟩
    · have := rk_nonneg s l c.toNat; omega
    · have : ¬ c.toNat < d.toNat := fun e => by have := rk_lt b e; omega
      have : ¬ d.toNat < c.toNat := fun e => by have := rk_lt b' e; omega
      omega
theorem leads_zero {n s : Int} {l : List Nd} (hv : validB n s l = true) {k : Nat} (hk : k < l.length) (hh : hit s l k) : leads s l (nz l k) := by
  rcases (valid_node hv hk).2.2.1 with e | e | e
  · exact .inl e
  · exact .inr (.inl e)
  · exact .inr (.inr ⟨by omega, by omega, hit_zero hv hk hh (by omega)⟩)
theorem leads_one {n s : Int} {l : List Nd} (hv : validB n s l = true) {k : Nat} (hk : k < l.length) (hh : hit s l k) : leads s l (no l k) := by
  rcases (valid_node hv hk).2.2.2 with e | e | e
  · exact .inl e
  · exact .inr (.inl e)
  · exact .inr (.inr ⟨by omega, by omega, hit_one hv hk hh (by omega)⟩)
theorem leads_start {n s : Int} {l : List Nd} (hv : validB n s l = true) : leads s l s := by
  rcases (valid_start hv).2.2.2 with e | e | e
  · exact .inl e
  · exact .inr (.inl e)
  · exact .inr (.inr ⟨by omega, by omega, hit_start hv (by omega)⟩)
theorem plr_ok {s : Int} {l : List Nd} {c : Int} (h : leads s l c) : pl (at2 s l) c = -1 ∨ pl (at2 s l) c = -2 ∨ (0 ≤ pl (at2 s l) c ∧ pl (at2 s l) c < (rnodes s l).length ∧ 0 ≤ c ∧ pl (at2 s l) c = rk s l c.toNat) := by
  rcases h with rfl | rfl | ⟨a, b, c⟩
  · exact .inl rfl
  · exact .inr (.inl rfl)
  · refine .inr (.inr ?_)
    rw [plr_pos a b, rnodes_len]
    exact ⟨rk_nonneg _ _ _, rk_lt c (by omega), a, rfl⟩

theorem reached_valid {n s : Int} {l : List Nd} (hv : validB n s l = true) : validB n (rstart s l) (rnodes s l) = true := by
  have hs := valid_start hv
  have hl : (rnodes s l).length ≤ l.length := by have := kept_le s l l.length; simpa [rnodes] using this
  refine valid_of hs.1 hs.2.1 (by omega) ?_ fun p hp => ?_
  · have := plr_ok (leads_start hv)
    unfold rstart
    omega
  · obtain ⟨k, hk, hh, e⟩ := rnodes_src hp
    have hn := valid_node hv hk
    have hd := rnodes_nd hk hh
    rw [e, Int.toNat_natCast] at hd
    rw [← nd_v, ← nd_z, ← nd_o, hd]
    have ord : ∀ c : Int, leads s l c → (c = -1 ∨ c = -2 ∨ (k < c ∧ c < l.length)) → (pl (at2 s l) c = -1 ∨ pl (at2 s l) c = -2 ∨ (p < pl (at2 s l) c ∧ pl (at2 s l) c < (rnodes s l).length)) := by
      intro c h1 h2
      rcases plr_ok h1 with a | a | ⟨a, b, c0, d⟩
      · exact .inl a
      · exact .inr (.inl a)
      · refine .inr (.inr ⟨?_, b⟩)
        rw [d, ← e]
        exact rk_lt hh (by omega)
    exact ⟨hn.1, hn.2.1, ord _ (leads_zero hv hk hh) hn.2.2.1, ord _ (leads_one hv hk hh) hn.2.2.2⟩
theorem reached_val {n s : Int} {l : List Nd} (hv : validB n s l = true) (x : Nat → Bool) : runB (rstart s l) (rnodes s l) x = runB s l x := by
  have hr := reached_valid hv
  have hu := val_uniq hv x (hit s l) (fun c => valN (rnodes s l) x (pl (at2 s l) c)) (fun c hc => by
      show valN _ x (pl (at2 s l) c) = _
      rw [plr_neg hc, valN_neg _ _ hc]) (fun k hk hh => by
      show valN _ x (pl (at2 s l) k) = valN _ x (pl (at2 s l) (stepN l x k))
      have hp : (rk s l k).toNat < (rnodes s l).length := by have := rnodes_len s l; have := rk_lt hh hk; have := rk_nonneg s l k; omega
      rw [plr_pos (by omega) (by omega), Int.toNat_natCast]
      rw [show rk s l k = ((rk s l k).toNat : Int) from by have := rk_nonneg s l k; omega, valN_step hr x hp]
      congr 1
      unfold stepN
      rw [Int.toNat_natCast, Int.toNat_natCast, ← nd_v, ← nd_z, ← nd_o, rnodes_nd hk hh]
      unfold pk rnode
      dsimp only
      split <;> rfl) (fun k hk hh => ⟨fun h => hit_zero hv hk hh h, fun h => hit_one hv hk hh h⟩)
  have hs := valid_start hv
  rw [runB_val, runB_val]
  exact (hu s (by omega) (fun h => hit_start hv h)).symm
theorem reached_hit {n s : Int} {l : List Nd} (hv : validB n s l = true) : ∀ k, k < l.length → hit s l k → hit (rstart s l) (rnodes s l) (rk s l k).toNat := by
  intro k
  induction k using Nat.strongRecOn with
  | ind k ih =>
    intro hk hh
    have hr := reached_valid hv
    have hp : (rk s l k).toNat < (rnodes s l).length := by have := rnodes_len s l; have := rk_lt hh hk; have := rk_nonneg s l k; omega
    have hnn := rk_nonneg s l k
    refine (hit_iff hr hp).2 ?_
    rcases (hit_iff hv hk).1 hh with e | ⟨m, h1, h2, h3⟩
    · left
      unfold rstart
      rw [plr_pos (by omega) (by omega), show s.toNat = k from by omega]
      omega
    · right
      have hlt := rk_lt h2 h1
      have hmn := rk_nonneg s l m
      refine ⟨(rk s l m).toNat, by omega, ih m h1 (by omega) h2, ?_⟩
      rw [← nd_z, ← nd_o, rnodes_nd (by omega) h2]
      show pl (at2 s l) (nz l m) = _ ∨ pl (at2 s l) (no l m) = _
      rcases h3 with h3 | h3
      · left; rw [h3, plr_pos (by omega) (by omega), Int.toNat_natCast]; omega
      · right; rw [h3, plr_pos (by omega) (by omega), Int.toNat_natCast]; omega

/-- What Slim answers. -/
def slS (s : Int) (l : List Nd) : Int := tn (slTo s l l.length).2.length (pl (slTo s l l.length).1 s)
def slL (s : Int) (l : List Nd) : List Nd := tnodes (slTo s l l.length).2
/-- All reached, all different, Zero and One different. -/
def slimB (s : Int) (l : List Nd) : Bool := allN l.length (fun i => decide (nz l i ≠ no l i) && allN i (fun k => decide (nd l i ≠ nd l k))) && allN l.length (hitB s l)

theorem slim_ok {n s : Int} {l : List Nd} (hv : validB n s l = true) :
    validB n (rstart (slS s l) (slL s l)) (rnodes (slS s l) (slL s l)) = true ∧ (∀ x, runB (rstart (slS s l) (slL s l)) (rnodes (slS s l) (slL s l)) x = runB s l x) ∧
    (rnodes (slS s l) (slL s l)).length ≤ l.length ∧ slimB (rstart (slS s l) (slL s l)) (rnodes (slS s l) (slL s l)) = true := by
  obtain ⟨t1, t2, t3, t4, t5⟩ := turned_ok hv
  change validB n (slS s l) (slL s l) = true at t1
  change ∀ x, runB (slS s l) (slL s l) x = runB s l x at t2
  change (slL s l).length ≤ _ at t3
  change ∀ k, k < (slL s l).length → nz (slL s l) k ≠ no (slL s l) k at t4
  change ∀ k m, k < m → m < (slL s l).length → nd (slL s l) k ≠ nd (slL s l) m at t5
  generalize slS s l = S at *
  generalize slL s l = L at *
  have hle : (rnodes S L).length ≤ L.length := by have := kept_le S L L.length; simpa [rnodes] using this
  refine ⟨reached_valid t1, fun x => (reached_val t1 x).trans (t2 x), by omega, ?_⟩
  unfold slimB
  rw [Bool.and_eq_true]
  refine ⟨allN_true.2 fun p hp => ?_, allN_true.2 fun p hp => ?_⟩
  · obtain ⟨k, hk, hh, e⟩ := rnodes_src hp
    have hd := rnodes_nd hk hh
    rw [e, Int.toNat_natCast] at hd
    rw [Bool.and_eq_true]
    refine ⟨?_, allN_true.2 fun q hq => ?_⟩
    · rw [← nd_z, ← nd_o, hd]
      refine decide_eq_true fun h => t4 k hk (plr_inj (leads_zero t1 hk hh) (leads_one t1 hk hh) h)
    · obtain ⟨m, hm, hhm, em⟩ := rnodes_src (s := S) (l := L) (p := q) (by omega)
      have hdm := rnodes_nd hm hhm
      rw [em, Int.toNat_natCast] at hdm
      rw [hd, hdm]
      refine decide_eq_true fun h => ?_
      unfold rnode at h
      simp only [Nd.mk.injEq] at h
      obtain ⟨h1, h2, h3⟩ := h
      have h2 := plr_inj (leads_zero t1 hk hh) (leads_zero t1 hm hhm) h2
      have h3 := plr_inj (leads_one t1 hk hh) (leads_one t1 hm hhm) h3
      have hlt : m < k := by
        rcases Nat.lt_trichotomy m k with a | a | a
        · exact a
        · subst a; omega
        · have := rk_lt hh a; omega
      refine t5 m k hlt hk ?_
      rw [← nd_v, ← nd_v] at h1
      rw [← nd_z, ← nd_z] at h2
      rw [← nd_o, ← nd_o] at h3
      cases ha : nd L m
      cases hb : nd L k
      simp_all
  · obtain ⟨k, hk, hh, e⟩ := rnodes_src hp
    have := reached_hit t1 k hk hh
    rw [e, Int.toNat_natCast] at this
    exact hitB_iff.2 this
end Go.Proofs.Ytinpmdekdfgiiaa
