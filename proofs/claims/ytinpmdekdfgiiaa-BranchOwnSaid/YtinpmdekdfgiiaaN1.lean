/- Joined: P1, P2. -/
import Derived.Test.YtinpmdekdfgiiaaD4
import Derived.Test.YtinpmdekdfgiiaaJ2
import Derived.Test.YtinpmdekdfgiiaaD3
/- Plain law of Layers: the places that are visited, sorted, and the program that is made of them. -/
set_option linter.unusedVariables false
set_option linter.unusedSimpArgs false
namespace Go.Proofs.Ytinpmdekdfgiiaa

/-- A node at a level. -/
structure Pc where
  x : Int
  j : Int
  deriving DecidableEq, Inhabited

/-- What follows a place. -/
def sc0 (s : Int) (l : List Nd) (p : Pc) : Pc := if p.j < ia (lv s l) p.x.toNat then ⟨p.x, p.j + 1⟩ else ⟨nz l p.x.toNat, p.j + 1⟩
def sc1 (s : Int) (l : List Nd) (p : Pc) : Pc := if p.j < ia (lv s l) p.x.toNat then ⟨p.x, p.j + 1⟩ else ⟨no l p.x.toNat, p.j + 1⟩
def stops (p : Pc) (o : List Pc) : Bool := decide (p ∈ o) || decide (p.x < 0) || decide (20000 < o.length)
/-- The order of the visit. -/
def visF (s : Int) (l : List Nd) : Nat → Pc → List Pc → List Pc
  | 0, _, o => o
  | f + 1, p, o =>
    if stops p o then o
    else if p.j < ia (lv s l) p.x.toNat then visF s l f ⟨p.x, p.j + 1⟩ (o ++ [p])
    else visF s l f ⟨no l p.x.toNat, p.j + 1⟩ (visF s l f ⟨nz l p.x.toNat, p.j + 1⟩ (o ++ [p]))

/-- A place that may be visited. -/
def okP (s : Int) (l : List Nd) (p : Pc) : Prop := 0 ≤ p.x ∧ p.x < l.length ∧ hit s l p.x.toNat ∧ 0 ≤ p.j ∧ p.j ≤ ia (lv s l) p.x.toNat
theorem stops_false {p : Pc} {o : List Pc} : stops p o = false ↔ p ∉ o ∧ 0 ≤ p.x ∧ o.length ≤ 20000 := by
  unfold stops
  simp [and_assoc]
theorem stops_true {p : Pc} {o : List Pc} : stops p o = true ↔ p ∈ o ∨ p.x < 0 ∨ 20000 < o.length := by
  unfold stops
  simp [or_assoc]

theorem lv_len {s : Int} {l : List Nd} {k : Nat} (hk : k < l.length) : ia (lv s l) k + 1 ≤ lenB s l := by
  have := mxTo_ge (lv s l) (k := k) (lv s l).length (by rw [lv_length]; exact hk)
  unfold lenB mxL; omega
theorem okP_lt {s : Int} {l : List Nd} {p : Pc} (h : okP s l p) : p.j + 1 ≤ lenB s l := by
  have := lv_len (s := s) (l := l) (k := p.x.toNat) (by have := h.1; have := h.2.1; omega)
  have := h.2.2.2.2; omega
/-- The level of a node that is reached is that of its predecessor and one, or it is the start. -/
theorem lv_pred {n s : Int} {l : List Nd} (hv : validB n s l = true) {k : Nat} (hk : k < l.length) : ∀ j, j ≤ l.length → 0 ≤ ia (lvTo s l j) k → (s = k ∧ ia (lvTo s l j) k = 0) ∨ ∃ m, m < j ∧ hit s l m ∧ (nz l m = k ∨ no l m = k) ∧ ia (lvTo s l j) k = ia (lv s l) m + 1 := by
  intro j
  induction j with
  | zero =>
    intro _ h
    left
    unfold lvTo lv0 at h ⊢
    split at h
    · rename_i h0
      rw [if_pos h0]
      rw [ia_set] at h ⊢
      split at h
      · rename_i h1
        rw [if_pos h1]
        exact ⟨by omega, rfl⟩
      · exfalso
        simp [ia, List.getD_eq_getElem?_getD, List.getElem?_replicate, hk] at h
    · exfalso
      simp [ia, List.getD_eq_getElem?_getD, List.getElem?_replicate, hk] at h
  | succ j ih =>
    intro hj h
    have hj' : j < l.length := by omega
    by_cases h0 : ia (lvTo s l j) j < 0
    · have e : lvTo s l (j + 1) = lvTo s l j := lvStep_skip h0
      rw [e] at h ⊢
      rcases ih (by omega) h with a | ⟨m, b, c⟩
      · exact .inl a
      · exact .inr ⟨m, by omega, c⟩
    · have e : lvTo s l (j + 1) = lvStep l j (lvTo s l j) := rfl
      rw [e, ia_lvStep hv (by simp) hj' hk (by omega)] at h ⊢
      have hat := lv_at hv hj'
      by_cases he : nz l j = k ∨ no l j = k
      · rw [if_pos he] at h ⊢
        rcases Int.le_total (ia (lvTo s l j) k) (ia (lvTo s l j) j + 1) with hm | hm
        · right
          exact ⟨j, by omega, by unfold hit; omega, he, by omega⟩
        · rw [Int.max_eq_left hm] at h ⊢
          rcases ih (by omega) h with a | ⟨m, b, c⟩
          · exact .inl a
          · exact .inr ⟨m, by omega, c⟩
      · rw [if_neg he] at h ⊢
        rcases ih (by omega) h with a | ⟨m, b, c⟩
        · exact .inl a
        · exact .inr ⟨m, by omega, c⟩
theorem lv_from {n s : Int} {l : List Nd} (hv : validB n s l = true) {k : Nat} (hk : k < l.length) (hh : hit s l k) : (s = k ∧ ia (lv s l) k = 0) ∨ ∃ m, m < k ∧ m < l.length ∧ hit s l m ∧ (nz l m = k ∨ no l m = k) ∧ ia (lv s l) k = ia (lv s l) m + 1 := by
  rcases lv_pred hv hk l.length (Nat.le_refl _) hh with h | ⟨m, h1, h2, h3, h4⟩
  · exact .inl h
  · have := valid_node hv h1
    exact .inr ⟨m, by omega, h1, h2, h3, h4⟩

/-- What follows a place may be visited, too, if it is a node. -/
theorem okP_start {n s : Int} {l : List Nd} (hv : validB n s l = true) (h : 0 ≤ s) : okP s l ⟨s, 0⟩ := by
  obtain ⟨_, _, _, hs⟩ := valid_start hv
  have h1 := hit_start hv h
  exact ⟨h, by dsimp only; omega, h1, by simp, h1⟩
theorem okP_sc {n s : Int} {l : List Nd} (hv : validB n s l = true) {p : Pc} (h : okP s l p) : (0 ≤ (sc0 s l p).x → okP s l (sc0 s l p)) ∧ (0 ≤ (sc1 s l p).x → okP s l (sc1 s l p)) := by
  obtain ⟨h0, h1, h2, h3, h4⟩ := h
  have hk : p.x.toNat < l.length := by omega
  have hn := valid_node hv hk
  unfold sc0 sc1
  by_cases hj : p.j < ia (lv s l) p.x.toNat
  · rw [if_pos hj, if_pos hj]
    exact ⟨fun _ => ⟨h0, h1, h2, by dsimp only; omega, by dsimp only; omega⟩, fun _ => ⟨h0, h1, h2, by dsimp only; omega, by dsimp only; omega⟩⟩
  · rw [if_neg hj, if_neg hj]
    refine ⟨fun hx => ?_, fun hx => ?_⟩
    · dsimp only at hx
      have hl := lv_edge hv hk (k := (nz l p.x.toNat).toNat) (by omega) h2 (.inl (by omega))
      exact ⟨hx, by dsimp only; omega, hit_zero hv hk h2 hx, by dsimp only; omega, by dsimp only; omega⟩
    · dsimp only at hx
      have hl := lv_edge hv hk (k := (no l p.x.toNat).toNat) (by omega) h2 (.inr (by omega))
      exact ⟨hx, by dsimp only; omega, hit_one hv hk h2 hx, by dsimp only; omega, by dsimp only; omega⟩

/-- All that the visit keeps. -/
structure Vis (s : Int) (l : List Nd) (o : List Pc) : Prop where
  nodup : o.Nodup
  ok : ∀ p, p ∈ o → okP s l p
  from_ : ∀ p, p ∈ o → p = ⟨s, 0⟩ ∨ ∃ q, q ∈ o ∧ (p = sc0 s l q ∨ p = sc1 s l q)
  len : o.length ≤ 20001

theorem Vis.snoc {s : Int} {l : List Nd} {o : List Pc} (h : Vis s l o) {p : Pc} (hn : p ∉ o) (hp : okP s l p) (hl : o.length ≤ 20000) (hf : p = ⟨s, 0⟩ ∨ ∃ q, q ∈ o ∧ (p = sc0 s l q ∨ p = sc1 s l q)) : Vis s l (o ++ [p]) where
  nodup := by
    rw [List.nodup_append]
    refine ⟨h.nodup, by simp, fun a ha b hb => ?_⟩
    rw [List.mem_singleton] at hb
    subst hb
    intro e
    subst e
    exact hn ha
  ok q hq := by
    rcases List.mem_append.1 hq with a | a
    · exact h.ok q a
    · rw [List.mem_singleton.1 a]; exact hp
  from_ q hq := by
    rcases List.mem_append.1 hq with a | a
    · rcases h.from_ q a with b | ⟨r, b, c⟩
      · exact .inl b
      · exact .inr ⟨r, List.mem_append_left _ b, c⟩
    · rw [List.mem_singleton.1 a]
      rcases hf with b | ⟨r, b, c⟩
      · exact .inl b
      · exact .inr ⟨r, List.mem_append_left _ b, c⟩
  len := by simp; omega

/-- What a visit of p makes of o. -/
structure VisTo (s : Int) (l : List Nd) (p : Pc) (o o' : List Pc) : Prop where
  vis : Vis s l o'
  sub : ∃ t, o' = o ++ t
  got : o'.length ≤ 20000 → 0 ≤ p.x → p ∈ o'
  next : o'.length ≤ 20000 → ∀ q, q ∈ o' → q ∉ o → (0 ≤ (sc0 s l q).x → sc0 s l q ∈ o') ∧ (0 ≤ (sc1 s l q).x → sc1 s l q ∈ o')

theorem visF_ok {n s : Int} {l : List Nd} (hv : validB n s l = true) : ∀ (f : Nat) (p : Pc) (o : List Pc), Vis s l o → (0 ≤ p.x → okP s l p) → (p = ⟨s, 0⟩ ∨ ∃ q, q ∈ o ∧ (p = sc0 s l q ∨ p = sc1 s l q)) → lenB s l ≤ p.j + f → VisTo s l p o (visF s l f p o) := by
  intro f
  induction f with
  | zero =>
    intro p o h hp _ hf
    have hx : p.x < 0 := by
      rcases Int.lt_or_le p.x 0 with h0 | h0
      · exact h0
      · have := okP_lt (hp h0); omega
    exact ⟨h, ⟨[], by simp [visF]⟩, fun _ h0 => by omega, fun _ q hq hn => absurd hq hn⟩
  | succ f ih =>
    intro p o h hp hfr hf
    unfold visF
    cases hs : stops p o
    · rw [if_neg (by simp)]
      obtain ⟨h1, h2, h3⟩ := stops_false.1 hs
      have hok := hp h2
      have hv1 := h.snoc h1 hok h3 hfr
      have hsc := okP_sc hv hok
      have hm : p ∈ o ++ [p] := by simp
      by_cases hj : p.j < ia (lv s l) p.x.toNat
      · rw [if_pos hj]
        have e0 : sc0 s l p = ⟨p.x, p.j + 1⟩ := if_pos hj
        have e1 : sc1 s l p = ⟨p.x, p.j + 1⟩ := if_pos hj
        rw [e0] at hsc
        have hi := ih ⟨p.x, p.j + 1⟩ (o ++ [p]) hv1 hsc.1 (.inr ⟨p, hm, .inl e0.symm⟩) (by dsimp only; omega)
        obtain ⟨t, ht⟩ := hi.sub
        refine ⟨hi.vis, ⟨p :: t, by rw [ht]; simp⟩, fun _ _ => by rw [ht]; simp, fun hl q hq hn => ?_⟩
        by_cases hqp : q = p
        · subst hqp
          rw [e0, e1]
          exact ⟨fun hx => hi.got hl hx, fun hx => hi.got hl hx⟩
        · exact hi.next hl q hq (by simp [hn, hqp])
      · rw [if_neg hj]
        have e0 : sc0 s l p = ⟨nz l p.x.toNat, p.j + 1⟩ := if_neg hj
        have e1 : sc1 s l p = ⟨no l p.x.toNat, p.j + 1⟩ := if_neg hj
        rw [e0, e1] at hsc
        have hi := ih ⟨nz l p.x.toNat, p.j + 1⟩ (o ++ [p]) hv1 hsc.1 (.inr ⟨p, hm, .inl e0.symm⟩) (by dsimp only; omega)
        generalize visF s l f ⟨nz l p.x.toNat, p.j + 1⟩ (o ++ [p]) = o2 at *
        obtain ⟨t, ht⟩ := hi.sub
        have hm2 : p ∈ o2 := by rw [ht]; simp
        have hi2 := ih ⟨no l p.x.toNat, p.j + 1⟩ o2 hi.vis hsc.2 (.inr ⟨p, hm2, .inr e1.symm⟩) (by dsimp only; omega)
        generalize visF s l f ⟨no l p.x.toNat, p.j + 1⟩ o2 = o3 at *
        obtain ⟨t2, ht2⟩ := hi2.sub
        have hl2 : o3.length ≤ 20000 → o2.length ≤ 20000 := by rw [ht2]; simp; omega
        have hsub : ∀ q, q ∈ o2 → q ∈ o3 := fun q hq => by rw [ht2]; simp [hq]
        refine ⟨hi2.vis, ⟨p :: (t ++ t2), by rw [ht2, ht]; simp⟩, fun _ _ => hsub p hm2, fun hl q hq hn => ?_⟩
        by_cases hqp : q = p
        · subst hqp
          rw [e0, e1]
          exact ⟨fun hx => hsub _ (hi.got (hl2 hl) hx), fun hx => hi2.got hl hx⟩
        · by_cases hq2 : q ∈ o2
          · have := hi.next (hl2 hl) q hq2 (by simp [hn, hqp])
            exact ⟨fun hx => hsub _ (this.1 hx), fun hx => hsub _ (this.2 hx)⟩
          · exact hi2.next hl q hq hq2
    · rw [if_pos rfl]
      rcases stops_true.1 hs with a | a | a
      · exact ⟨h, ⟨[], by simp⟩, fun _ _ => a, fun _ q hq hn => absurd hq hn⟩
      · exact ⟨h, ⟨[], by simp⟩, fun _ _ => by omega, fun _ q hq hn => absurd hq hn⟩
      · exact ⟨h, ⟨[], by simp⟩, fun _ _ => by omega, fun _ q hq hn => absurd hq hn⟩

/-- The visit of the whole program. -/
def visB (s : Int) (l : List Nd) : List Pc := visF s l (lenB s l).toNat ⟨s, 0⟩ []
theorem len_nonneg (s : Int) (l : List Nd) : 0 ≤ lenB s l := by
  have : ∀ (L : List Int) (k : Nat), -1 ≤ mxTo L k := by
    intro L k
    induction k with
    | zero => simp [mxTo]
    | succ k ih => simp only [mxTo]; omega
  have := this (lv s l) (lv s l).length
  unfold lenB mxL; omega
theorem visB_ok {n s : Int} {l : List Nd} (hv : validB n s l = true) : VisTo s l ⟨s, 0⟩ [] (visB s l) := by
  have := len_nonneg s l
  exact visF_ok hv _ _ _ ⟨by simp, by simp, by simp, by simp⟩ (fun h => okP_start hv h) (.inl rfl) (by dsimp only; omega)

end Go.Proofs.Ytinpmdekdfgiiaa

/- Plain law of Layers, second part: the program over sorted places is valid, layered, of the same length and values. -/
set_option linter.unusedVariables false
set_option linter.unusedSimpArgs false
namespace Go.Proofs.Ytinpmdekdfgiiaa

/-- The places of o in order: by level, then by node. -/
structure Srt (o S : List Pc) : Prop where
  len : S.length = o.length
  mem : ∀ p, p ∈ S ↔ p ∈ o
  sorted : ∀ (a b : Nat) (p q : Pc), a < b → S[a]? = some p → S[b]? = some q → p.j < q.j ∨ (p.j = q.j ∧ p.x < q.x)

def px (S : List Pc) (p : Pc) : Nat := S.findIdx (fun q => decide (q = p))
def fnd (S : List Pc) (x j : Int) : Int := if x < 0 then x else (px S ⟨x, j⟩ : Nat)
def lyN (s : Int) (l : List Nd) (S : List Pc) (p : Pc) : Nd := ⟨if p.j < ia (lv s l) p.x.toNat then 0 else nv l p.x.toNat, fnd S (sc0 s l p).x (p.j + 1), fnd S (sc1 s l p).x (p.j + 1)⟩
def lyL (s : Int) (l : List Nd) (S : List Pc) : List Nd := S.map (lyN s l S)
def pc (S : List Pc) (k : Nat) : Pc := S.getD k default

@[simp] theorem lyL_length (s : Int) (l : List Nd) (S : List Pc) : (lyL s l S).length = S.length := by simp [lyL]
theorem pc_at {S : List Pc} {k : Nat} (h : k < S.length) : S[k]? = some (pc S k) := by simp [pc, List.getD_eq_getElem?_getD, h]
theorem pc_mem {S : List Pc} {k : Nat} (h : k < S.length) : pc S k ∈ S := by
  have := pc_at h
  exact List.mem_of_getElem? this
theorem px_mem {S : List Pc} {p : Pc} (h : p ∈ S) : px S p < S.length ∧ pc S (px S p) = p := by
  have h1 : S.findIdx (fun q => decide (q = p)) < S.length := List.findIdx_lt_length_of_exists ⟨p, h, by simp⟩
  have h2 := List.findIdx_getElem (w := h1)
  refine ⟨h1, ?_⟩
  unfold pc px
  rw [List.getD_eq_getElem?_getD, List.getElem?_eq_getElem h1]
  simpa using h2
theorem lyL_nd {s : Int} {l : List Nd} {S : List Pc} {k : Nat} (h : k < S.length) : nd (lyL s l S) k = lyN s l S (pc S k) := by
  simp [nd, lyL, pc, List.getD_eq_getElem?_getD, h]
theorem sc0_j (s : Int) (l : List Nd) (p : Pc) : (sc0 s l p).j = p.j + 1 := by unfold sc0; split <;> rfl
theorem sc1_j (s : Int) (l : List Nd) (p : Pc) : (sc1 s l p).j = p.j + 1 := by unfold sc1; split <;> rfl

section
variable {n s : Int} {l : List Nd} {S : List Pc}

/-- What the program of S is made of. -/
structure LyEnv (n s : Int) (l : List Nd) (S : List Pc) : Prop where
  hv : validB n s l = true
  many : S.length ≤ 20000
  ok : ∀ p, p ∈ S → okP s l p
  from_ : ∀ p, p ∈ S → p = ⟨s, 0⟩ ∨ ∃ q, q ∈ S ∧ (p = sc0 s l q ∨ p = sc1 s l q)
  got : 0 ≤ s → ⟨s, 0⟩ ∈ S
  next : ∀ q, q ∈ S → (0 ≤ (sc0 s l q).x → sc0 s l q ∈ S) ∧ (0 ≤ (sc1 s l q).x → sc1 s l q ∈ S)
  sorted : ∀ (a b : Nat), a < b → b < S.length → (pc S a).j < (pc S b).j ∨ ((pc S a).j = (pc S b).j ∧ (pc S a).x < (pc S b).x)

theorem LyEnv.of {o : List Pc} (hv : validB n s l = true) (h : VisTo s l ⟨s, 0⟩ [] o) (hl : o.length ≤ 20000) (hS : Srt o S) : LyEnv n s l S where
  hv := hv
  many := by rw [hS.len]; exact hl
  ok p hp := h.vis.ok p ((hS.mem p).1 hp)
  from_ p hp := by
    rcases h.vis.from_ p ((hS.mem p).1 hp) with a | ⟨q, a, b⟩
    · exact .inl a
    · exact .inr ⟨q, (hS.mem q).2 a, b⟩
  got h0 := (hS.mem _).2 (h.got hl h0)
  next q hq := by
    have := h.next hl q ((hS.mem q).1 hq) (by simp)
    exact ⟨fun hx => (hS.mem _).2 (this.1 hx), fun hx => (hS.mem _).2 (this.2 hx)⟩
  sorted a b hab hb := hS.sorted a b _ _ hab (pc_at (by omega)) (pc_at hb)

theorem LyEnv.px_pc (h : LyEnv n s l S) {k : Nat} (hk : k < S.length) : px S (pc S k) = k := by
  obtain ⟨h1, h2⟩ := px_mem (pc_mem hk)
  rcases Nat.lt_trichotomy (px S (pc S k)) k with a | a | a
  · have := h.sorted _ _ a hk; rw [h2] at this; omega
  · exact a
  · have := h.sorted _ _ a h1; rw [h2] at this; omega
/-- Where a successor lies. -/
theorem LyEnv.fnd_next (h : LyEnv n s l S) {k : Nat} (hk : k < S.length) {c : Pc} (hj : c.j = (pc S k).j + 1) (hx : c.x = -1 ∨ c.x = -2 ∨ (0 ≤ c.x ∧ c ∈ S)) :
    (c.x < 0 ∧ fnd S c.x ((pc S k).j + 1) = c.x ∧ (c.x = -1 ∨ c.x = -2)) ∨ (0 ≤ c.x ∧ ∃ m : Nat, fnd S c.x ((pc S k).j + 1) = (m : Nat) ∧ k < m ∧ m < S.length ∧ pc S m = c) := by
  rcases hx with a | a | ⟨a, b⟩
  · left; unfold fnd; rw [if_pos (by omega)]; exact ⟨by omega, rfl, by omega⟩
  · left; unfold fnd; rw [if_pos (by omega)]; exact ⟨by omega, rfl, by omega⟩
  · right
    obtain ⟨h1, h2⟩ := px_mem b
    refine ⟨a, px S c, ?_, ?_, h1, h2⟩
    · unfold fnd
      rw [if_neg (by omega), ← hj]
    · rcases Nat.lt_trichotomy (px S c) k with e | e | e
      · have := h.sorted _ _ e hk; rw [h2] at this; omega
      · rw [e] at h2; rw [h2] at hj; omega
      · exact e
theorem LyEnv.sc_ok (h : LyEnv n s l S) {p : Pc} (hp : p ∈ S) :
    ((sc0 s l p).x = -1 ∨ (sc0 s l p).x = -2 ∨ (0 ≤ (sc0 s l p).x ∧ sc0 s l p ∈ S)) ∧ ((sc1 s l p).x = -1 ∨ (sc1 s l p).x = -2 ∨ (0 ≤ (sc1 s l p).x ∧ sc1 s l p ∈ S)) := by
  obtain ⟨h0, h1, h2, h3, h4⟩ := h.ok p hp
  have hn := valid_node h.hv (k := p.x.toNat) (by omega)
  have hx := h.next p hp
  have e0 : (sc0 s l p).x = -1 ∨ (sc0 s l p).x = -2 ∨ 0 ≤ (sc0 s l p).x := by unfold sc0; split <;> (dsimp only; omega)
  have e1 : (sc1 s l p).x = -1 ∨ (sc1 s l p).x = -2 ∨ 0 ≤ (sc1 s l p).x := by unfold sc1; split <;> (dsimp only; omega)
  refine ⟨?_, ?_⟩
  · rcases e0 with e | e | e
    · exact .inl e
    · exact .inr (.inl e)
    · exact .inr (.inr ⟨e, hx.1 e⟩)
  · rcases e1 with e | e | e
    · exact .inl e
    · exact .inr (.inl e)
    · exact .inr (.inr ⟨e, hx.2 e⟩)
/-- The two that follow node k of the program. -/
theorem LyEnv.kids (h : LyEnv n s l S) {k : Nat} (hk : k < S.length) :
    (((sc0 s l (pc S k)).x < 0 ∧ nz (lyL s l S) k = (sc0 s l (pc S k)).x ∧ ((sc0 s l (pc S k)).x = -1 ∨ (sc0 s l (pc S k)).x = -2)) ∨ (0 ≤ (sc0 s l (pc S k)).x ∧ ∃ m : Nat, nz (lyL s l S) k = (m : Nat) ∧ k < m ∧ m < S.length ∧ pc S m = sc0 s l (pc S k))) ∧
    (((sc1 s l (pc S k)).x < 0 ∧ no (lyL s l S) k = (sc1 s l (pc S k)).x ∧ ((sc1 s l (pc S k)).x = -1 ∨ (sc1 s l (pc S k)).x = -2)) ∨ (0 ≤ (sc1 s l (pc S k)).x ∧ ∃ m : Nat, no (lyL s l S) k = (m : Nat) ∧ k < m ∧ m < S.length ∧ pc S m = sc1 s l (pc S k))) := by
  have e1 : nz (lyL s l S) k = fnd S (sc0 s l (pc S k)).x ((pc S k).j + 1) := by rw [← nd_z, lyL_nd hk]; rfl
  have e2 : no (lyL s l S) k = fnd S (sc1 s l (pc S k)).x ((pc S k).j + 1) := by rw [← nd_o, lyL_nd hk]; rfl
  have hs := h.sc_ok (pc_mem hk)
  rw [e1, e2]
  exact ⟨h.fnd_next hk (sc0_j _ _ _) hs.1, h.fnd_next hk (sc1_j _ _ _) hs.2⟩
theorem LyEnv.start (h : LyEnv n s l S) : (s < 0 ∧ fnd S s 0 = s) ∨ (0 ≤ s ∧ ∃ m : Nat, fnd S s 0 = (m : Nat) ∧ m < S.length ∧ pc S m = ⟨s, 0⟩) := by
  by_cases h0 : s < 0
  · exact .inl ⟨h0, if_pos h0⟩
  · right
    obtain ⟨h1, h2⟩ := px_mem (h.got (by omega))
    exact ⟨by omega, px S ⟨s, 0⟩, if_neg h0, h1, h2⟩

theorem LyEnv.valid (h : LyEnv n s l S) : validB n (fnd S s 0) (lyL s l S) = true := by
  obtain ⟨h0, h1, h2, h3⟩ := valid_start h.hv
  refine valid_of h0 h1 (by simpa using h.many) ?_ fun k hk => ?_
  · rcases h.start with ⟨a, b⟩ | ⟨a, m, b, c, _⟩
    · rw [b]; omega
    · rw [b, lyL_length]; omega
  · rw [lyL_length] at hk ⊢
    obtain ⟨o0, o1, _, _, _⟩ := h.ok _ (pc_mem hk)
    have hn := valid_node h.hv (k := (pc S k).x.toNat) (by omega)
    have ev : nv (lyL s l S) k = if (pc S k).j < ia (lv s l) (pc S k).x.toNat then 0 else nv l (pc S k).x.toNat := by rw [← nd_v, lyL_nd hk]; rfl
    have hv : 0 ≤ nv (lyL s l S) k ∧ nv (lyL s l S) k < n := by rw [ev]; split <;> omega
    obtain ⟨ka, kb⟩ := h.kids hk
    refine ⟨hv.1, hv.2, ?_, ?_⟩
    · rcases ka with ⟨a, b, c⟩ | ⟨a, m, b, c, d, _⟩ <;> rw [b] <;> omega
    · rcases kb with ⟨a, b, c⟩ | ⟨a, m, b, c, d, _⟩ <;> rw [b] <;> omega

def Lval (l : List Nd) (x : Nat → Bool) (S : List Pc) (c : Int) : Bool := if c < 0 then c == -2 else valN l x (pc S c.toNat).x
theorem LyEnv.val (h : LyEnv n s l S) (x : Nat → Bool) : runB (fnd S s 0) (lyL s l S) x = runB s l x := by
  have hV := h.valid
  rw [runB_val, runB_val]
  have hneg : ∀ c : Int, c < 0 → Lval l x S c = (c == -2) := fun c hc => if_pos hc
  have key : ∀ c : Int, c < (lyL s l S).length → valN (lyL s l S) x c = Lval l x S c := by
    intro c hc
    refine val_uniq hV x (fun _ => True) (Lval l x S) hneg ?_ (fun _ _ _ => ⟨fun _ => trivial, fun _ => trivial⟩) c hc (fun _ => trivial)
    intro k hk _
    rw [lyL_length] at hk
    obtain ⟨o0, o1, _, _, o4⟩ := h.ok _ (pc_mem hk)
    obtain ⟨ka, kb⟩ := h.kids hk
    have e0 : Lval l x S (k : Nat) = valN l x (pc S k).x := by unfold Lval; rw [if_neg (by omega)]; simp
    have lk : ∀ (c : Pc) (u : Int), (c.x < 0 ∧ u = c.x ∧ (c.x = -1 ∨ c.x = -2)) ∨ (0 ≤ c.x ∧ ∃ m : Nat, u = (m : Nat) ∧ k < m ∧ m < S.length ∧ pc S m = c) → Lval l x S u = valN l x c.x := by
      intro c u hu
      rcases hu with ⟨a, b, _⟩ | ⟨a, m, b, _, d, e⟩
      · rw [b, hneg _ a, valN_neg _ _ a]
      · rw [b]; unfold Lval; rw [if_neg (by omega)]; simp [e]
    have l0 := lk _ _ ka
    have l1 := lk _ _ kb
    rw [e0]
    unfold stepN pk
    rw [show ((k : Nat) : Int).toNat = k from by simp]
    by_cases hj : (pc S k).j < ia (lv s l) (pc S k).x.toNat
    · have e1 : (sc0 s l (pc S k)).x = (pc S k).x := by unfold sc0; rw [if_pos hj]
      have e2 : (sc1 s l (pc S k)).x = (pc S k).x := by unfold sc1; rw [if_pos hj]
      rw [e1] at l0; rw [e2] at l1
      split
      · rw [l1]
      · rw [l0]
    · have e1 : (sc0 s l (pc S k)).x = nz l (pc S k).x.toNat := by unfold sc0; rw [if_neg hj]
      have e2 : (sc1 s l (pc S k)).x = no l (pc S k).x.toNat := by unfold sc1; rw [if_neg hj]
      have ev : nv (lyL s l S) k = nv l (pc S k).x.toNat := by rw [← nd_v, lyL_nd hk]; unfold lyN; rw [if_neg hj]
      rw [e1] at l0; rw [e2] at l1
      have hx := valN_step h.hv x (k := (pc S k).x.toNat) (by omega)
      rw [Int.toNat_of_nonneg o0] at hx
      rw [hx, ev]
      unfold stepN pk
      split
      · rw [l1]
      · rw [l0]
  rcases h.start with ⟨a, b⟩ | ⟨a, m, b, c, d⟩
  · rw [b, valN_neg _ _ a, valN_neg _ _ a]
  · rw [b, key _ (by rw [lyL_length]; omega)]
    unfold Lval
    rw [if_neg (by omega)]
    simp [d]

/-- Every node of the program is reached, and its level is that of its place. -/
theorem LyEnv.level (h : LyEnv n s l S) : ∀ k, k < S.length → hit (fnd S s 0) (lyL s l S) k ∧ ia (lv (fnd S s 0) (lyL s l S)) k = (pc S k).j := by
  have hV := h.valid
  have pre : ∀ k m, k < S.length → m < S.length → (nz (lyL s l S) m = (k : Nat) ∨ no (lyL s l S) m = (k : Nat)) → (pc S k).j = (pc S m).j + 1 := by
    intro k m hk hm he
    obtain ⟨ka, kb⟩ := h.kids hm
    rcases he with e | e
    · rcases ka with ⟨a, b, c⟩ | ⟨a, u, b, _, _, d⟩
      · omega
      · obtain rfl : u = k := by omega
        rw [d, sc0_j]
    · rcases kb with ⟨a, b, c⟩ | ⟨a, u, b, _, _, d⟩
      · omega
      · obtain rfl : u = k := by omega
        rw [d, sc1_j]
  intro k
  induction k using Nat.strongRecOn with
  | ind k ih =>
    intro hk
    have hkl : k < (lyL s l S).length := by rw [lyL_length]; exact hk
    have hh : hit (fnd S s 0) (lyL s l S) k := by
      rw [hit_iff hV hkl]
      rcases h.from_ _ (pc_mem hk) with e | ⟨q, hq, e⟩
      · left
        rcases h.start with ⟨a, b⟩ | ⟨a, m, b, c, d⟩
        · have := h.ok _ (pc_mem hk); rw [e] at this; have := this.1; dsimp only at this; omega
        · have h1 := h.px_pc hk
          have h2 := h.px_pc c
          rw [e, ← d, h2] at h1
          rw [b, h1]
      · right
        obtain ⟨q1, q2⟩ := px_mem hq
        obtain ⟨ka, kb⟩ := h.kids q1
        rw [q2] at ka kb
        have hx : 0 ≤ (pc S k).x := (h.ok _ (pc_mem hk)).1
        rcases e with e | e
        · rcases ka with ⟨a, _⟩ | ⟨a, u, b, c, d, f⟩
          · rw [e] at hx; omega
          · have h1 := h.px_pc hk
            have h2 := h.px_pc d
            rw [e, ← f, h2] at h1
            subst h1
            exact ⟨px S q, c, (ih _ c q1).1, .inl b⟩
        · rcases kb with ⟨a, _⟩ | ⟨a, u, b, c, d, f⟩
          · rw [e] at hx; omega
          · have h1 := h.px_pc hk
            have h2 := h.px_pc d
            rw [e, ← f, h2] at h1
            subst h1
            exact ⟨px S q, c, (ih _ c q1).1, .inr b⟩
    refine ⟨hh, ?_⟩
    rcases lv_from hV hkl hh with ⟨a, b⟩ | ⟨m, hm, hml, _, he, hlv⟩
    · rw [b]
      rcases h.start with ⟨c, d⟩ | ⟨c, u, d, f, g⟩
      · omega
      · obtain rfl : u = k := by omega
        rw [g]
    · rw [lyL_length] at hml
      rw [hlv, (ih m hm hml).2, pre k m hk hml he]

theorem LyEnv.layered (h : LyEnv n s l S) : layB (fnd S s 0) (lyL s l S) = true := by
  unfold layB
  rw [allN_true]
  intro k hk
  rw [lyL_length] at hk
  have hl := h.level k hk
  obtain ⟨_, _, _, hj0, _⟩ := h.ok _ (pc_mem hk)
  obtain ⟨ka, kb⟩ := h.kids hk
  have kid : ∀ (c : Pc) (u : Int), c.j = (pc S k).j + 1 → (c.x < 0 ∧ u = c.x ∧ (c.x = -1 ∨ c.x = -2)) ∨ (0 ≤ c.x ∧ ∃ m : Nat, u = (m : Nat) ∧ k < m ∧ m < S.length ∧ pc S m = c) → (decide (u < 0) || ia (lv (fnd S s 0) (lyL s l S)) u.toNat == ia (lv (fnd S s 0) (lyL s l S)) k + 1) = true := by
    intro c u hc hu
    rcases hu with ⟨a, b, _⟩ | ⟨a, m, b, _, d, e⟩
    · rw [decide_eq_true (by omega)]; rfl
    · rw [b, show ((m : Nat) : Int).toNat = m from by simp, (h.level m d).2, hl.2, e, hc]
      simp
  unfold okL
  rw [kid _ _ (sc0_j _ _ _) ka, kid _ _ (sc1_j _ _ _) kb, hl.2, decide_eq_false (by omega)]
  rfl

theorem mxTo_up {L : List Int} {b : Int} (hb : -1 ≤ b) : ∀ k, (∀ j, j < k → ia L j ≤ b) → mxTo L k ≤ b := by
  intro k
  induction k with
  | zero => intro _; simp [mxTo]; exact hb
  | succ k ih => intro h; have := h k (by omega); have := ih (fun j hj => h j (by omega)); simp only [mxTo]; omega
theorem mxTo_low (L : List Int) (k : Nat) : -1 ≤ mxTo L k := by
  induction k with
  | zero => simp [mxTo]
  | succ k ih => simp only [mxTo]; omega
/-- Every node that is reached stands at its own level in S. -/
theorem LyEnv.own (h : LyEnv n s l S) : ∀ k, k < l.length → hit s l k → (⟨(k : Nat), ia (lv s l) k⟩ : Pc) ∈ S := by
  intro k
  induction k using Nat.strongRecOn with
  | ind k ih =>
    intro hk hh
    rcases lv_from h.hv hk hh with ⟨a, b⟩ | ⟨m, hm, hml, hmh, he, hlv⟩
    · rw [b, ← a]
      exact h.got (by omega)
    · have hq := ih m hm hml hmh
      have hn := h.next _ hq
      have e0 : sc0 s l ⟨(m : Nat), ia (lv s l) m⟩ = ⟨nz l m, ia (lv s l) m + 1⟩ := by unfold sc0; dsimp only; rw [show ((m : Nat) : Int).toNat = m from by simp, if_neg (by omega)]
      have e1 : sc1 s l ⟨(m : Nat), ia (lv s l) m⟩ = ⟨no l m, ia (lv s l) m + 1⟩ := by unfold sc1; dsimp only; rw [show ((m : Nat) : Int).toNat = m from by simp, if_neg (by omega)]
      rw [e0, e1] at hn
      rw [hlv]
      rcases he with e | e
      · rw [e] at hn; exact hn.1 (by dsimp only; omega)
      · rw [e] at hn; exact hn.2 (by dsimp only; omega)
theorem LyEnv.length (h : LyEnv n s l S) : lenB (fnd S s 0) (lyL s l S) = lenB s l := by
  unfold lenB mxL
  rw [lv_length, lv_length, lyL_length]
  have h1 : mxTo (lv (fnd S s 0) (lyL s l S)) S.length ≤ mxTo (lv s l) l.length := by
    refine mxTo_up (mxTo_low _ _) _ fun k hk => ?_
    rw [(h.level k hk).2]
    obtain ⟨a, b, c, d, e⟩ := h.ok _ (pc_mem hk)
    have := mxTo_ge (lv s l) (k := (pc S k).x.toNat) l.length (by omega)
    omega
  have h2 : mxTo (lv s l) l.length ≤ mxTo (lv (fnd S s 0) (lyL s l S)) S.length := by
    refine mxTo_up (mxTo_low _ _) _ fun k hk => ?_
    by_cases hh : hit s l k
    · obtain ⟨p1, p2⟩ := px_mem (h.own k hk hh)
      have := mxTo_ge (lv (fnd S s 0) (lyL s l S)) (k := px S ⟨(k : Nat), ia (lv s l) k⟩) S.length p1
      rw [(h.level _ p1).2, p2] at this
      exact this
    · have := mxTo_low (lv (fnd S s 0) (lyL s l S)) S.length
      unfold hit at hh; omega
  omega
end
end Go.Proofs.Ytinpmdekdfgiiaa
