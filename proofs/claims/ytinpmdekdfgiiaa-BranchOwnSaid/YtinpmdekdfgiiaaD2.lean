/- Plain law of Slim: the reduced program has the same values. -/
import Derived.Test.YtinpmdekdfgiiaaD1
set_option linter.unusedVariables false
set_option linter.unusedSimpArgs false
namespace Go.Proofs.Ytinpmdekdfgiiaa

/-- Where a reference leads. -/
def pl (a : List Int) (x : Int) : Int := if x < 0 then x else ia a x.toNat
def nd (l : List Nd) (k : Nat) : Nd := l.getD k ⟨0, 0, 0⟩
theorem nd_v (l : List Nd) (k : Nat) : (nd l k).v = nv l k := rfl
theorem nd_z (l : List Nd) (k : Nat) : (nd l k).z = nz l k := rfl
theorem nd_o (l : List Nd) (k : Nat) : (nd l k).o = no l k := rfl
theorem nd_snoc_lt {l : List Nd} {n : Nd} {k : Nat} (h : k < l.length) : nd (l ++ [n]) k = nd l k := by
  simp [nd, List.getD_eq_getElem?_getD, List.getElem?_append, h]
theorem nd_snoc {l : List Nd} {n : Nd} : nd (l ++ [n]) l.length = n := by simp [nd]

/-- The first place of a node. -/
def idx (l : List Nd) (n : Nd) : Option Nat := l.findIdx? (fun m => decide (m = n))
theorem idx_some {l : List Nd} {n : Nd} {k : Nat} (h : idx l n = some k) : k < l.length ∧ nd l k = n := by
  unfold idx at h
  rw [List.findIdx?_eq_some_iff_getElem] at h
  obtain ⟨h1, h2, _⟩ := h
  exact ⟨h1, by simpa [nd, List.getD_eq_getElem?_getD, h1] using h2⟩
theorem idx_none {l : List Nd} {n : Nd} (h : idx l n = none) : ∀ k, k < l.length → nd l k ≠ n := by
  unfold idx at h
  rw [List.findIdx?_eq_none_iff] at h
  intro k hk e
  have := h l[k] (List.getElem_mem hk)
  simp at this
  exact this (by simpa [nd, List.getD_eq_getElem?_getD, hk] using e)
theorem idx_snoc {l : List Nd} {n m : Nd} (h : idx l n = none) : idx (l ++ [n]) m = if m = n then some l.length else idx l m := by
  unfold idx at h ⊢
  rw [List.findIdx?_append]
  by_cases e : m = n
  · subst e; rw [h]; simp
  · rw [if_neg e]
    cases hh : List.findIdx? (fun a => decide (a = m)) l
    · simp [Ne.symm e]
    · simp

def slNode (l : List Nd) (a : List Int) (i : Nat) : Nd := ⟨nv l i, pl a (nz l i), pl a (no l i)⟩
def slStep (s : Int) (l : List Nd) (i : Nat) (st : List Int × List Nd) : List Int × List Nd :=
  if (slNode l st.1 i).z = (slNode l st.1 i).o ∨ ia (lv s l) i < 0 then (st.1.set i (slNode l st.1 i).z, st.2)
  else match idx st.2 (slNode l st.1 i) with
    | some k => (st.1.set i k, st.2)
    | none => (st.1.set i st.2.length, st.2 ++ [slNode l st.1 i])
def slTo (s : Int) (l : List Nd) : Nat → List Int × List Nd
  | 0 => (List.replicate l.length 0, [])
  | j + 1 => slStep s l (l.length - 1 - j) (slTo s l j)

/-- The value that a reference to the new nodes stands for. -/
def Wv (l : List Nd) (x : Nat → Bool) (src : List Nat) (c : Int) : Bool := if c < 0 then c == -2 else valN l x (src.getD c.toNat 0 : Nat)
theorem Wv_neg {l : List Nd} {x : Nat → Bool} {src : List Nat} {c : Int} (h : c < 0) : Wv l x src c = (c == -2) := if_pos h
theorem Wv_snoc {l : List Nd} {x : Nat → Bool} {src : List Nat} {i : Nat} {c : Int} (h : c < src.length) : Wv l x (src ++ [i]) c = Wv l x src c := by
  unfold Wv
  split
  · rfl
  · have : c.toNat < src.length := by omega
    simp [List.getD_eq_getElem?_getD, List.getElem?_append, this]
theorem Wv_last {l : List Nd} {x : Nat → Bool} {src : List Nat} {i : Nat} : Wv l x (src ++ [i]) (src.length : Nat) = valN l x i := by
  unfold Wv
  rw [if_neg (by omega)]
  simp

def refOk (c : Int) (m : Nat) : Prop := c = -1 ∨ c = -2 ∨ (0 ≤ c ∧ c < m)
structure SlInv (n s : Int) (l : List Nd) (j : Nat) (a : List Int) (ns : List Nd) : Prop where
  len : a.length = l.length
  many : ns.length ≤ j
  refs : ∀ i, l.length - j ≤ i → i < l.length → refOk (ia a i) ns.length
  nodes : ∀ k, k < ns.length → 0 ≤ (nd ns k).v ∧ (nd ns k).v < n ∧ refOk (nd ns k).z k ∧ refOk (nd ns k).o k ∧ (nd ns k).z ≠ (nd ns k).o
  differ : ∀ k m, k < m → m < ns.length → nd ns k ≠ nd ns m
  vals : ∃ src : List Nat, src.length = ns.length ∧ (∀ x k, k < ns.length → valN l x (src.getD k 0 : Nat) = Wv l x src (pk (x (nd ns k).v.toNat) (nd ns k).z (nd ns k).o)) ∧
    ∀ x i, l.length - j ≤ i → i < l.length → hit s l i → Wv l x src (ia a i) = valN l x i

theorem refOk.mono {c : Int} {m m' : Nat} (h : refOk c m) (hm : m ≤ m') : refOk c m' := by unfold refOk at *; omega
theorem pl_ok {a : List Int} {c : Int} {m : Nat} (h : c = -1 ∨ c = -2 ∨ (0 ≤ c ∧ refOk (ia a c.toNat) m)) : refOk (pl a c) m := by
  unfold pl
  rcases h with rfl | rfl | ⟨h0, h⟩
  · exact .inl rfl
  · exact .inr (.inl rfl)
  · rw [if_neg (by omega)]; exact h
theorem pl_val {l : List Nd} {x : Nat → Bool} {src : List Nat} {a : List Int} {c : Int} (h : 0 ≤ c → Wv l x src (ia a c.toNat) = valN l x c) : Wv l x src (pl a c) = valN l x c := by
  unfold pl
  split
  · rename_i hn; rw [Wv_neg hn, valN_neg _ _ hn]
  · exact h (by omega)
theorem refOk_lt {c : Int} {m : Nat} (h : refOk c m) : c < m := by unfold refOk at h; omega
theorem pk_lt {b : Bool} {c d : Int} {m : Int} (h : c < m) (k : d < m) : pk b c d < m := by unfold pk; split <;> assumption

theorem slNode_facts {n s : Int} {l : List Nd} (hv : validB n s l = true) {j : Nat} {a : List Int} {ns : List Nd} (h : SlInv n s l j a ns) (hj : j < l.length) :
    refOk (slNode l a (l.length - 1 - j)).z ns.length ∧ refOk (slNode l a (l.length - 1 - j)).o ns.length := by
  have hn := valid_node hv (k := l.length - 1 - j) (by omega)
  constructor
  · show refOk (pl a (nz l (l.length - 1 - j))) ns.length
    refine pl_ok ?_
    rcases hn.2.2.1 with e | e | e
    · exact .inl e
    · exact .inr (.inl e)
    · exact .inr (.inr ⟨by omega, h.refs _ (by omega) (by omega)⟩)
  · show refOk (pl a (no l (l.length - 1 - j))) ns.length
    refine pl_ok ?_
    rcases hn.2.2.2 with e | e | e
    · exact .inl e
    · exact .inr (.inl e)
    · exact .inr (.inr ⟨by omega, h.refs _ (by omega) (by omega)⟩)

theorem slInv_step {n s : Int} {l : List Nd} (hv : validB n s l = true) {j : Nat} {a : List Int} {ns : List Nd} (h : SlInv n s l j a ns) (hj : j < l.length) :
    SlInv n s l (j + 1) (slStep s l (l.length - 1 - j) (a, ns)).1 (slStep s l (l.length - 1 - j) (a, ns)).2 := by
  obtain ⟨i, hi⟩ : ∃ i, i = l.length - 1 - j := ⟨_, rfl⟩
  have hil : i < l.length := by omega
  have hn := valid_node hv hil
  have hf := slNode_facts hv h hj
  rw [← hi] at hf ⊢
  obtain ⟨src, hs1, hs2, hs3⟩ := h.vals
  have cz : hit s l i → ∀ x, Wv l x src (slNode l a i).z = valN l x (nz l i) := fun hh x => pl_val fun h0 => by
    have := hs3 x (nz l i).toNat (by omega) (by omega) (hit_zero hv hil hh h0)
    rw [this, show (((nz l i).toNat : Nat) : Int) = nz l i from by omega]
  have co : hit s l i → ∀ x, Wv l x src (slNode l a i).o = valN l x (no l i) := fun hh x => pl_val fun h0 => by
    have := hs3 x (no l i).toNat (by omega) (by omega) (hit_one hv hil hh h0)
    rw [this, show (((no l i).toNat : Nat) : Int) = no l i from by omega]
  have ci : hit s l i → ∀ x, Wv l x src (pk (x (nv l i).toNat) (slNode l a i).z (slNode l a i).o) = valN l x i := fun hh x => by
    rw [valN_step hv x hil]
    unfold stepN pk
    rw [show ((i : Int)).toNat = i from by simp]
    split
    · exact co hh x
    · exact cz hh x
  have old : ∀ (v : Int) (k : Nat), l.length - (j + 1) ≤ k → k < l.length → k ≠ i → ia (a.set i v) k = ia a k ∧ l.length - j ≤ k := fun v k h1 h2 h3 => by
    rw [ia_set, if_neg (by omega)]; exact ⟨rfl, by omega⟩
  have new : ∀ (v : Int), ia (a.set i v) i = v := fun v => by rw [ia_set, if_pos ⟨rfl, by rw [h.len]; exact hil⟩]
  have plain : ∀ (v : Int), refOk v ns.length → (hit s l i → ∀ x, Wv l x src v = valN l x i) → SlInv n s l (j + 1) (a.set i v) ns := fun v r1 r2 => {
    len := by simp [h.len]
    many := Nat.le_succ_of_le h.many
    refs := fun k h1 h2 => by
      by_cases e : k = i
      · subst e; rw [new]; exact r1
      · rw [(old v k h1 h2 e).1]; exact h.refs k (old v k h1 h2 e).2 h2
    nodes := h.nodes
    differ := h.differ
    vals := ⟨src, hs1, hs2, fun x k h1 h2 h3 => by
      by_cases e : k = i
      · subst e; rw [new]; exact r2 h3 x
      · rw [(old v k h1 h2 e).1]; exact hs3 x k (old v k h1 h2 e).2 h2 h3⟩ }
  unfold slStep
  dsimp only
  split
  · rename_i hc
    refine plain _ hf.1 fun hh x => ?_
    have he : (slNode l a i).z = (slNode l a i).o := by
      rcases hc with e | e
      · exact e
      · unfold hit at hh; omega
    rw [← ci hh x]
    congr 1
    unfold pk
    split
    · exact he
    · rfl
  · rename_i hc
    have hne : (slNode l a i).z ≠ (slNode l a i).o := fun e => hc (.inl e)
    have hh : hit s l i := by unfold hit; omega
    split
    · rename_i k hk
      obtain ⟨k1, k2⟩ := idx_some hk
      refine plain _ (.inr (.inr ⟨by omega, by omega⟩)) fun _ x => ?_
      have := hs2 x k k1
      rw [k2] at this
      unfold Wv
      rw [if_neg (by omega), show ((k : Int)).toNat = k from by simp, this]
      exact ci hh x
    · rename_i hk
      have hno := idx_none hk
      exact {
        len := by simp [h.len]
        many := by simp; exact h.many
        refs := fun k h1 h2 => by
          rw [List.length_append]
          by_cases e : k = i
          · subst e; rw [new]; exact .inr (.inr ⟨by omega, by simp; omega⟩)
          · rw [(old _ k h1 h2 e).1]; exact (h.refs k (old 0 k h1 h2 e).2 h2).mono (by omega)
        nodes := fun k hk' => by
          by_cases e : k = ns.length
          · subst e; rw [nd_snoc]; exact ⟨hn.1, hn.2.1, hf.1, hf.2, hne⟩
          · have : k < ns.length := by simp at hk'; omega
            rw [nd_snoc_lt this]; exact h.nodes k this
        differ := fun k m h1 h2 => by
          by_cases e : m = ns.length
          · subst e; rw [nd_snoc, nd_snoc_lt h1]; exact hno k h1
          · have : m < ns.length := by simp at h2; omega
            rw [nd_snoc_lt this, nd_snoc_lt (by omega)]; exact h.differ k m h1 this
        vals := ⟨src ++ [i], by simp [hs1], fun x k hk' => by
          by_cases e : k = ns.length
          · subst e
            rw [nd_snoc, Wv_snoc (pk_lt (by rw [hs1]; exact refOk_lt hf.1) (by rw [hs1]; exact refOk_lt hf.2)), ← hs1]
            have := (ci hh x).symm
            simp only [slNode] at this ⊢
            simpa using this
          · have hlt : k < ns.length := by simp at hk'; omega
            have hh := h.nodes k hlt
            rw [nd_snoc_lt hlt, Wv_snoc (pk_lt (by have := refOk_lt hh.2.2.1; omega) (by have := refOk_lt hh.2.2.2.1; omega)), ← hs2 x k hlt]
            simp [List.getD_eq_getElem?_getD, List.getElem?_append, hs1, hlt], fun x k h1 h2 h3 => by
          by_cases e : k = i
          · subst e; rw [new, ← hs1]; exact Wv_last
          · rw [(old _ k h1 h2 e).1, Wv_snoc (by rw [hs1]; exact refOk_lt (h.refs k (old 0 k h1 h2 e).2 h2))]; exact hs3 x k (old 0 k h1 h2 e).2 h2 h3⟩ }

theorem slInv_zero (n s : Int) (l : List Nd) : SlInv n s l 0 (List.replicate l.length 0) [] where
  len := by simp
  many := Nat.le_refl _
  refs := fun i h1 h2 => by omega
  nodes := fun k h => by simp at h
  differ := fun k m h1 h2 => by simp at h2
  vals := ⟨[], rfl, fun x k h => by simp at h, fun x i h1 h2 => by omega⟩
theorem slInv {n s : Int} {l : List Nd} (hv : validB n s l = true) : ∀ j, j ≤ l.length → SlInv n s l j (slTo s l j).1 (slTo s l j).2 := by
  intro j
  induction j with
  | zero => intro _; exact slInv_zero n s l
  | succ j ih => intro hj; exact slInv_step hv (ih (by omega)) (by omega)

/-! ### turned -/

def tn (m : Nat) (c : Int) : Int := if c < 0 then c else m - 1 - c
def tnode (ns : List Nd) (k : Nat) : Nd := ⟨nv ns (ns.length - 1 - k), tn ns.length (nz ns (ns.length - 1 - k)), tn ns.length (no ns (ns.length - 1 - k))⟩
def tnodes (ns : List Nd) : List Nd := (List.range ns.length).map (tnode ns)
@[simp] theorem tnodes_length (ns : List Nd) : (tnodes ns).length = ns.length := by simp [tnodes]
theorem tnodes_nd {ns : List Nd} {k : Nat} (h : k < ns.length) : nd (tnodes ns) k = tnode ns k := by simp [nd, tnodes, List.getD_eq_getElem?_getD, h]

theorem valid_of {n s : Int} {l : List Nd} (h0 : 0 ≤ n) (h1 : n ≤ 16) (h2 : l.length ≤ 20000) (h3 : s = -1 ∨ s = -2 ∨ (0 ≤ s ∧ s < l.length))
    (h4 : ∀ k, k < l.length → 0 ≤ nv l k ∧ nv l k < n ∧ (nz l k = -1 ∨ nz l k = -2 ∨ (k < nz l k ∧ nz l k < l.length)) ∧ (no l k = -1 ∨ no l k = -2 ∨ (k < no l k ∧ no l k < l.length))) : validB n s l = true := by
  unfold validB
  simp only [Bool.and_eq_true, decide_eq_true_eq]
  refine ⟨⟨⟨⟨h0, h1⟩, by omega⟩, by unfold tgt; simp; omega⟩, allN_true.2 fun k hk => ?_⟩
  have := h4 k hk
  unfold okN tgt
  simp
  omega

theorem turned_ok {n s : Int} {l : List Nd} (hv : validB n s l = true) :
    validB n (tn (slTo s l l.length).2.length (pl (slTo s l l.length).1 s)) (tnodes (slTo s l l.length).2) = true ∧
    (∀ x, runB (tn (slTo s l l.length).2.length (pl (slTo s l l.length).1 s)) (tnodes (slTo s l l.length).2) x = runB s l x) ∧
    (tnodes (slTo s l l.length).2).length ≤ l.length ∧
    (∀ k, k < (tnodes (slTo s l l.length).2).length → nz (tnodes (slTo s l l.length).2) k ≠ no (tnodes (slTo s l l.length).2) k) ∧
    (∀ k m, k < m → m < (tnodes (slTo s l l.length).2).length → nd (tnodes (slTo s l l.length).2) k ≠ nd (tnodes (slTo s l l.length).2) m) := by
  have h := slInv hv l.length (Nat.le_refl _)
  generalize (slTo s l l.length).1 = a at h ⊢
  generalize (slTo s l l.length).2 = ns at h ⊢
  have hs := valid_start hv
  have hps : refOk (pl a s) ns.length := pl_ok (by
    rcases hs.2.2.2 with e | e | e
    · exact .inl e
    · exact .inr (.inl e)
    · exact .inr (.inr ⟨by omega, h.refs _ (by omega) (by omega)⟩))
  have hm := h.many
  have tref : ∀ (c : Int) (k : Nat), k < ns.length → refOk c k → (tn ns.length c = -1 ∨ tn ns.length c = -2 ∨ (((ns.length - 1 - k : Nat) : Int) < tn ns.length c ∧ tn ns.length c < ns.length)) := by
    intro c k hk hc
    unfold refOk at hc
    unfold tn
    split <;> omega
  have hvt : validB n (tn ns.length (pl a s)) (tnodes ns) = true := by
    refine valid_of hs.1 hs.2.1 (by simp; omega) ?_ fun k hk => ?_
    · unfold refOk at hps
      unfold tn
      rw [tnodes_length]
      split <;> omega
    · simp only [tnodes_length] at hk
      rw [← nd_v, ← nd_z, ← nd_o, tnodes_nd hk, tnodes_length]
      have hk' : ns.length - 1 - k < ns.length := by omega
      have hn := h.nodes _ hk'
      have e : ns.length - 1 - (ns.length - 1 - k) = k := by omega
      have r1 := tref _ _ hk' hn.2.2.1
      have r2 := tref _ _ hk' hn.2.2.2.1
      rw [e] at r1 r2
      exact ⟨hn.1, hn.2.1, r1, r2⟩
  refine ⟨hvt, fun x => ?_, by simp; omega, fun k hk => ?_, fun k m h1 h2 => ?_⟩
  · obtain ⟨src, hs1, hs2, hs3⟩ := h.vals
    have ht : ∀ c : Int, c < ns.length → tn ns.length (tn ns.length c) = c := by
      intro c hc
      unfold tn
      split
      · rfl
      · rw [if_neg (by omega)]; omega
    have hu := val_uniq hvt x (fun _ => True) (fun c => Wv l x src (tn ns.length c)) (fun c hc => by
        show Wv l x src (tn ns.length c) = _
        unfold tn
        rw [if_pos hc, Wv_neg hc]) (fun k hk _ => by
        show Wv l x src (tn ns.length k) = Wv l x src (tn ns.length (stepN (tnodes ns) x k))
        rw [tnodes_length] at hk
        have hk' : ns.length - 1 - k < ns.length := by omega
        have hn := h.nodes _ hk'
        have e1 : tn ns.length k = ((ns.length - 1 - k : Nat) : Int) := by unfold tn; rw [if_neg (by omega)]; omega
        have e2 : tn ns.length (stepN (tnodes ns) x k) = pk (x (nv ns (ns.length - 1 - k)).toNat) (nz ns (ns.length - 1 - k)) (no ns (ns.length - 1 - k)) := by
          unfold stepN
          rw [show ((k : Int)).toNat = k from by simp, ← nd_v, ← nd_z, ← nd_o, tnodes_nd hk]
          unfold pk tnode
          dsimp only
          split
          · exact ht _ (by have := refOk_lt hn.2.2.2.1; rw [nd_o] at this; omega)
          · exact ht _ (by have := refOk_lt hn.2.2.1; rw [nd_z] at this; omega)
        rw [e1, e2]
        have := hs2 x _ hk'
        unfold Wv at this ⊢
        rw [if_neg (by omega), Int.toNat_natCast]
        exact this) (fun _ _ _ => ⟨fun _ => trivial, fun _ => trivial⟩)
    have hlt : pl a s < ns.length := refOk_lt hps
    have := hu (tn ns.length (pl a s)) (by unfold refOk at hps; unfold tn; rw [tnodes_length]; split <;> omega) (fun _ => trivial)
    rw [runB_val, runB_val, this]
    show Wv l x src (tn ns.length (tn ns.length (pl a s))) = _
    rw [ht _ hlt]
    exact pl_val fun h0 => by
      have := hs3 x s.toNat (by omega) (by omega) (hit_start hv h0)
      rw [this, show (((s).toNat : Nat) : Int) = s from by omega]
  · rw [tnodes_length] at hk
    rw [← nd_z, ← nd_o, tnodes_nd hk]
    have hk' : ns.length - 1 - k < ns.length := by omega
    have hn := h.nodes _ hk'
    have a1 := hn.2.2.1
    have a2 := hn.2.2.2.1
    have a3 := hn.2.2.2.2
    simp only [nd_z, nd_o, refOk] at a1 a2 a3
    unfold tnode tn
    dsimp only
    split <;> split <;> omega
  · rw [tnodes_length] at h2
    rw [tnodes_nd h2, tnodes_nd (by omega)]
    have hd := h.differ (ns.length - 1 - m) (ns.length - 1 - k) (by omega) (by omega)
    have n1 := h.nodes (ns.length - 1 - m) (by omega)
    have n2 := h.nodes (ns.length - 1 - k) (by omega)
    intro e
    apply hd
    unfold tnode tn at e
    simp only [Nd.mk.injEq] at e
    obtain ⟨e1, e2, e3⟩ := e
    simp only [nd_z, nd_o, nd_v, refOk] at n1 n2
    have : ∀ p q : Nat, nv ns p = nv ns q → nz ns p = nz ns q → no ns p = no ns q → nd ns p = nd ns q := by
      intro p q a b c
      rw [← nd_v, ← nd_v] at a
      rw [← nd_z, ← nd_z] at b
      rw [← nd_o, ← nd_o] at c
      cases hp : nd ns p
      cases hq : nd ns q
      simp_all
    refine this _ _ e1.symm ?_ ?_
    · split at e2 <;> split at e2 <;> omega
    · split at e3 <;> split at e3 <;> omega
end Go.Proofs.Ytinpmdekdfgiiaa
