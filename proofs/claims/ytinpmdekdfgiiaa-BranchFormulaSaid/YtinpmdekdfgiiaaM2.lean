/- Joined: G1, F5, F6. -/
import Derived.Test.YtinpmdekdfgiiaaD3
import Derived.Test.YtinpmdekdfgiiaaM1
import Derived.Test.YtinpmdekdfgiiaaB9
import Derived.Test.YtinpmdekdfgiiaaLib6
/- Plain law of From: the nodes that are made for a formula have its values. -/
set_option linter.unusedVariables false
set_option linter.unusedSimpArgs false
namespace Go.Proofs.Ytinpmdekdfgiiaa

/-- The value of a list of nodes each of which leads to earlier ones. -/
def vrF (ns : List Nd) (x : Nat → Bool) : Nat → Int → Bool
  | 0, c => c == -2
  | f + 1, c => if c < 0 then c == -2 else vrF ns x f (pk (x (nd ns c.toNat).v.toNat) (nd ns c.toNat).z (nd ns c.toNat).o)
def vr (ns : List Nd) (x : Nat → Bool) (c : Int) : Bool := vrF ns x (c.toNat + 1) c
/-- Nodes that lead to earlier ones, and ask inputs below n. -/
def Good (n : Int) (ns : List Nd) : Prop := ∀ k, k < ns.length → 0 ≤ (nd ns k).v ∧ (nd ns k).v < n ∧ refOk (nd ns k).z k ∧ refOk (nd ns k).o k
theorem pk_ref {b : Bool} {z o : Int} {m : Nat} (hz : refOk z m) (ho : refOk o m) : refOk (pk b z o) m := by unfold pk; split <;> assumption
theorem vrF_fuel {n : Int} {ns : List Nd} (h : Good n ns) (x : Nat → Bool) : ∀ (f g : Nat) (c : Int), c < ns.length → c.toNat + 1 ≤ f → c.toNat + 1 ≤ g → vrF ns x f c = vrF ns x g c := by
  intro f
  induction f with
  | zero => intro g c _ h1; omega
  | succ f ih =>
    intro g c h0 h1 h2
    cases g with
    | zero => omega
    | succ g =>
      unfold vrF
      by_cases hc : c < 0
      · rw [if_pos hc, if_pos hc]
      · rw [if_neg hc, if_neg hc]
        have hk := h c.toNat (by omega)
        have hp := pk_ref (b := x (nd ns c.toNat).v.toNat) hk.2.2.1 hk.2.2.2
        unfold refOk at hp
        by_cases hn : pk (x (nd ns c.toNat).v.toNat) (nd ns c.toNat).z (nd ns c.toNat).o < 0
        · have e : ∀ f, vrF ns x f (pk (x (nd ns c.toNat).v.toNat) (nd ns c.toNat).z (nd ns c.toNat).o) = (pk (x (nd ns c.toNat).v.toNat) (nd ns c.toNat).z (nd ns c.toNat).o == -2) := by
            intro f
            cases f with
            | zero => rfl
            | succ f => unfold vrF; rw [if_pos hn]
          rw [e, e]
        · exact ih g _ (by omega) (by omega) (by omega)
theorem vr_neg (ns : List Nd) (x : Nat → Bool) {c : Int} (h : c < 0) : vr ns x c = (c == -2) := by unfold vr vrF; rw [if_pos h]
theorem vr_step {n : Int} {ns : List Nd} (h : Good n ns) (x : Nat → Bool) {k : Nat} (hk : k < ns.length) : vr ns x k = vr ns x (pk (x (nd ns k).v.toNat) (nd ns k).z (nd ns k).o) := by
  have hn := h k hk
  have hp := pk_ref (b := x (nd ns k).v.toNat) hn.2.2.1 hn.2.2.2
  generalize hq : pk (x (nd ns k).v.toNat) (nd ns k).z (nd ns k).o = q at hp ⊢
  conv => lhs; unfold vr vrF
  rw [if_neg (by omega), Int.toNat_natCast, hq]
  by_cases hqn : q < 0
  · rw [vr_neg _ _ hqn]
    cases k with
    | zero => rfl
    | succ k => unfold vrF; rw [if_pos hqn]
  · unfold vr
    unfold refOk at hp
    exact vrF_fuel h x _ _ _ (by omega) (by omega) (by omega)
theorem good_append {n : Int} {ns e : List Nd} (h : Good n (ns ++ e)) : Good n ns := by
  intro k hk
  have := h k (by rw [List.length_append]; omega)
  have e1 : nd (ns ++ e) k = nd ns k := by simp [nd, List.getD_eq_getElem?_getD, List.getElem?_append, hk]
  rw [e1] at this
  exact this
theorem vr_append {n : Int} {ns e : List Nd} (h : Good n (ns ++ e)) (x : Nat → Bool) : ∀ (m : Nat) (c : Int), c.toNat ≤ m → c < ns.length → vr (ns ++ e) x c = vr ns x c := by
  have hg := good_append h
  intro m
  induction m with
  | zero =>
    intro c h1 h2
    by_cases hc : c < 0
    · rw [vr_neg _ _ hc, vr_neg _ _ hc]
    · obtain rfl : c = ((0 : Nat) : Int) := by omega
      have e1 : nd (ns ++ e) 0 = nd ns 0 := by simp [nd, List.getD_eq_getElem?_getD, List.getElem?_append, show 0 < ns.length from by omega]
      rw [vr_step h x (k := 0) (by rw [List.length_append]; omega), vr_step hg x (k := 0) (by omega), e1]
      have hn := hg 0 (by omega)
      have hp := pk_ref (b := x (nd ns 0).v.toNat) hn.2.2.1 hn.2.2.2
      unfold refOk at hp
      rw [vr_neg _ _ (by omega), vr_neg _ _ (by omega)]
  | succ m ih =>
    intro c h1 h2
    by_cases hc : c < 0
    · rw [vr_neg _ _ hc, vr_neg _ _ hc]
    · obtain ⟨k, rfl⟩ : ∃ k : Nat, c = k := ⟨c.toNat, by omega⟩
      have e1 : nd (ns ++ e) k = nd ns k := by simp [nd, List.getD_eq_getElem?_getD, List.getElem?_append, show k < ns.length from by omega]
      rw [vr_step h x (by rw [List.length_append]; omega), vr_step hg x (by omega), e1]
      have hn := hg k (by omega)
      have hp := pk_ref (b := x (nd ns k).v.toNat) hn.2.2.1 hn.2.2.2
      unfold refOk at hp
      exact ih _ (by omega) (by omega)

/-- The program whose nodes are turned has the same values. -/
theorem turned_gen {n r : Int} {ns : List Nd} (h0 : 0 ≤ n) (h1 : n ≤ 16) (h2 : ns.length ≤ 20000) (h : Good n ns) (hr : refOk r ns.length) :
    validB n (tn ns.length r) (tnodes ns) = true ∧ ∀ x, runB (tn ns.length r) (tnodes ns) x = vr ns x r := by
  have tref : ∀ (c : Int) (k : Nat), k < ns.length → refOk c k → (tn ns.length c = -1 ∨ tn ns.length c = -2 ∨ (((ns.length - 1 - k : Nat) : Int) < tn ns.length c ∧ tn ns.length c < ns.length)) := by
    intro c k hk hc
    unfold refOk at hc
    unfold tn
    split <;> omega
  have hvt : validB n (tn ns.length r) (tnodes ns) = true := by
    refine valid_of h0 h1 (by simp; omega) ?_ fun k hk => ?_
    · unfold refOk at hr
      unfold tn
      rw [tnodes_length]
      split <;> omega
    · simp only [tnodes_length] at hk
      rw [← nd_v, ← nd_z, ← nd_o, tnodes_nd hk, tnodes_length]
      have hk' : ns.length - 1 - k < ns.length := by omega
      have hn := h _ hk'
      have e : ns.length - 1 - (ns.length - 1 - k) = k := by omega
      have r1 := tref _ _ hk' hn.2.2.1
      have r2 := tref _ _ hk' hn.2.2.2
      rw [e] at r1 r2
      exact ⟨hn.1, hn.2.1, r1, r2⟩
  refine ⟨hvt, fun x => ?_⟩
  have ht : ∀ c : Int, c < ns.length → tn ns.length (tn ns.length c) = c := by
    intro c hc
    unfold tn
    split
    · rfl
    · rw [if_neg (by omega)]; omega
  have hu := val_uniq hvt x (fun _ => True) (fun c => vr ns x (tn ns.length c)) (fun c hc => by
      show vr ns x (tn ns.length c) = _
      unfold tn
      rw [if_pos hc, vr_neg _ _ hc]) (fun k hk _ => by
      show vr ns x (tn ns.length k) = vr ns x (tn ns.length (stepN (tnodes ns) x k))
      rw [tnodes_length] at hk
      have hk' : ns.length - 1 - k < ns.length := by omega
      have hn := h _ hk'
      have e1 : tn ns.length k = ((ns.length - 1 - k : Nat) : Int) := by unfold tn; rw [if_neg (by omega)]; omega
      have e2 : tn ns.length (stepN (tnodes ns) x k) = pk (x (nd ns (ns.length - 1 - k)).v.toNat) (nd ns (ns.length - 1 - k)).z (nd ns (ns.length - 1 - k)).o := by
        unfold stepN
        rw [show ((k : Int)).toNat = k from by simp, ← nd_v, ← nd_z, ← nd_o, tnodes_nd hk]
        simp only [nd_v, nd_z, nd_o]
        unfold pk tnode
        dsimp only
        split
        · exact ht (no ns (ns.length - 1 - k)) (by have := refOk_lt hn.2.2.2; rw [nd_o] at this; omega)
        · exact ht (nz ns (ns.length - 1 - k)) (by have := refOk_lt hn.2.2.1; rw [nd_z] at this; omega)
      rw [e1, e2]
      exact vr_step h x hk') (fun _ _ _ => ⟨fun _ => trivial, fun _ => trivial⟩)
  have hlt : r < ns.length := refOk_lt hr
  have := hu (tn ns.length r) (by unfold refOk at hr; unfold tn; rw [tnodes_length]; split <;> omega) (fun _ => trivial)
  rw [runB_val, this]
  show vr ns x (tn ns.length (tn ns.length r)) = _
  rw [ht _ hlt]

/-! ### put -/

def putK (k n : Int) (ps : List (Int → Int → List Nd → Int × List Nd)) (z o : Int) (ns : List Nd) : Int × List Nd :=
  let p0 := ps.getD 0 (fun z _ ns => (z, ns))
  let p1 := ps.getD 1 (fun z _ ns => (z, ns))
  if z = o ∨ ns.length > 20000 then (z, ns)
  else if k = 1 then (if n = 0 then z else o, ns)
  else if k = 0 then ((ns.length : Nat), ns ++ [⟨n, z, o⟩])
  else if k = 2 then p0 o z ns
  else if k = 3 then p0 z (p1 z o ns).1 (p1 z o ns).2
  else if k = 4 then p0 (p1 z o ns).1 o (p1 z o ns).2
  else p0 (p1 z o ns).1 (p1 o z (p1 z o ns).2).1 (p1 o z (p1 z o ns).2).2
mutual
def putF : Fm → Int → Int → List Nd → Int × List Nd
  | .mk k n l => putK k n (putL l)
def putL : List Fm → List (Int → Int → List Nd → Int × List Nd)
  | [] => []
  | f :: fs => putF f :: putL fs
end
theorem putF_eq (f : Fm) : putF f = putK f.k f.n (putL f.l) := by cases f; rw [putF]; rfl
theorem putL_get {l : List Fm} : ∀ {j : Nat}, j < l.length → (putL l).getD j (fun z _ ns => (z, ns)) = putF (kd l j) := by
  induction l with
  | nil => intro j h; simp at h
  | cons f fs ih =>
    intro j h
    cases j with
    | zero => simp [putL, kd_zero]
    | succ j => rw [kd_succ, ← ih (by simpa using h)]; simp [putL]
def wgK (k : Int) (ws : List Nat) : Nat :=
  if k = 0 then 1 else if k = 1 then 0 else if k = 2 then ws.getD 0 0 else if k = 5 then ws.getD 0 0 + 2 * ws.getD 1 0 else ws.getD 0 0 + ws.getD 1 0
mutual
/-- The weight of a formula. -/
def wgF : Fm → Nat
  | .mk k _ l => wgK k (wgL l)
def wgL : List Fm → List Nat
  | [] => []
  | f :: fs => wgF f :: wgL fs
end
theorem wgF_eq (f : Fm) : wgF f = wgK f.k (wgL f.l) := by cases f; rw [wgF]; rfl
theorem wgL_get {l : List Fm} : ∀ {j : Nat}, j < l.length → (wgL l).getD j 0 = wgF (kd l j) := by
  induction l with
  | nil => intro j h; simp at h
  | cons f fs ih =>
    intro j h
    cases j with
    | zero => simp [wgL, kd_zero]
    | succ j => rw [kd_succ, ← ih (by simpa using h)]; simp [wgL]

/-- What put does to the nodes. -/
structure PutOk (n : Int) (f : Fm) (z o : Int) (ns : List Nd) (r : Int × List Nd) : Prop where
  pre : ∃ e, r.2 = ns ++ e
  len : r.2.length ≤ ns.length + wgF f
  cap : ns.length ≤ 20001 → r.2.length ≤ 20001
  good : Good n r.2
  ref : refOk r.1 r.2.length
  val : r.2.length ≤ 20000 → ∀ x, vr r.2 x r.1 = if evF x f then vr r.2 x o else vr r.2 x z
theorem PutOk.grow {n : Int} {f : Fm} {z o : Int} {ns : List Nd} {r : Int × List Nd} (h : PutOk n f z o ns r) : ns.length ≤ r.2.length := by
  obtain ⟨e, he⟩ := h.pre
  rw [he, List.length_append]; omega
theorem PutOk.keep {n : Int} {f : Fm} {z o : Int} {ns : List Nd} {r : Int × List Nd} (h : PutOk n f z o ns r) (x : Nat → Bool) {c : Int} (hc : c < ns.length) : vr r.2 x c = vr ns x c := by
  obtain ⟨e, he⟩ := h.pre
  have hg := h.good
  rw [he] at hg ⊢
  exact vr_append hg x _ c (Nat.le_refl _) hc

theorem node_cases {k n : Int} {m : Nat} (h : nodeB k n m = true) : (k = 0 ∧ 0 ≤ n ∧ n < 16 ∧ m = 0) ∨ (k = 1 ∧ (n = 0 ∨ n = 1) ∧ m = 0) ∨ (k = 2 ∧ n = 0 ∧ m = 1) ∨ ((k = 3 ∨ k = 4 ∨ k = 5) ∧ n = 0 ∧ m = 2) := by
  unfold nodeB at h
  split at h
  · simp at h; omega
  · split at h
    · simp at h; omega
    · split at h
      · simp at h; omega
      · split at h
        · simp at h; omega
        · cases h

theorem put_ok {n : Int} : ∀ (N : Nat) (f : Fm), cntF f ≤ N → shpF f = true → inpF f ≤ n → ∀ (z o : Int) (ns : List Nd), Good n ns → refOk z ns.length → refOk o ns.length → PutOk n f z o ns (putF f z o ns) := by
  intro N
  induction N with
  | zero => intro f h; have := cntF_pos f; omega
  | succ N ih =>
    intro f hc hs hi z o ns hg hz ho
    rw [shpF_eq, Bool.and_eq_true] at hs
    have hkid : ∀ j, j < f.l.length → ∀ (z o : Int) (ns : List Nd), Good n ns → refOk z ns.length → refOk o ns.length → PutOk n (kd f.l j) z o ns ((putL f.l).getD j (fun z _ ns => (z, ns)) z o ns) := by
      intro j hj z o ns a b c
      rw [putL_get hj]
      refine ih _ ?_ (shpL_true.1 hs.1 j hj) ?_ z o ns a b c
      · have := cnt_kid hj; rw [cntF_eq] at hc; omega
      · have := inp_kid hj; rw [inpF_eq] at hi; omega
    rw [putF_eq]
    unfold putK
    dsimp only
    by_cases he : z = o ∨ ns.length > 20000
    · rw [if_pos he]
      refine ⟨⟨[], by simp⟩, by dsimp only; omega, fun h => h, hg, hz, fun hl x => ?_⟩
      rcases he with rfl | he
      · dsimp only; split <;> rfl
      · dsimp only at hl; omega
    rw [if_neg he]
    rcases node_cases hs.2 with ⟨k0, n0, n1, m0⟩ | ⟨k1, n1, m0⟩ | ⟨k2, n0, m1⟩ | ⟨k3, n0, m2⟩
    · -- a variable
      rw [if_neg (by omega), if_pos k0]
      have hin : f.n < n := by rw [inpF_eq, if_pos k0] at hi; omega
      have hg2 : Good n (ns ++ [⟨f.n, z, o⟩]) := by
        intro k hk
        by_cases e : k = ns.length
        · subst e; rw [nd_snoc]; exact ⟨n0, hin, hz, ho⟩
        · have : k < ns.length := by simp at hk; omega
          rw [nd_snoc_lt this]; exact hg k this
      refine ⟨⟨_, rfl⟩, ?_, fun h => by simp; omega, hg2, .inr (.inr ⟨by omega, by simp; omega⟩), fun hl x => ?_⟩
      · rw [wgF_eq]; unfold wgK; rw [if_pos k0]; simp
      · rw [ev_var x k0]
        dsimp only
        rw [vr_step hg2 x (k := ns.length) (by simp), nd_snoc]
        unfold pk
        dsimp only
        split <;> rfl
    · -- a constant
      rw [if_pos k1]
      refine ⟨⟨[], by simp⟩, by dsimp only; omega, fun h => h, hg, ?_, fun hl x => ?_⟩
      · dsimp only; split <;> assumption
      · rw [ev_const x k1]
        dsimp only
        rcases n1 with e | e
        · rw [e]; rfl
        · rw [e]; rfl
    · -- not
      rw [if_neg (by omega), if_neg (by omega), if_pos k2]
      have h0 := hkid 0 (by omega) o z ns hg ho hz
      refine ⟨h0.pre, ?_, h0.cap, h0.good, h0.ref, fun hl x => ?_⟩
      · have := h0.len
        rw [wgF_eq]; unfold wgK
        rw [if_neg (by omega), if_neg (by omega), if_pos k2, wgL_get (by omega)]; exact this
      · rw [h0.val hl x, ev_not x k2 m1]
        cases evF x (kd f.l 0) <;> rfl
    · have h1 := hkid 1 (by omega) z o ns hg hz ho
      have hw : ∀ a : Nat, a < 2 → (wgL f.l).getD a 0 = wgF (kd f.l a) := fun a ha => wgL_get (by omega)
      have hev : ∀ (x : Nat → Bool) (a : Nat), a < 2 → (evL x f.l).getD a false = evF x (kd f.l a) := fun x a ha => evL_get x (by omega)
      rcases k3 with k3 | k3 | k3
      · rw [if_neg (by omega), if_neg (by omega), if_neg (by omega), if_pos k3]
        generalize hp1 : (putL f.l).getD 1 (fun z _ ns => (z, ns)) z o ns = p1 at h1
        have h0 := hkid 0 (by omega) z p1.1 p1.2 h1.good (hz.mono h1.grow) h1.ref
        refine ⟨?_, ?_, fun h => h0.cap (h1.cap h), h0.good, h0.ref, fun hl x => ?_⟩
        · obtain ⟨e1, he1⟩ := h1.pre
          obtain ⟨e0, he0⟩ := h0.pre
          exact ⟨e1 ++ e0, by rw [he0, he1, List.append_assoc]⟩
        · have a := h0.len; have b := h1.len
          rw [wgF_eq]; unfold wgK
          rw [if_neg (by omega), if_neg (by omega), if_neg (by omega), if_neg (by omega), hw 0 (by omega), hw 1 (by omega)]
          omega
        · have g0 := h0.grow
          rw [h0.val hl x, h0.keep x (refOk_lt h1.ref), h1.val (by omega) x, ev_and x k3 m2]
          have lz := refOk_lt hz; have lo := refOk_lt ho; have g1 := h1.grow
          rw [h0.keep x (c := z) (by omega), h0.keep x (c := o) (by omega)]
          cases evF x (kd f.l 0) <;> cases evF x (kd f.l 1) <;> rfl
      · rw [if_neg (by omega), if_neg (by omega), if_neg (by omega), if_neg (by omega), if_pos k3]
        generalize hp1 : (putL f.l).getD 1 (fun z _ ns => (z, ns)) z o ns = p1 at h1
        have h0 := hkid 0 (by omega) p1.1 o p1.2 h1.good h1.ref (ho.mono h1.grow)
        refine ⟨?_, ?_, fun h => h0.cap (h1.cap h), h0.good, h0.ref, fun hl x => ?_⟩
        · obtain ⟨e1, he1⟩ := h1.pre
          obtain ⟨e0, he0⟩ := h0.pre
          exact ⟨e1 ++ e0, by rw [he0, he1, List.append_assoc]⟩
        · have a := h0.len; have b := h1.len
          rw [wgF_eq]; unfold wgK
          rw [if_neg (by omega), if_neg (by omega), if_neg (by omega), if_neg (by omega), hw 0 (by omega), hw 1 (by omega)]
          omega
        · have g0 := h0.grow
          rw [h0.val hl x, h0.keep x (refOk_lt h1.ref), h1.val (by omega) x, ev_or x k3 m2]
          have lz := refOk_lt hz; have lo := refOk_lt ho; have g1 := h1.grow
          rw [h0.keep x (c := z) (by omega), h0.keep x (c := o) (by omega)]
          cases evF x (kd f.l 0) <;> cases evF x (kd f.l 1) <;> rfl
      · rw [if_neg (by omega), if_neg (by omega), if_neg (by omega), if_neg (by omega), if_neg (by omega)]
        generalize hp1 : (putL f.l).getD 1 (fun z _ ns => (z, ns)) z o ns = p1 at h1
        have h2 := hkid 1 (by omega) o z p1.2 h1.good (ho.mono h1.grow) (hz.mono h1.grow)
        generalize hp2 : (putL f.l).getD 1 (fun z _ ns => (z, ns)) o z p1.2 = p2 at h2
        have h0 := hkid 0 (by omega) p1.1 p2.1 p2.2 h2.good (h1.ref.mono h2.grow) h2.ref
        refine ⟨?_, ?_, fun h => h0.cap (h2.cap (h1.cap h)), h0.good, h0.ref, fun hl x => ?_⟩
        · obtain ⟨e1, he1⟩ := h1.pre
          obtain ⟨e2, he2⟩ := h2.pre
          obtain ⟨e0, he0⟩ := h0.pre
          exact ⟨e1 ++ (e2 ++ e0), by rw [he0, he2, he1, List.append_assoc, List.append_assoc]⟩
        · have a := h0.len; have b := h1.len; have c := h2.len
          rw [wgF_eq]; unfold wgK
          rw [if_neg (by omega), if_neg (by omega), if_neg (by omega), if_pos k3, hw 0 (by omega), hw 1 (by omega)]
          omega
        · have g0 := h0.grow; have g2 := h2.grow; have g1 := h1.grow
          have l1 := refOk_lt h1.ref
          have lz := refOk_lt hz; have lo := refOk_lt ho
          rw [h0.val hl x, h0.keep x (refOk_lt h2.ref), h2.val (by omega) x, h0.keep x (c := p1.1) (by omega), h2.keep x l1, h1.val (by omega) x, ev_xor x k3 m2]
          rw [h0.keep x (c := z) (by omega), h0.keep x (c := o) (by omega), h2.keep x (c := z) (by omega), h2.keep x (c := o) (by omega)]
          cases evF x (kd f.l 0) <;> cases evF x (kd f.l 1) <;> rfl
end Go.Proofs.Ytinpmdekdfgiiaa

/- Formulas: counting, shape, validity, inputs, values and weights, in the reference. -/
set_option linter.unusedVariables false
set_option linter.unusedSimpArgs false
namespace Go.Proofs.Ytinpmdekdfgiiaa
open Go.RowKit

set_option maxRecDepth 100000 in
set_option maxHeartbeats 1000000 in
theorem count75_any : ∀ (N : Nat) (f : Fm) (A : Option Addr) (c : Nat) (most : Int) (w : World), cntF f ≤ N → N ≤ 20000 → f.l.length ≤ 9223372036854775807 → RK w A f.l → depF f ≤ most → most ≤ 2000 →
    Calls Try.prog 75 #[fmV f A c, .int .i64 most] w fun e w' => e = .returned (.tuple #[.int .i64 (cntF f : Nat), .int .i64 (depF f : Nat)]) ∧ Kept w w' := by
  intro N
  induction N with
  | zero => intro f A c n w h; have := cntF_pos f; omega
  | succ N ih =>
    intro f A c most w hc hN hl hr hd hmo
    have IH := Lib.hid ih; clear ih
    have HR := Lib.hid hr; clear hr
    unfold fmV
    have o0 := Own.new w 52 [.int .i64 f.k, .int .i64 f.n, .slice A f.l.length c]
    have K0 : Kept w (w.alloc (.cells #[.int .i64 f.k, .int .i64 f.n, .slice A f.l.length c] 52)) := kept_alloc (kept_refl w) _
    have hcn := cntF_eq f
    have hdn := depF_eq f
    have HC := Lib.hid hcn; have HD := Lib.hid hdn
    have hm1 : 1 ≤ most := by omega
    obtain ⟨l, hle⟩ : ∃ l, l = f.l := ⟨_, rfl⟩
    rw [← hle] at hl HR o0 K0 HC HD hdn hcn ⊢
    clear hle
    by_cases hmo1 : most > 1
    · have hb : decide (1 < most) = true := decide_eq_true hmo1
      clear hdn hcn
      go_enter Try.func75, Try.ntmps75
      go_wp2_with fail
      go_loopg [6, 7, 8] l.length (fun g' s6 s7 s8 wr => ∃ j : Nat, j ≤ l.length ∧ g' = l.length - j ∧ s8 = .int .i64 j ∧ s6 = .int .i64 (1 + cntL (l.take j) : Nat) ∧ s7 = .int .i64 (depL (l.take j) : Nat) ∧ Own wr w.heap.size 52 [.int .i64 f.k, .int .i64 f.n, .slice A l.length c] ∧ Kept w wr)
      case atStart => exact ⟨0, by omega, rfl, rfl, by simp [cntL], by simp [depL], o0, K0⟩
      case round =>
        clear o0 K0
        obtain ⟨j, hj, rfl, rfl, rfl, rfl, o0, K0⟩ := hrel
        have q0 := o0.cell (j := 0) rfl
        have q1 := o0.cell (j := 1) rfl
        have q2 := o0.cell (j := 2) rfl
        have hle := cntL_take_le l j
        have hld := depL_take_le l j
        obtain ⟨v, hv⟩ : ∃ v : Nat, v = 1 + cntL (l.take j) := ⟨_, rfl⟩
        obtain ⟨u, hu⟩ : ∃ u : Nat, u = depL (l.take j) := ⟨_, rfl⟩
        rw [← hv, ← hu]
        have v1 : (v : Int) ≤ 20000 := by have := HC.out; omega
        have u1 : (u : Int) ≤ 2000 := by have := HD.out; omega
        have HV := Lib.hid hv; have HU := Lib.hid hu; clear hv hu hle hld
        by_cases hlt : j < l.length
        · have b1 : decide ((v : Int) ≤ 20000) = true := decide_eq_true v1
          have b2 : decide (v ≤ 20000) = true := decide_eq_true (by omega)
          obtain ⟨b, off, rfl, hk⟩ := HR.out.at_ (by omega)
          obtain ⟨d0, d1, ⟨A', c', d2, rk⟩, dl⟩ := (hk j hlt).kept K0
          clear hk
          have g0 : (0 : Int) ≤ (j : Int) := by omega
          have g1 : (j : Int) < (l.length : Int) := by omega
          have hkc := cnt_kid hlt
          have hkd := dep_kid hlt
          have m1 : IntKind.i64.wrap (most - 1) = most - 1 := IntWalk.i64_in _ (by omega)
          have C := IH.out (kd l j) A' c' (most - 1) wr (by have := HC.out; omega) (by omega) dl rk (by have := HD.out; omega) (by omega)
          unfold fmV at C
          have w1 : (cntF (kd l j) : Int) ≤ 20000 := by have := HC.out; omega
          have w2 : (depF (kd l j) : Int) ≤ 2000 := by have := HD.out; omega
          obtain ⟨a, ha⟩ : ∃ a, a = cntF (kd l j) := ⟨_, rfl⟩
          obtain ⟨d, hd2⟩ : ∃ a, a = depF (kd l j) := ⟨_, rfl⟩
          rw [← ha, ← hd2] at C
          rw [← ha] at w1
          rw [← hd2] at w2
          have HA := Lib.hid ha; have HD2 := Lib.hid hd2; clear ha hd2 hkc hkd
          have HCC := Lib.hid C; clear C
          go_wp2_with fail
          refine HCC.out.mono ?_
          rintro e w1 ⟨rfl, k⟩
          replace K0 := kept_trans K0 k; replace o0 := o0.kept k
          go_wp2_with fail
          all_goals
            go_roundg (l.length - (j + 1))
            case rel => exact ⟨j + 1, by omega, rfl, by go_num, congrArg (Value.int .i64) (by have := HV.out; have := HA.out; have := cntL_take hlt; omega), congrArg (Value.int .i64) (by have := HU.out; have := HD2.out; have := depL_take hlt; omega), o0, K0⟩
            case measure => omega
        · have : j = l.length := by omega
          subst this
          go_wp2_with fail
          go_ret2
          have e1 : v = cntF f := by have := HV.out; rw [List.take_length] at this; have := HC.out; omega
          have e2 : u + 1 = depF f := by have := HU.out; rw [List.take_length] at this; have := HD.out; omega
          exact ⟨by rw [← e1, ← e2]; rfl, K0⟩
    · have hb : decide (1 < most) = false := decide_eq_false hmo1
      have hl0 : l = [] := by
        cases l with
        | nil => rfl
        | cons g gs => rw [depL] at hdn; have := depF_pos g; omega
      subst hl0
      have hb2 : cntF f = 1 := by rw [cntL] at hcn; omega
      have hb3 : depF f = 1 := by rw [depL] at hdn; omega
      clear hdn hcn HC HD
      rw [hb2, hb3]
      clear hb2 hb3
      go_enter Try.func75, Try.ntmps75
      go_wp2_with fail
      go_ret2
      exact ⟨rfl, K0⟩

set_option maxRecDepth 100000 in
set_option maxHeartbeats 1000000 in
theorem shape76_any : ∀ (N : Nat) (f : Fm) (A : Option Addr) (c : Nat) (w : World), cntF f ≤ N → f.l.length ≤ 9223372036854775807 → RK w A f.l →
    Calls Try.prog 76 #[fmV f A c] w fun e w' => e = .returned (.bool (shpF f)) ∧ Kept w w' := by
  intro N
  induction N with
  | zero => intro f A c w h; have := cntF_pos f; omega
  | succ N ih =>
    intro f A c w hc hl hr
    have IH := Lib.hid ih; clear ih
    have HR := Lib.hid hr; clear hr
    unfold fmV
    have o0 := Own.new w 52 [.int .i64 f.k, .int .i64 f.n, .slice A f.l.length c]
    have K0 : Kept w (w.alloc (.cells #[.int .i64 f.k, .int .i64 f.n, .slice A f.l.length c] 52)) := kept_alloc (kept_refl w) _
    have hcn := cntF_eq f
    have hsn := shpF_eq f
    have HC := Lib.hid hcn; have HS := Lib.hid hsn; clear hcn hsn
    obtain ⟨l, hle⟩ : ∃ l, l = f.l := ⟨_, rfl⟩
    rw [← hle] at hl HR o0 K0 HC HS ⊢
    clear hle
    go_enter Try.func76, Try.ntmps76
    go_wp2_with fail
    go_loopg [3] l.length (fun g' s3 wr => ∃ j : Nat, j ≤ l.length ∧ g' = l.length - j ∧ s3 = .int .i64 j ∧ (∀ i, i < j → shpF (kd l i) = true) ∧ Own wr w.heap.size 52 [.int .i64 f.k, .int .i64 f.n, .slice A l.length c] ∧ Kept w wr)
    case atStart => exact ⟨0, by omega, rfl, rfl, fun i h => by omega, o0, K0⟩
    case round =>
      clear o0 K0
      obtain ⟨j, hj, rfl, rfl, hal, o0, K0⟩ := hrel
      have HAL := Lib.hid hal; clear hal
      have q0 := o0.cell (j := 0) rfl
      have q1 := o0.cell (j := 1) rfl
      have q2 := o0.cell (j := 2) rfl
      by_cases hlt : j < l.length
      · obtain ⟨b, off, rfl, hk⟩ := HR.out.at_ (by omega)
        obtain ⟨d0, d1, ⟨A', c', d2, rk⟩, dl⟩ := (hk j hlt).kept K0
        clear hk
        have g0 : (0 : Int) ≤ (j : Int) := by omega
        have g1 : (j : Int) < (l.length : Int) := by omega
        have hkc := cnt_kid hlt
        have C := IH.out (kd l j) A' c' wr (by have := HC.out; omega) dl rk
        unfold fmV at C
        cases hsh : shpF (kd l j)
        all_goals
          rw [hsh] at C
          have HCC := Lib.hid C; clear C
          have HSH := Lib.hid hsh; clear hsh
          go_wp2_with fail
          refine HCC.out.mono ?_
          rintro e w1 ⟨rfl, k⟩
          replace K0 := kept_trans K0 k; replace o0 := o0.kept k
          go_wp2_with fail
        · go_ret
          exact ⟨ret_bool (by rw [HS.out, shpL_false.2 ⟨j, hlt, HSH.out⟩]; rfl), K0⟩
        · go_roundg (l.length - (j + 1))
          case rel => exact ⟨j + 1, by omega, rfl, by go_num, fun i h => by rcases Nat.lt_succ_iff_lt_or_eq.1 h with h | rfl; exact HAL.out i h; exact HSH.out, o0, K0⟩
          case measure => omega
      · have : j = l.length := by omega
        subst this
        go_wp2_with fail
        refine (shape92_any _ _ _ _).mono ?_
        rintro e w1 ⟨rfl, rfl⟩
        go_wp2_with fail
        go_ret
        exact ⟨ret_bool (by rw [HS.out, shpL_true.2 HAL.out]; rfl), K0⟩

set_option maxRecDepth 100000 in
set_option maxHeartbeats 1000000 in
theorem rvalid36_any (f : Fm) (A : Option Addr) (c : Nat) (w : World) (hc : cntF f ≤ 20000) (hd : depF f ≤ 1000) (hl : f.l.length ≤ 9223372036854775807) (hr : RK w A f.l) :
    Calls Try.prog 36 #[fmV f A c] w fun e w' => e = .returned (.bool (shpF f)) ∧ Kept w w' := by
  have C75 := Lib.hid fun (w' : World) (k : Kept w w') => count75_any (cntF f) f A c 1001 w' (Nat.le_refl _) hc hl (hr.kept k) (by omega) (by omega)
  have C76 := Lib.hid fun (w' : World) (k : Kept w w') => shape76_any (cntF f) f A c w' (Nat.le_refl _) hl (hr.kept k)
  unfold fmV at C75 C76 ⊢
  have o0 := Own.new w 52 [.int .i64 f.k, .int .i64 f.n, .slice A f.l.length c]
  have K0 : Kept w (w.alloc (.cells #[.int .i64 f.k, .int .i64 f.n, .slice A f.l.length c] 52)) := kept_alloc (kept_refl w) _
  have b1 : decide ((cntF f : Int) ≤ 20000) = true := decide_eq_true (by omega)
  have b2 : decide (cntF f ≤ 20000) = true := decide_eq_true hc
  have b3 : decide ((depF f : Int) ≤ 1000) = true := decide_eq_true (by omega)
  have b4 : decide (depF f ≤ 1000) = true := decide_eq_true hd
  clear hr hl
  go_enter Try.func36, Try.ntmps36
  go_wp2_with fail
  refine (C75.out _ K0).mono ?_
  rintro e w1 ⟨rfl, k⟩
  replace K0 := kept_trans K0 k; replace o0 := o0.kept k
  have q0 := o0.cell (j := 0) rfl
  have q1 := o0.cell (j := 1) rfl
  have q2 := o0.cell (j := 2) rfl
  go_wp2_with fail
  refine (C76.out _ K0).mono ?_
  rintro e w2 ⟨rfl, k2⟩
  go_wp2_with fail
  go_ret
  exact ⟨ret_bool (by simp), kept_trans K0 k2⟩

theorem inp_bounds : ∀ (N : Nat) (f : Fm), cntF f ≤ N → shpF f = true → 0 ≤ inpF f ∧ inpF f ≤ 16 := by
  intro N
  induction N with
  | zero => intro f h; have := cntF_pos f; omega
  | succ N ih =>
    intro f hc hs
    rw [shpF_eq, Bool.and_eq_true] at hs
    have key : ∀ l : List Fm, cntL l ≤ N → shpL l = true → 0 ≤ inpL l ∧ inpL l ≤ 16 := by
      intro l
      induction l with
      | nil => intro _ _; simp [inpL]
      | cons g gs ih2 =>
        intro h2 h3
        rw [cntL] at h2
        rw [shpL, Bool.and_eq_true] at h3
        rw [inpL]
        have := ih g (by omega) h3.1
        have := ih2 (by omega) h3.2
        omega
    have h1 := key f.l (by rw [cntF_eq] at hc; omega) hs.1
    have h2 := node_cases hs.2
    rw [inpF_eq]
    split <;> omega
set_option maxRecDepth 100000 in
set_option maxHeartbeats 1000000 in
theorem rinputs37_any : ∀ (N : Nat) (f : Fm) (A : Option Addr) (c : Nat) (w : World), cntF f ≤ N → shpF f = true → f.l.length ≤ 9223372036854775807 → RK w A f.l →
    Calls Try.prog 37 #[fmV f A c] w fun e w' => e = .returned (.int .i64 (inpF f)) ∧ Kept w w' := by
  intro N
  induction N with
  | zero => intro f A c w h; have := cntF_pos f; omega
  | succ N ih =>
    intro f A c w hc hs hl hr
    have IH := Lib.hid ih; clear ih
    have HR := Lib.hid hr; clear hr
    unfold fmV
    have o0 := Own.new w 52 [.int .i64 f.k, .int .i64 f.n, .slice A f.l.length c]
    have K0 : Kept w (w.alloc (.cells #[.int .i64 f.k, .int .i64 f.n, .slice A f.l.length c] 52)) := kept_alloc (kept_refl w) _
    have hb := inp_bounds _ f (Nat.le_refl _) hs
    have hcn := cntF_eq f
    have hin := inpF_eq f
    rw [shpF_eq, Bool.and_eq_true] at hs
    have hnc := node_cases hs.2
    have hsl := shpL_true.1 hs.1
    have HC := Lib.hid hcn; have HI := Lib.hid hin; have HS := Lib.hid hsl; clear hcn hin hsl hs
    obtain ⟨l, hle⟩ : ∃ l, l = f.l := ⟨_, rfl⟩
    rw [← hle] at hl HR o0 K0 HC HI HS ⊢
    clear hle
    obtain ⟨a, ha⟩ : ∃ a : Int, a = if f.k = 0 then f.n + 1 else 0 := ⟨_, rfl⟩
    rw [← ha] at HI
    have ha0 : 0 ≤ a ∧ a ≤ 16 := by split at ha <;> omega
    by_cases hk0 : f.k = 0
    case' pos =>
      have hkb : (f.k == 0) = true := beq_iff_eq.2 hk0
      rw [if_pos hk0] at ha
      have hn16 : 0 ≤ f.n ∧ f.n < 16 := by omega
    case' neg =>
      have hkb : (f.k == 0) = false := beq_eq_false_iff_ne.2 hk0
      rw [if_neg hk0] at ha
    all_goals
      have HA := Lib.hid ha; clear ha hk0 hnc
      go_enter Try.func37, Try.ntmps37
      go_wp2_with fail
      go_loopg [3, 4] l.length (fun g' s3 s4 wr => ∃ j : Nat, j ≤ l.length ∧ g' = l.length - j ∧ s4 = .int .i64 j ∧ s3 = .int .i64 (max a (inpL (l.take j))) ∧ Own wr w.heap.size 52 [.int .i64 f.k, .int .i64 f.n, .slice A l.length c] ∧ Kept w wr)
      case atStart => exact ⟨0, by omega, rfl, rfl, congrArg (Value.int .i64) (by have := HA.out; simp [inpL]; omega), o0, K0⟩
      case round =>
        clear o0 K0
        obtain ⟨j, hj, rfl, rfl, rfl, o0, K0⟩ := hrel
        have q0 := o0.cell (j := 0) rfl
        have q1 := o0.cell (j := 1) rfl
        have q2 := o0.cell (j := 2) rfl
        by_cases hlt : j < l.length
        · obtain ⟨b, off, rfl, hk⟩ := HR.out.at_ (by omega)
          obtain ⟨d0, d1, ⟨A', c', d2, rk⟩, dl⟩ := (hk j hlt).kept K0
          clear hk
          have g0 : (0 : Int) ≤ (j : Int) := by omega
          have g1 : (j : Int) < (l.length : Int) := by omega
          have hkc := cnt_kid hlt
          have C := IH.out (kd l j) A' c' wr (by have := HC.out; omega) (HS.out j hlt) dl rk
          unfold fmV at C
          obtain ⟨u, hu⟩ : ∃ u, u = inpF (kd l j) := ⟨_, rfl⟩
          rw [← hu] at C
          obtain ⟨v, hv⟩ : ∃ v, v = max a (inpL (l.take j)) := ⟨_, rfl⟩
          rw [← hv]
          have HCC := Lib.hid C; clear C
          have HU := Lib.hid hu; have HV := Lib.hid hv; clear hu hv
          go_wp2_with fail
          refine HCC.out.mono ?_
          rintro e w1 ⟨rfl, k⟩
          replace K0 := kept_trans K0 k; replace o0 := o0.kept k
          go_wp2_with fail
          all_goals
            go_roundg (l.length - (j + 1))
            case rel => exact ⟨j + 1, by omega, rfl, by go_num, congrArg (Value.int .i64) (by have := HU.out; have := HV.out; have := inpL_take hlt; omega), o0, K0⟩
            case measure => omega
        · have : j = l.length := by omega
          subst this
          obtain ⟨v, hv⟩ : ∃ v, v = max a (inpL (l.take l.length)) := ⟨_, rfl⟩
          rw [← hv]
          have HV := Lib.hid hv; clear hv
          go_wp2_with fail
          go_ret
          exact ⟨ret_int (by have := HV.out; rw [List.take_length] at this; rw [this, HI.out]), K0⟩

set_option maxRecDepth 100000 in
set_option maxHeartbeats 1000000 in
theorem apply77_any (k : Int) (a b : Bool) (w : World) : Calls Try.prog 77 #[.int .i64 k, .bool a, .bool b] w fun e w' => e = .returned (.bool (appB k a b)) ∧ w = w' := by
  by_cases k2 : k = 2
  · subst k2
    cases a
    all_goals
      go_enter Try.func77, Try.ntmps77
      go_wp2_with fail
      go_ret
      exact ⟨ret_bool (by unfold appB; simp), rfl⟩
  · have b2 : (k == 2) = false := beq_eq_false_iff_ne.2 k2
    by_cases k3 : k = 3
    · subst k3
      cases a <;> cases b
      all_goals
        go_enter Try.func77, Try.ntmps77
        go_wp2_with fail
        go_ret
        exact ⟨ret_bool (by unfold appB; simp), rfl⟩
    · have b3 : (k == 3) = false := beq_eq_false_iff_ne.2 k3
      by_cases k4 : k = 4
      · subst k4
        cases a <;> cases b
        all_goals
          go_enter Try.func77, Try.ntmps77
          go_wp2_with fail
          go_ret
          exact ⟨ret_bool (by unfold appB; simp), rfl⟩
      · have b4 : (k == 4) = false := beq_eq_false_iff_ne.2 k4
        have e : appB k a b = (a != b) := by unfold appB; rw [if_neg k2, if_neg k3, if_neg k4]
        rw [e]
        clear k2 k3 k4 e
        cases a <;> cases b
        all_goals
          go_enter Try.func77, Try.ntmps77
          go_wp2_with fail
          go_ret
          exact ⟨ret_bool (by simp), rfl⟩
end Go.Proofs.Ytinpmdekdfgiiaa

/- Formulas: Few, values and weights, in the reference. -/
set_option linter.unusedVariables false
set_option linter.unusedSimpArgs false
namespace Go.Proofs.Ytinpmdekdfgiiaa
open Go.RowKit

set_option maxRecDepth 100000 in
set_option maxHeartbeats 1000000 in
theorem few35_any (most : Int) (f : Fm) (B : Option Addr) (cB : Nat) (w : World) (hm0 : 0 ≤ most) (hm1 : most ≤ 1000000) (hr : RK w B [f]) :
    Calls Try.prog 35 #[.int .i64 most, .slice B 1 cB] w fun e w' => e = .returned (.bool (decide ((cntF f : Int) ≤ most))) ∧ Kept w w' := by
  obtain ⟨b, off, rfl, hk⟩ := hr.at_ (by simp)
  have hk0 := hk 0 (by simp)
  rw [kd_zero, Nat.zero_mul, Nat.add_zero] at hk0
  obtain ⟨d0, d1, ⟨A', c', d2, rk⟩, dl⟩ := hk0
  have C := weigh_any most hm0 hm1 (cntF f) f A' c' 0 w (Nat.le_refl _) dl rk (by omega) (by omega)
  unfold fmV at C
  rw [Int.zero_add] at C
  obtain ⟨v, hv⟩ : ∃ v, v = min (cntF f : Int) (most + 1) := ⟨_, rfl⟩
  rw [← hv] at C
  have HC := Lib.hid C; clear C hk hr
  have hdec : decide ((cntF f : Int) ≤ most) = decide (v ≤ most) := by
    by_cases h : (cntF f : Int) ≤ most
    · rw [decide_eq_true h, decide_eq_true (by omega)]
    · rw [decide_eq_false h, decide_eq_false (by omega)]
  rw [hdec]
  have hv0 : 0 ≤ v := by omega
  have hm : decide ((0 : Int) ≤ most) = true := decide_eq_true hm0
  clear hdec hv
  go_enter Try.func35, Try.ntmps35
  go_wp2_with fail
  go_loopg [5, 6] 1 (fun g' s5 s6 wr => (g' = 1 ∧ s6 = .int .i64 0 ∧ s5 = .int .i64 0 ∧ w = wr) ∨ (g' = 0 ∧ s6 = .int .i64 1 ∧ s5 = .int .i64 v ∧ Kept w wr))
  case atStart => exact .inl ⟨rfl, rfl, rfl, rfl⟩
  case round =>
    rcases hrel with ⟨rfl, rfl, rfl, rfl⟩ | ⟨rfl, rfl, rfl, K⟩
    · go_wp2_with fail
      refine HC.out.mono ?_
      rintro e w1 ⟨rfl, k⟩
      go_wp2_with fail
      go_roundg 0
      case rel => exact .inr ⟨rfl, rfl, rfl, k⟩
      case measure => omega
    · cases hd : decide (v ≤ most)
      all_goals
        go_wp2_with fail
        go_ret
        exact ⟨ret_bool (by simp_all), K⟩

theorem fm_cases {f : Fm} (h : shpF f = true) : (∃ n, f = .mk 0 n [] ∧ 0 ≤ n ∧ n < 16) ∨ (f = .mk 1 0 [] ∨ f = .mk 1 1 []) ∨ (∃ g, f = .mk 2 0 [g] ∧ shpF g = true) ∨ ∃ k g h, (k = 3 ∨ k = 4 ∨ k = 5) ∧ f = .mk k 0 [g, h] ∧ shpF g = true ∧ shpF h = true := by
  rw [shpF_eq, Bool.and_eq_true] at h
  obtain ⟨hs, hn⟩ := h
  cases f with
  | mk k n l =>
    have hc := node_cases hn
    simp only [Fm.k, Fm.n, Fm.l] at hc hs
    rcases hc with ⟨rfl, n0, n1, m0⟩ | ⟨rfl, n1, m0⟩ | ⟨rfl, rfl, m1⟩ | ⟨k3, rfl, m2⟩
    · obtain rfl := List.eq_nil_of_length_eq_zero m0
      exact .inl ⟨n, rfl, n0, n1⟩
    · obtain rfl := List.eq_nil_of_length_eq_zero m0
      rcases n1 with rfl | rfl
      · exact .inr (.inl (.inl rfl))
      · exact .inr (.inl (.inr rfl))
    · match l, m1 with
      | [g], _ =>
        rw [shpL, Bool.and_eq_true] at hs
        exact .inr (.inr (.inl ⟨g, rfl, hs.1⟩))
    · match l, m2 with
      | [g, h], _ =>
        rw [shpL, shpL, Bool.and_eq_true, Bool.and_eq_true] at hs
        exact .inr (.inr (.inr ⟨k, g, h, k3, rfl, hs.1, hs.2.1⟩))
theorem rk_one {w : World} {A : Option Addr} {g : Fm} (h : RK w A [g]) : ∃ b off, A = some ⟨b, off, none⟩ ∧ KidAt w b off g := by
  obtain ⟨b, off, e, hk⟩ := h.at_ (by simp)
  have := hk 0 (by simp)
  rw [kd_zero, Nat.zero_mul, Nat.add_zero] at this
  exact ⟨b, off, e, this⟩
theorem rk_two {w : World} {A : Option Addr} {g h : Fm} (hr : RK w A [g, h]) : ∃ b off, A = some ⟨b, off, none⟩ ∧ KidAt w b off g ∧ KidAt w b (off + 3) h := by
  obtain ⟨b, off, e, hk⟩ := hr.at_ (by simp)
  have h0 := hk 0 (by simp)
  have h1 := hk 1 (by simp)
  rw [kd_zero, Nat.zero_mul, Nat.add_zero] at h0
  rw [kd_succ, kd_zero, Nat.one_mul] at h1
  exact ⟨b, off, e, h0, h1⟩
theorem cnt_one {k n : Int} {g : Fm} : cntF (.mk k n [g]) = 1 + cntF g := by simp [cntF, cntL]
theorem cnt_two {k n : Int} {g h : Fm} : cntF (.mk k n [g, h]) = 1 + cntF g + cntF h := by simp [cntF, cntL]; omega
theorem inp_one {k n : Int} {g : Fm} : inpF g ≤ inpF (.mk k n [g]) := by simp only [inpF, inpL]; omega
theorem inp_two {k n : Int} {g h : Fm} : inpF g ≤ inpF (.mk k n [g, h]) ∧ inpF h ≤ inpF (.mk k n [g, h]) := by simp only [inpF, inpL]; omega

set_option maxRecDepth 100000 in
set_option maxHeartbeats 1000000 in
theorem reval39_any (X : Option Addr) (x : List Bool) (cx : Nat) (hmx : x.length ≤ 140737488355328) : ∀ (N : Nat) (f : Fm) (A : Option Addr) (c : Nat) (w : World), cntF f ≤ N → shpF f = true → inpF f ≤ x.length → RK w A f.l → Rd w X (bools x) →
    Calls Try.prog 39 #[fmV f A c, .slice X x.length cx] w fun e w' => e = .returned (.bool (evF (xs x) f)) ∧ Kept w w' := by
  intro N
  induction N with
  | zero => intro f A c w h; have := cntF_pos f; omega
  | succ N ih =>
    intro f A c w hc hs hi hr hX
    have HX := Lib.hid hX; clear hX
    have C := fun (g : Fm) (A' : Option Addr) (c' : Nat) (w' : World) (k : Kept w w') (h1 : cntF g ≤ N) (h2 : shpF g = true) (h3 : inpF g ≤ x.length) (rk : RK w' A' g.l) => ih g A' c' w' h1 h2 h3 rk (HX.out.kept k)
    unfold fmV at C
    have HC := Lib.hid C; clear C ih
    rcases fm_cases hs with ⟨n, rfl, n0, n1⟩ | (rfl | rfl) | ⟨g, rfl, sg⟩ | ⟨k, g, h, hk, rfl, sg, sh⟩
    · change Calls Try.prog 39 #[.agg #[.int .i64 0, .int .i64 n, .slice A 0 c], .slice X x.length cx] w _
      have hn : n < x.length := by simp only [inpF, inpL] at hi; simp at hi; omega
      obtain ⟨bx, ox, rfl, hx⟩ := HX.out.bool (k := n.toNat) (by omega)
      have K0 : Kept w (w.alloc (.cells #[.int .i64 0, .int .i64 n, .slice A 0 c] 52)) := kept_alloc (kept_refl w) _
      have x0 := hx n.toNat (by omega)
      have zx : bx < w.heap.size := kept_lt (hx n.toNat (by omega))
      clear hx HC hi hs hc hr
      go_enter Try.func39, Try.ntmps39
      go_wp2_with fail
      go_ret
      exact ⟨ret_bool (by rw [ev_var _ rfl]; rfl), K0⟩
    · change Calls Try.prog 39 #[.agg #[.int .i64 1, .int .i64 0, .slice A 0 c], .slice X x.length cx] w _
      clear HC hi hs hc hr
      go_enter Try.func39, Try.ntmps39
      go_wp2_with fail
      go_ret
      exact ⟨ret_bool (by rw [ev_const _ rfl]; rfl), kept_alloc (kept_refl w) _⟩
    · change Calls Try.prog 39 #[.agg #[.int .i64 1, .int .i64 1, .slice A 0 c], .slice X x.length cx] w _
      clear HC hi hs hc hr
      go_enter Try.func39, Try.ntmps39
      go_wp2_with fail
      go_ret
      exact ⟨ret_bool (by rw [ev_const _ rfl]; rfl), kept_alloc (kept_refl w) _⟩
    · change Calls Try.prog 39 #[.agg #[.int .i64 2, .int .i64 0, .slice A 1 c], .slice X x.length cx] w _
      obtain ⟨b, off, rfl, hk⟩ := rk_one hr
      have K0 : Kept w (w.alloc (.cells #[.int .i64 2, .int .i64 0, .slice (some ⟨b, off, none⟩) 1 c] 52)) := kept_alloc (kept_refl w) _
      obtain ⟨d0, d1, ⟨A', c', d2, rk⟩, dl⟩ := hk.kept K0
      have C := HC.out g A' c' _ K0 (by rw [cnt_one] at hc; omega) sg (by have := inp_one (k := 2) (n := 0) (g := g); omega) rk
      have HCC := Lib.hid C
      clear C HC hi hs hc hr hk
      go_enter Try.func39, Try.ntmps39
      go_wp2_with fail
      refine HCC.out.mono ?_
      rintro e w1 ⟨rfl, k1⟩
      go_wp2_with fail
      go_ret
      exact ⟨ret_bool (by rw [ev_not (f := .mk 2 0 [g]) _ rfl rfl]; rfl), kept_trans K0 k1⟩
    · change Calls Try.prog 39 #[.agg #[.int .i64 k, .int .i64 0, .slice A 2 c], .slice X x.length cx] w _
      obtain ⟨b, off, rfl, hkg, hkh⟩ := rk_two hr
      have K0 : Kept w (w.alloc (.cells #[.int .i64 k, .int .i64 0, .slice (some ⟨b, off, none⟩) 2 c] 52)) := kept_alloc (kept_refl w) _
      have o0 := Own.new w 52 [.int .i64 k, .int .i64 0, .slice (some ⟨b, off, none⟩) 2 c]
      obtain ⟨d0, d1, ⟨A', c', d2, rk⟩, dl⟩ := hkg.kept K0
      obtain ⟨e0, e1, ⟨A2, c2, e2, rk2⟩, el⟩ := hkh.kept K0
      have hi2 := inp_two (k := k) (n := 0) (g := g) (h := h)
      have C1 := fun (w' : World) (kk : Kept (w.alloc (.cells #[.int .i64 k, .int .i64 0, .slice (some ⟨b, off, none⟩) 2 c] 52)) w') => HC.out g A' c' w' (kept_trans K0 kk) (by rw [cnt_two] at hc; omega) sg (by omega) (rk.kept kk)
      have C2 := fun (w' : World) (kk : Kept (w.alloc (.cells #[.int .i64 k, .int .i64 0, .slice (some ⟨b, off, none⟩) 2 c] 52)) w') => HC.out h A2 c2 w' (kept_trans K0 kk) (by rw [cnt_two] at hc; omega) sh (by omega) (rk2.kept kk)
      have he : appB k (evF (xs x) g) (evF (xs x) h) = evF (xs x) (.mk k 0 [g, h]) := by
        rcases hk with rfl | rfl | rfl
        · rw [ev_and (f := .mk 3 0 [g, h]) _ rfl rfl]; rfl
        · rw [ev_or (f := .mk 4 0 [g, h]) _ rfl rfl]; rfl
        · rw [ev_xor (f := .mk 5 0 [g, h]) _ rfl rfl]; rfl
      have HE := Lib.hid he
      have b0 : (k == 0) = false := beq_eq_false_iff_ne.2 (by omega)
      have b1 : (k == 1) = false := beq_eq_false_iff_ne.2 (by omega)
      have b2 : (k == 2) = false := beq_eq_false_iff_ne.2 (by omega)
      obtain ⟨W, hW⟩ : ∃ W, W = w.alloc (.cells #[.int .i64 k, .int .i64 0, .slice (some ⟨b, off, none⟩) 2 c] 52) := ⟨_, rfl⟩
      rw [← hW] at C1 C2 K0 o0 d0 d1 d2 e0 e1 e2
      have HC1 := Lib.hid C1; have HC2 := Lib.hid C2
      have q0 := o0.cell (j := 0) rfl
      have q1 := o0.cell (j := 1) rfl
      have q2 := o0.cell (j := 2) rfl
      have HW := Lib.hid hW
      clear C1 C2 HC hi hi2 hs hc hr he hk hkg hkh rk rk2 hW
      go_enter Try.func39, Try.ntmps39
      go_wp2_with fail
      rw [← HW.out]
      refine region_x (fun w' => Kept W w') [] (by kernel_rfl) (kept_drew (kept_refl _)) (fun hHeld => ?_)
      refine x_take (i := 0) (oi := { dst := some 28, op := Op.fieldAddr 52 (Operand.tmp 2) 0, type := 0, pos := "ref.go:123", after := #[], guard := none }) (v := ?_) rfl (by kernel_rfl) (by kernel_rfl) (by kernel_rfl) (by kernel_rfl) (by kernel_rfl) (fun _ _ _ h => h) (Or.inl ⟨rfl, ?_⟩) (by assumption) ?_
      rotate_left
      · (intro w' hSw; replace q0 := kept_cell hSw q0; replace q1 := kept_cell hSw q1; replace q2 := kept_cell hSw q2; replace d0 := kept_cell hSw d0; replace d1 := kept_cell hSw d1; replace d2 := kept_cell hSw d2; replace e0 := kept_cell hSw e0; replace e1 := kept_cell hSw e1; replace e2 := kept_cell hSw e2; go_simp; try with_reducible rfl)
      try simp only [Act.put, List.setIfInBounds_toArray, List.set_cons_zero, List.set_cons_succ]
      refine x_take (i := 1) (oi := { dst := some 29, op := Op.load 3 (Operand.tmp 28), type := 3, pos := "ref.go:123", after := #[{ on := 0, ground := Ground.data }], guard := none }) (v := ?_) rfl (by kernel_rfl) (by kernel_rfl) (by kernel_rfl) (by kernel_rfl) (by kernel_rfl) (fun _ _ _ h => h) (Or.inl ⟨rfl, ?_⟩) (by assumption) ?_
      rotate_left
      · (intro w' hSw; replace q0 := kept_cell hSw q0; replace q1 := kept_cell hSw q1; replace q2 := kept_cell hSw q2; replace d0 := kept_cell hSw d0; replace d1 := kept_cell hSw d1; replace d2 := kept_cell hSw d2; replace e0 := kept_cell hSw e0; replace e1 := kept_cell hSw e1; replace e2 := kept_cell hSw e2; go_simp; try with_reducible rfl)
      try simp only [Act.put, List.setIfInBounds_toArray, List.set_cons_zero, List.set_cons_succ]
      refine x_take (i := 2) (oi := { dst := some 30, op := Op.fieldAddr 52 (Operand.tmp 2) 2, type := 0, pos := "ref.go:123", after := #[], guard := none }) (v := ?_) rfl (by kernel_rfl) (by kernel_rfl) (by kernel_rfl) (by kernel_rfl) (by kernel_rfl) (fun _ _ _ h => h) (Or.inl ⟨rfl, ?_⟩) (by assumption) ?_
      rotate_left
      · (intro w' hSw; replace q0 := kept_cell hSw q0; replace q1 := kept_cell hSw q1; replace q2 := kept_cell hSw q2; replace d0 := kept_cell hSw d0; replace d1 := kept_cell hSw d1; replace d2 := kept_cell hSw d2; replace e0 := kept_cell hSw e0; replace e1 := kept_cell hSw e1; replace e2 := kept_cell hSw e2; go_simp; try with_reducible rfl)
      try simp only [Act.put, List.setIfInBounds_toArray, List.set_cons_zero, List.set_cons_succ]
      refine x_take (i := 3) (oi := { dst := some 31, op := Op.load 50 (Operand.tmp 30), type := 50, pos := "ref.go:123", after := #[{ on := 2, ground := Ground.data }], guard := none }) (v := ?_) rfl (by kernel_rfl) (by kernel_rfl) (by kernel_rfl) (by kernel_rfl) (by kernel_rfl) (fun _ _ _ h => h) (Or.inl ⟨rfl, ?_⟩) (by assumption) ?_
      rotate_left
      · (intro w' hSw; replace q0 := kept_cell hSw q0; replace q1 := kept_cell hSw q1; replace q2 := kept_cell hSw q2; replace d0 := kept_cell hSw d0; replace d1 := kept_cell hSw d1; replace d2 := kept_cell hSw d2; replace e0 := kept_cell hSw e0; replace e1 := kept_cell hSw e1; replace e2 := kept_cell hSw e2; go_simp; try with_reducible rfl)
      try simp only [Act.put, List.setIfInBounds_toArray, List.set_cons_zero, List.set_cons_succ]
      refine x_take (i := 4) (oi := { dst := some 32, op := Op.indexAddr 50 (Operand.tmp 31) (Operand.const (Value.int IntKind.i64 0)), type := 0, pos := "ref.go:123", after := #[{ on := 3, ground := Ground.data }], guard := none }) (v := ?_) rfl (by kernel_rfl) (by kernel_rfl) (by kernel_rfl) (by kernel_rfl) (by kernel_rfl) (fun _ _ _ h => h) (Or.inl ⟨rfl, ?_⟩) (by assumption) ?_
      rotate_left
      · (intro w' hSw; replace q0 := kept_cell hSw q0; replace q1 := kept_cell hSw q1; replace q2 := kept_cell hSw q2; replace d0 := kept_cell hSw d0; replace d1 := kept_cell hSw d1; replace d2 := kept_cell hSw d2; replace e0 := kept_cell hSw e0; replace e1 := kept_cell hSw e1; replace e2 := kept_cell hSw e2; go_simp; try with_reducible rfl)
      try simp only [Act.put, List.setIfInBounds_toArray, List.set_cons_zero, List.set_cons_succ]
      refine x_take (i := 5) (oi := { dst := some 33, op := Op.load 52 (Operand.tmp 32), type := 52, pos := "ref.go:123", after := #[{ on := 4, ground := Ground.data }], guard := none }) (v := ?_) rfl (by kernel_rfl) (by kernel_rfl) (by kernel_rfl) (by kernel_rfl) (by kernel_rfl) (fun _ _ _ h => h) (Or.inl ⟨rfl, ?_⟩) (by assumption) ?_
      rotate_left
      · (intro w' hSw; replace q0 := kept_cell hSw q0; replace q1 := kept_cell hSw q1; replace q2 := kept_cell hSw q2; replace d0 := kept_cell hSw d0; replace d1 := kept_cell hSw d1; replace d2 := kept_cell hSw d2; replace e0 := kept_cell hSw e0; replace e1 := kept_cell hSw e1; replace e2 := kept_cell hSw e2; go_simp; try with_reducible rfl)
      try simp only [Act.put, List.setIfInBounds_toArray, List.set_cons_zero, List.set_cons_succ]
      refine x_take (i := 6) (oi := { dst := some 34, op := Op.move (Operand.tmp 1), type := 29, pos := "ref.go:123", after := #[], guard := none }) (v := ?_) rfl (by kernel_rfl) (by kernel_rfl) (by kernel_rfl) (by kernel_rfl) (by kernel_rfl) (fun _ _ _ h => h) (Or.inl ⟨rfl, ?_⟩) (by assumption) ?_
      rotate_left
      · (intro w' hSw; replace q0 := kept_cell hSw q0; replace q1 := kept_cell hSw q1; replace q2 := kept_cell hSw q2; replace d0 := kept_cell hSw d0; replace d1 := kept_cell hSw d1; replace d2 := kept_cell hSw d2; replace e0 := kept_cell hSw e0; replace e1 := kept_cell hSw e1; replace e2 := kept_cell hSw e2; go_simp; try with_reducible rfl)
      try simp only [Act.put, List.setIfInBounds_toArray, List.set_cons_zero, List.set_cons_succ]
      refine x_take (i := 8) (oi := { dst := some 36, op := Op.fieldAddr 52 (Operand.tmp 2) 2, type := 0, pos := "ref.go:123", after := #[], guard := none }) (v := ?_) rfl (by kernel_rfl) (by kernel_rfl) (by kernel_rfl) (by kernel_rfl) (by kernel_rfl) (fun _ _ _ h => h) (Or.inl ⟨rfl, ?_⟩) (by assumption) ?_
      rotate_left
      · (intro w' hSw; replace q0 := kept_cell hSw q0; replace q1 := kept_cell hSw q1; replace q2 := kept_cell hSw q2; replace d0 := kept_cell hSw d0; replace d1 := kept_cell hSw d1; replace d2 := kept_cell hSw d2; replace e0 := kept_cell hSw e0; replace e1 := kept_cell hSw e1; replace e2 := kept_cell hSw e2; go_simp; try with_reducible rfl)
      try simp only [Act.put, List.setIfInBounds_toArray, List.set_cons_zero, List.set_cons_succ]
      refine x_take (i := 9) (oi := { dst := some 37, op := Op.load 50 (Operand.tmp 36), type := 50, pos := "ref.go:123", after := #[{ on := 8, ground := Ground.data }], guard := none }) (v := ?_) rfl (by kernel_rfl) (by kernel_rfl) (by kernel_rfl) (by kernel_rfl) (by kernel_rfl) (fun _ _ _ h => h) (Or.inl ⟨rfl, ?_⟩) (by assumption) ?_
      rotate_left
      · (intro w' hSw; replace q0 := kept_cell hSw q0; replace q1 := kept_cell hSw q1; replace q2 := kept_cell hSw q2; replace d0 := kept_cell hSw d0; replace d1 := kept_cell hSw d1; replace d2 := kept_cell hSw d2; replace e0 := kept_cell hSw e0; replace e1 := kept_cell hSw e1; replace e2 := kept_cell hSw e2; go_simp; try with_reducible rfl)
      try simp only [Act.put, List.setIfInBounds_toArray, List.set_cons_zero, List.set_cons_succ]
      refine x_take (i := 10) (oi := { dst := some 38, op := Op.indexAddr 50 (Operand.tmp 37) (Operand.const (Value.int IntKind.i64 1)), type := 0, pos := "ref.go:123", after := #[{ on := 9, ground := Ground.data }], guard := none }) (v := ?_) rfl (by kernel_rfl) (by kernel_rfl) (by kernel_rfl) (by kernel_rfl) (by kernel_rfl) (fun _ _ _ h => h) (Or.inl ⟨rfl, ?_⟩) (by assumption) ?_
      rotate_left
      · (intro w' hSw; replace q0 := kept_cell hSw q0; replace q1 := kept_cell hSw q1; replace q2 := kept_cell hSw q2; replace d0 := kept_cell hSw d0; replace d1 := kept_cell hSw d1; replace d2 := kept_cell hSw d2; replace e0 := kept_cell hSw e0; replace e1 := kept_cell hSw e1; replace e2 := kept_cell hSw e2; go_simp; try with_reducible rfl)
      try simp only [Act.put, List.setIfInBounds_toArray, List.set_cons_zero, List.set_cons_succ]
      refine x_take (i := 11) (oi := { dst := some 39, op := Op.load 52 (Operand.tmp 38), type := 52, pos := "ref.go:123", after := #[{ on := 10, ground := Ground.data }], guard := none }) (v := ?_) rfl (by kernel_rfl) (by kernel_rfl) (by kernel_rfl) (by kernel_rfl) (by kernel_rfl) (fun _ _ _ h => h) (Or.inl ⟨rfl, ?_⟩) (by assumption) ?_
      rotate_left
      · (intro w' hSw; replace q0 := kept_cell hSw q0; replace q1 := kept_cell hSw q1; replace q2 := kept_cell hSw q2; replace d0 := kept_cell hSw d0; replace d1 := kept_cell hSw d1; replace d2 := kept_cell hSw d2; replace e0 := kept_cell hSw e0; replace e1 := kept_cell hSw e1; replace e2 := kept_cell hSw e2; go_simp; try with_reducible rfl)
      try simp only [Act.put, List.setIfInBounds_toArray, List.set_cons_zero, List.set_cons_succ]
      refine x_take (i := 12) (oi := { dst := some 40, op := Op.move (Operand.tmp 1), type := 29, pos := "ref.go:123", after := #[], guard := none }) (v := ?_) rfl (by kernel_rfl) (by kernel_rfl) (by kernel_rfl) (by kernel_rfl) (by kernel_rfl) (fun _ _ _ h => h) (Or.inl ⟨rfl, ?_⟩) (by assumption) ?_
      rotate_left
      · (intro w' hSw; replace q0 := kept_cell hSw q0; replace q1 := kept_cell hSw q1; replace q2 := kept_cell hSw q2; replace d0 := kept_cell hSw d0; replace d1 := kept_cell hSw d1; replace d2 := kept_cell hSw d2; replace e0 := kept_cell hSw e0; replace e1 := kept_cell hSw e1; replace e2 := kept_cell hSw e2; go_simp; try with_reducible rfl)
      try simp only [Act.put, List.setIfInBounds_toArray, List.set_cons_zero, List.set_cons_succ]
      refine x_one (i := 7) (o := { dst := some 35, op := Op.call { callee := Callee.value (Operand.func 39), args := #[Operand.tmp 33, Operand.tmp 34], argTypes := #[52, 29] }, type := 4, pos := "ref.go:123", after := #[{ on := 5, ground := Ground.data }, { on := 6, ground := Ground.data }], guard := none }) (by kernel_rfl) rfl (fun K hK => ?_)
      (go_simp; go_at_call 39; refine (HC1.out _ hHeld).mono ?_; rintro e w3 ⟨rfl, k3⟩; have KK3 : Kept W w3 := kept_trans hHeld k3; try dsimp only)
      refine hK.out _ _ ?_ (fun hHeld => ?_)
      · (try dsimp only); repeat (first | assumption | exact kept_refl _ | refine kept_drew ?_ | refine kept_alloc ?_ _ | refine kept_set ?_ (by omega) _)
      clear hK K
      try simp only [Act.put, List.setIfInBounds_toArray, List.set_cons_zero, List.set_cons_succ]
      refine x_one (i := 13) (o := { dst := some 41, op := Op.call { callee := Callee.value (Operand.func 39), args := #[Operand.tmp 39, Operand.tmp 40], argTypes := #[52, 29] }, type := 4, pos := "ref.go:123", after := #[{ on := 11, ground := Ground.data }, { on := 12, ground := Ground.data }, { on := 7, ground := Ground.chain }], guard := none }) (by kernel_rfl) rfl (fun K hK => ?_)
      (go_simp; go_at_call 39; refine (HC2.out _ hHeld).mono ?_; rintro e w4 ⟨rfl, k4⟩; have KK4 : Kept W w4 := kept_trans KK3 k4; try dsimp only)
      refine hK.out _ _ ?_ (fun hHeld => ?_)
      · (try dsimp only); repeat (first | assumption | exact kept_refl _ | refine kept_drew ?_ | refine kept_alloc ?_ _ | refine kept_set ?_ (by omega) _)
      clear hK K
      try simp only [Act.put, List.setIfInBounds_toArray, List.set_cons_zero, List.set_cons_succ]
      refine x_call (i := 14) (oi := { dst := some 42, op := Op.call { callee := Callee.value (Operand.func 77), args := #[Operand.tmp 29, Operand.tmp 35, Operand.tmp 41], argTypes := #[3, 4, 4] }, type := 4, pos := "ref.go:123", after := #[{ on := 1, ground := Ground.data }, { on := 7, ground := Ground.data }, { on := 13, ground := Ground.data }, { on := 13, ground := Ground.chain }], guard := none }) (v := _) rfl (by kernel_rfl) (by kernel_rfl) (by kernel_rfl) (by kernel_rfl) (by kernel_rfl) (fun _ _ _ h => h) rfl 77 _ ?_ (fun w' hSw => apply77_any k (evF (xs x) g) (evF (xs x) h) w') (by assumption) ?_
      · (intro w' hSw; go_simp; try with_reducible rfl)
      try simp only [Act.put, List.setIfInBounds_toArray, List.set_cons_zero, List.set_cons_succ]
      refine x_take (i := 15) (oi := { dst := some 4, op := Op.assign (Operand.tmp 42), type := 4, pos := "ref.go:123", after := #[{ on := 14, ground := Ground.data }, { on := 14, ground := Ground.chain }, { on := 0, ground := Ground.phase }, { on := 1, ground := Ground.phase }, { on := 2, ground := Ground.phase }, { on := 3, ground := Ground.phase }, { on := 4, ground := Ground.phase }, { on := 5, ground := Ground.phase }, { on := 6, ground := Ground.phase }, { on := 7, ground := Ground.phase }, { on := 8, ground := Ground.phase }, { on := 9, ground := Ground.phase }, { on := 10, ground := Ground.phase }, { on := 11, ground := Ground.phase }, { on := 12, ground := Ground.phase }, { on := 13, ground := Ground.phase }, { on := 14, ground := Ground.phase }], guard := none }) (v := ?_) rfl (by kernel_rfl) (by kernel_rfl) (by kernel_rfl) (by kernel_rfl) (by kernel_rfl) (fun _ _ _ h => h) (Or.inl ⟨rfl, ?_⟩) (by assumption) ?_
      rotate_left
      · (intro w' hSw; replace q0 := kept_cell hSw q0; replace q1 := kept_cell hSw q1; replace q2 := kept_cell hSw q2; replace d0 := kept_cell hSw d0; replace d1 := kept_cell hSw d1; replace d2 := kept_cell hSw d2; replace e0 := kept_cell hSw e0; replace e1 := kept_cell hSw e1; replace e2 := kept_cell hSw e2; go_simp; try with_reducible rfl)
      try simp only [Act.put, List.setIfInBounds_toArray, List.set_cons_zero, List.set_cons_succ]
      refine x_done (by kernel_rfl) ?_ _
      go_wp2_with fail
      go_ret
      exact ⟨ret_bool (by rw [← HE.out]), kept_trans K0 KK4⟩

/-- The weight, at most a number above MaxNodes. -/
def wcF (f : Fm) : Nat := min (wgF f) 40000
set_option maxRecDepth 100000 in
set_option maxHeartbeats 1000000 in
theorem weight45_any : ∀ (N : Nat) (f : Fm) (A : Option Addr) (c : Nat) (w : World), cntF f ≤ N → shpF f = true → RK w A f.l →
    Calls Try.prog 45 #[fmV f A c] w fun e w' => e = .returned (.int .i64 (wcF f : Nat)) ∧ Kept w w' := by
  intro N
  induction N with
  | zero => intro f A c w h; have := cntF_pos f; omega
  | succ N ih =>
    intro f A c w hc hs hr
    have C := fun (g : Fm) (A' : Option Addr) (c' : Nat) (w' : World) (k : Kept w w') (h1 : cntF g ≤ N) (h2 : shpF g = true) (rk : RK w' A' g.l) => ih g A' c' w' h1 h2 rk
    unfold fmV at C
    have HC := Lib.hid C; clear C ih
    rcases fm_cases hs with ⟨n, rfl, n0, n1⟩ | (rfl | rfl) | ⟨g, rfl, sg⟩ | ⟨k, g, h, hk, rfl, sg, sh⟩
    · change Calls Try.prog 45 #[.agg #[.int .i64 0, .int .i64 n, .slice A 0 c]] w _
      clear HC hs hc hr
      go_enter Try.func45, Try.ntmps45
      go_wp2_with fail
      go_ret
      exact ⟨ret_int (by simp [wcF, wgF, wgK]), kept_alloc (kept_refl w) _⟩
    · change Calls Try.prog 45 #[.agg #[.int .i64 1, .int .i64 0, .slice A 0 c]] w _
      clear HC hs hc hr
      go_enter Try.func45, Try.ntmps45
      go_wp2_with fail
      go_ret
      exact ⟨ret_int (by simp [wcF, wgF, wgK]), kept_alloc (kept_refl w) _⟩
    · change Calls Try.prog 45 #[.agg #[.int .i64 1, .int .i64 1, .slice A 0 c]] w _
      clear HC hs hc hr
      go_enter Try.func45, Try.ntmps45
      go_wp2_with fail
      go_ret
      exact ⟨ret_int (by simp [wcF, wgF, wgK]), kept_alloc (kept_refl w) _⟩
    · change Calls Try.prog 45 #[.agg #[.int .i64 2, .int .i64 0, .slice A 1 c]] w _
      obtain ⟨b, off, rfl, hk⟩ := rk_one hr
      have K0 : Kept w (w.alloc (.cells #[.int .i64 2, .int .i64 0, .slice (some ⟨b, off, none⟩) 1 c] 52)) := kept_alloc (kept_refl w) _
      obtain ⟨d0, d1, ⟨A', c', d2, rk⟩, dl⟩ := hk.kept K0
      have C := HC.out g A' c' _ K0 (by rw [cnt_one] at hc; omega) sg rk
      have HCC := Lib.hid C
      clear C HC hs hc hr hk
      go_enter Try.func45, Try.ntmps45
      go_wp2_with fail
      refine HCC.out.mono ?_
      rintro e w1 ⟨rfl, k1⟩
      go_wp2_with fail
      go_ret
      exact ⟨ret_int (by simp [wcF, wgF, wgK, wgL]), kept_trans K0 k1⟩
    · change Calls Try.prog 45 #[.agg #[.int .i64 k, .int .i64 0, .slice A 2 c]] w _
      obtain ⟨b, off, rfl, hkg, hkh⟩ := rk_two hr
      have K0 : Kept w (w.alloc (.cells #[.int .i64 k, .int .i64 0, .slice (some ⟨b, off, none⟩) 2 c] 52)) := kept_alloc (kept_refl w) _
      have o0 := Own.new w 52 [.int .i64 k, .int .i64 0, .slice (some ⟨b, off, none⟩) 2 c]
      obtain ⟨d0, d1, ⟨A', c', d2, rk⟩, dl⟩ := hkg.kept K0
      obtain ⟨e0, e1, ⟨A2, c2, e2, rk2⟩, el⟩ := hkh.kept K0
      have C1 := fun (w' : World) (kk : Kept (w.alloc (.cells #[.int .i64 k, .int .i64 0, .slice (some ⟨b, off, none⟩) 2 c] 52)) w') => HC.out g A' c' w' (kept_trans K0 kk) (by rw [cnt_two] at hc; omega) sg (rk.kept kk)
      have C2 := fun (w' : World) (kk : Kept (w.alloc (.cells #[.int .i64 k, .int .i64 0, .slice (some ⟨b, off, none⟩) 2 c] 52)) w') => HC.out h A2 c2 w' (kept_trans K0 kk) (by rw [cnt_two] at hc; omega) sh (rk2.kept kk)
      have b0 : (k == 0) = false := beq_eq_false_iff_ne.2 (by omega)
      have b1 : (k == 1) = false := beq_eq_false_iff_ne.2 (by omega)
      have b2 : (k == 2) = false := beq_eq_false_iff_ne.2 (by omega)
      have ga : wcF g ≤ 40000 := by unfold wcF; omega
      have ha : wcF h ≤ 40000 := by unfold wcF; omega
      have hwe : wcF (.mk k 0 [g, h]) = if k = 5 then min (wcF g + 2 * wcF h) 40000 else min (wcF g + wcF h) 40000 := by
        unfold wcF
        rw [wgF, wgK, if_neg (by omega), if_neg (by omega), if_neg (by omega)]
        have e0 : (wgL [g, h]).getD 0 0 = wgF g := by simp [wgL]
        have e1 : (wgL [g, h]).getD 1 0 = wgF h := by simp [wgL]
        rw [e0, e1]
        split <;> omega
      obtain ⟨u, hu⟩ : ∃ u, u = wcF g := ⟨_, rfl⟩
      obtain ⟨v, hv⟩ : ∃ v, v = wcF h := ⟨_, rfl⟩
      rw [← hu] at C1 ga hwe
      rw [← hv] at C2 ha hwe
      obtain ⟨W, hW⟩ : ∃ W, W = w.alloc (.cells #[.int .i64 k, .int .i64 0, .slice (some ⟨b, off, none⟩) 2 c] 52) := ⟨_, rfl⟩
      rw [← hW] at C1 C2 K0 o0 d0 d1 d2 e0 e1 e2
      have HC1 := Lib.hid C1; have HC2 := Lib.hid C2
      have q0 := o0.cell (j := 0) rfl
      have q1 := o0.cell (j := 1) rfl
      have q2 := o0.cell (j := 2) rfl
      have HW := Lib.hid hW; have HWE := Lib.hid hwe
      have s1 : IntKind.i64.wrap (2 * (v : Int)) = 2 * (v : Int) := IntWalk.i64_in _ (by omega)
      have s2 : IntKind.i64.wrap ((u : Int) + 2 * (v : Int)) = (u : Int) + 2 * (v : Int) := IntWalk.i64_in _ (by omega)
      have s3 : IntKind.i64.wrap ((u : Int) + (v : Int)) = (u : Int) + (v : Int) := IntWalk.i64_in _ (by omega)
      clear C1 C2 HC hs hc hr hkg hkh rk rk2 hW hu hv hwe
      by_cases h5 : k = 5
      case' pos =>
        have b5 : (k == 5) = true := beq_iff_eq.2 h5
        have hre := HWE.out
        rw [if_pos h5] at hre
      case' neg =>
        have b5 : (k == 5) = false := beq_eq_false_iff_ne.2 h5
        have hre := HWE.out
        rw [if_neg h5] at hre
      all_goals
        have HRE := Lib.hid hre
        clear hre hk h5
        go_enter Try.func45, Try.ntmps45
        go_wp2_with fail
        rw [← HW.out]
      · skip
        refine region_x (fun w' => Kept W w') [] (by kernel_rfl) (kept_drew (kept_refl _)) (fun hHeld => ?_)
        refine x_take (i := 0) (oi := { dst := some 31, op := Op.fieldAddr 52 (Operand.tmp 1) 2, type := 0, pos := "ref.go:163", after := #[], guard := none }) (v := ?_) rfl (by kernel_rfl) (by kernel_rfl) (by kernel_rfl) (by kernel_rfl) (by kernel_rfl) (fun _ _ _ h => h) (Or.inl ⟨rfl, ?_⟩) (by assumption) ?_
        rotate_left
        · (intro w' hSw; replace q0 := kept_cell hSw q0; replace q1 := kept_cell hSw q1; replace q2 := kept_cell hSw q2; replace d0 := kept_cell hSw d0; replace d1 := kept_cell hSw d1; replace d2 := kept_cell hSw d2; replace e0 := kept_cell hSw e0; replace e1 := kept_cell hSw e1; replace e2 := kept_cell hSw e2; go_simp; try with_reducible rfl)
        try simp only [Act.put, List.setIfInBounds_toArray, List.set_cons_zero, List.set_cons_succ]
        refine x_take (i := 1) (oi := { dst := some 32, op := Op.load 50 (Operand.tmp 31), type := 50, pos := "ref.go:163", after := #[{ on := 0, ground := Ground.data }], guard := none }) (v := ?_) rfl (by kernel_rfl) (by kernel_rfl) (by kernel_rfl) (by kernel_rfl) (by kernel_rfl) (fun _ _ _ h => h) (Or.inl ⟨rfl, ?_⟩) (by assumption) ?_
        rotate_left
        · (intro w' hSw; replace q0 := kept_cell hSw q0; replace q1 := kept_cell hSw q1; replace q2 := kept_cell hSw q2; replace d0 := kept_cell hSw d0; replace d1 := kept_cell hSw d1; replace d2 := kept_cell hSw d2; replace e0 := kept_cell hSw e0; replace e1 := kept_cell hSw e1; replace e2 := kept_cell hSw e2; go_simp; try with_reducible rfl)
        try simp only [Act.put, List.setIfInBounds_toArray, List.set_cons_zero, List.set_cons_succ]
        refine x_take (i := 2) (oi := { dst := some 33, op := Op.indexAddr 50 (Operand.tmp 32) (Operand.const (Value.int IntKind.i64 0)), type := 0, pos := "ref.go:163", after := #[{ on := 1, ground := Ground.data }], guard := none }) (v := ?_) rfl (by kernel_rfl) (by kernel_rfl) (by kernel_rfl) (by kernel_rfl) (by kernel_rfl) (fun _ _ _ h => h) (Or.inl ⟨rfl, ?_⟩) (by assumption) ?_
        rotate_left
        · (intro w' hSw; replace q0 := kept_cell hSw q0; replace q1 := kept_cell hSw q1; replace q2 := kept_cell hSw q2; replace d0 := kept_cell hSw d0; replace d1 := kept_cell hSw d1; replace d2 := kept_cell hSw d2; replace e0 := kept_cell hSw e0; replace e1 := kept_cell hSw e1; replace e2 := kept_cell hSw e2; go_simp; try with_reducible rfl)
        try simp only [Act.put, List.setIfInBounds_toArray, List.set_cons_zero, List.set_cons_succ]
        refine x_take (i := 3) (oi := { dst := some 34, op := Op.load 52 (Operand.tmp 33), type := 52, pos := "ref.go:163", after := #[{ on := 2, ground := Ground.data }], guard := none }) (v := ?_) rfl (by kernel_rfl) (by kernel_rfl) (by kernel_rfl) (by kernel_rfl) (by kernel_rfl) (fun _ _ _ h => h) (Or.inl ⟨rfl, ?_⟩) (by assumption) ?_
        rotate_left
        · (intro w' hSw; replace q0 := kept_cell hSw q0; replace q1 := kept_cell hSw q1; replace q2 := kept_cell hSw q2; replace d0 := kept_cell hSw d0; replace d1 := kept_cell hSw d1; replace d2 := kept_cell hSw d2; replace e0 := kept_cell hSw e0; replace e1 := kept_cell hSw e1; replace e2 := kept_cell hSw e2; go_simp; try with_reducible rfl)
        try simp only [Act.put, List.setIfInBounds_toArray, List.set_cons_zero, List.set_cons_succ]
        refine x_take (i := 5) (oi := { dst := some 36, op := Op.fieldAddr 52 (Operand.tmp 1) 2, type := 0, pos := "ref.go:163", after := #[], guard := none }) (v := ?_) rfl (by kernel_rfl) (by kernel_rfl) (by kernel_rfl) (by kernel_rfl) (by kernel_rfl) (fun _ _ _ h => h) (Or.inl ⟨rfl, ?_⟩) (by assumption) ?_
        rotate_left
        · (intro w' hSw; replace q0 := kept_cell hSw q0; replace q1 := kept_cell hSw q1; replace q2 := kept_cell hSw q2; replace d0 := kept_cell hSw d0; replace d1 := kept_cell hSw d1; replace d2 := kept_cell hSw d2; replace e0 := kept_cell hSw e0; replace e1 := kept_cell hSw e1; replace e2 := kept_cell hSw e2; go_simp; try with_reducible rfl)
        try simp only [Act.put, List.setIfInBounds_toArray, List.set_cons_zero, List.set_cons_succ]
        refine x_take (i := 6) (oi := { dst := some 37, op := Op.load 50 (Operand.tmp 36), type := 50, pos := "ref.go:163", after := #[{ on := 5, ground := Ground.data }], guard := none }) (v := ?_) rfl (by kernel_rfl) (by kernel_rfl) (by kernel_rfl) (by kernel_rfl) (by kernel_rfl) (fun _ _ _ h => h) (Or.inl ⟨rfl, ?_⟩) (by assumption) ?_
        rotate_left
        · (intro w' hSw; replace q0 := kept_cell hSw q0; replace q1 := kept_cell hSw q1; replace q2 := kept_cell hSw q2; replace d0 := kept_cell hSw d0; replace d1 := kept_cell hSw d1; replace d2 := kept_cell hSw d2; replace e0 := kept_cell hSw e0; replace e1 := kept_cell hSw e1; replace e2 := kept_cell hSw e2; go_simp; try with_reducible rfl)
        try simp only [Act.put, List.setIfInBounds_toArray, List.set_cons_zero, List.set_cons_succ]
        refine x_take (i := 7) (oi := { dst := some 38, op := Op.indexAddr 50 (Operand.tmp 37) (Operand.const (Value.int IntKind.i64 1)), type := 0, pos := "ref.go:163", after := #[{ on := 6, ground := Ground.data }], guard := none }) (v := ?_) rfl (by kernel_rfl) (by kernel_rfl) (by kernel_rfl) (by kernel_rfl) (by kernel_rfl) (fun _ _ _ h => h) (Or.inl ⟨rfl, ?_⟩) (by assumption) ?_
        rotate_left
        · (intro w' hSw; replace q0 := kept_cell hSw q0; replace q1 := kept_cell hSw q1; replace q2 := kept_cell hSw q2; replace d0 := kept_cell hSw d0; replace d1 := kept_cell hSw d1; replace d2 := kept_cell hSw d2; replace e0 := kept_cell hSw e0; replace e1 := kept_cell hSw e1; replace e2 := kept_cell hSw e2; go_simp; try with_reducible rfl)
        try simp only [Act.put, List.setIfInBounds_toArray, List.set_cons_zero, List.set_cons_succ]
        refine x_take (i := 8) (oi := { dst := some 39, op := Op.load 52 (Operand.tmp 38), type := 52, pos := "ref.go:163", after := #[{ on := 7, ground := Ground.data }], guard := none }) (v := ?_) rfl (by kernel_rfl) (by kernel_rfl) (by kernel_rfl) (by kernel_rfl) (by kernel_rfl) (fun _ _ _ h => h) (Or.inl ⟨rfl, ?_⟩) (by assumption) ?_
        rotate_left
        · (intro w' hSw; replace q0 := kept_cell hSw q0; replace q1 := kept_cell hSw q1; replace q2 := kept_cell hSw q2; replace d0 := kept_cell hSw d0; replace d1 := kept_cell hSw d1; replace d2 := kept_cell hSw d2; replace e0 := kept_cell hSw e0; replace e1 := kept_cell hSw e1; replace e2 := kept_cell hSw e2; go_simp; try with_reducible rfl)
        try simp only [Act.put, List.setIfInBounds_toArray, List.set_cons_zero, List.set_cons_succ]
        refine x_one (i := 4) (o := { dst := some 35, op := Op.call { callee := Callee.value (Operand.func 45), args := #[Operand.tmp 34], argTypes := #[52] }, type := 3, pos := "ref.go:163", after := #[{ on := 3, ground := Ground.data }], guard := none }) (by kernel_rfl) rfl (fun K hK => ?_)
        (go_simp; go_at_call 45; refine (HC1.out _ hHeld).mono ?_; rintro e w3 ⟨rfl, k3⟩; have KK3 : Kept W w3 := kept_trans hHeld k3; try dsimp only)
        refine hK.out _ _ ?_ (fun hHeld => ?_)
        · (try dsimp only); repeat (first | assumption | exact kept_refl _ | refine kept_drew ?_ | refine kept_alloc ?_ _ | refine kept_set ?_ (by omega) _)
        clear hK K
        try simp only [Act.put, List.setIfInBounds_toArray, List.set_cons_zero, List.set_cons_succ]
        refine x_one (i := 9) (o := { dst := some 40, op := Op.call { callee := Callee.value (Operand.func 45), args := #[Operand.tmp 39], argTypes := #[52] }, type := 3, pos := "ref.go:163", after := #[{ on := 8, ground := Ground.data }, { on := 4, ground := Ground.chain }], guard := none }) (by kernel_rfl) rfl (fun K hK => ?_)
        (go_simp; go_at_call 45; refine (HC2.out _ hHeld).mono ?_; rintro e w4 ⟨rfl, k4⟩; have KK4 : Kept W w4 := kept_trans KK3 k4; try dsimp only)
        refine hK.out _ _ ?_ (fun hHeld => ?_)
        · (try dsimp only); repeat (first | assumption | exact kept_refl _ | refine kept_drew ?_ | refine kept_alloc ?_ _ | refine kept_set ?_ (by omega) _)
        clear hK K
        try simp only [Act.put, List.setIfInBounds_toArray, List.set_cons_zero, List.set_cons_succ]
        refine x_take (i := 10) (oi := { dst := some 41, op := Op.binOp BinOp.add 3 (Operand.tmp 35) (Operand.tmp 40) 3, type := 3, pos := "ref.go:163", after := #[{ on := 4, ground := Ground.data }, { on := 9, ground := Ground.data }], guard := none }) (v := ?_) rfl (by kernel_rfl) (by kernel_rfl) (by kernel_rfl) (by kernel_rfl) (by kernel_rfl) (fun _ _ _ h => h) (Or.inl ⟨rfl, ?_⟩) (by assumption) ?_
        rotate_left
        · (intro w' hSw; replace q0 := kept_cell hSw q0; replace q1 := kept_cell hSw q1; replace q2 := kept_cell hSw q2; replace d0 := kept_cell hSw d0; replace d1 := kept_cell hSw d1; replace d2 := kept_cell hSw d2; replace e0 := kept_cell hSw e0; replace e1 := kept_cell hSw e1; replace e2 := kept_cell hSw e2; go_simp; try with_reducible rfl)
        try simp only [Act.put, List.setIfInBounds_toArray, List.set_cons_zero, List.set_cons_succ]
        refine x_take (i := 11) (oi := { dst := some 42, op := Op.call { callee := Callee.builtin Builtin.min, args := #[Operand.tmp 41, Operand.const (Value.int IntKind.i64 40000)], argTypes := #[3, 3] }, type := 3, pos := "ref.go:163", after := #[{ on := 10, ground := Ground.data }], guard := none }) (v := ?_) rfl (by kernel_rfl) (by kernel_rfl) (by kernel_rfl) (by kernel_rfl) (by kernel_rfl) (fun _ _ _ h => h) (Or.inl ⟨rfl, ?_⟩) (by assumption) ?_
        rotate_left
        · (intro w' hSw; replace q0 := kept_cell hSw q0; replace q1 := kept_cell hSw q1; replace q2 := kept_cell hSw q2; replace d0 := kept_cell hSw d0; replace d1 := kept_cell hSw d1; replace d2 := kept_cell hSw d2; replace e0 := kept_cell hSw e0; replace e1 := kept_cell hSw e1; replace e2 := kept_cell hSw e2; go_simp; try with_reducible rfl)
        try simp only [Act.put, List.setIfInBounds_toArray, List.set_cons_zero, List.set_cons_succ]
        refine x_take (i := 12) (oi := { dst := some 2, op := Op.assign (Operand.tmp 42), type := 3, pos := "ref.go:163", after := #[{ on := 11, ground := Ground.data }, { on := 9, ground := Ground.chain }, { on := 0, ground := Ground.phase }, { on := 1, ground := Ground.phase }, { on := 2, ground := Ground.phase }, { on := 3, ground := Ground.phase }, { on := 4, ground := Ground.phase }, { on := 5, ground := Ground.phase }, { on := 6, ground := Ground.phase }, { on := 7, ground := Ground.phase }, { on := 8, ground := Ground.phase }, { on := 9, ground := Ground.phase }, { on := 10, ground := Ground.phase }, { on := 11, ground := Ground.phase }], guard := none }) (v := ?_) rfl (by kernel_rfl) (by kernel_rfl) (by kernel_rfl) (by kernel_rfl) (by kernel_rfl) (fun _ _ _ h => h) (Or.inl ⟨rfl, ?_⟩) (by assumption) ?_
        rotate_left
        · (intro w' hSw; replace q0 := kept_cell hSw q0; replace q1 := kept_cell hSw q1; replace q2 := kept_cell hSw q2; replace d0 := kept_cell hSw d0; replace d1 := kept_cell hSw d1; replace d2 := kept_cell hSw d2; replace e0 := kept_cell hSw e0; replace e1 := kept_cell hSw e1; replace e2 := kept_cell hSw e2; go_simp; try with_reducible rfl)
        try simp only [Act.put, List.setIfInBounds_toArray, List.set_cons_zero, List.set_cons_succ]
        refine x_done (by kernel_rfl) ?_ _
        go_wp2_with fail
        all_goals
          go_ret
          exact ⟨ret_int (by rw [HRE.out]; omega), kept_trans K0 KK4⟩
      · skip
        refine region_x (fun w' => Kept W w') [] (by kernel_rfl) (kept_drew (kept_refl _)) (fun hHeld => ?_)
        refine x_take (i := 0) (oi := { dst := some 18, op := Op.fieldAddr 52 (Operand.tmp 1) 2, type := 0, pos := "ref.go:161", after := #[], guard := none }) (v := ?_) rfl (by kernel_rfl) (by kernel_rfl) (by kernel_rfl) (by kernel_rfl) (by kernel_rfl) (fun _ _ _ h => h) (Or.inl ⟨rfl, ?_⟩) (by assumption) ?_
        rotate_left
        · (intro w' hSw; replace q0 := kept_cell hSw q0; replace q1 := kept_cell hSw q1; replace q2 := kept_cell hSw q2; replace d0 := kept_cell hSw d0; replace d1 := kept_cell hSw d1; replace d2 := kept_cell hSw d2; replace e0 := kept_cell hSw e0; replace e1 := kept_cell hSw e1; replace e2 := kept_cell hSw e2; go_simp; try with_reducible rfl)
        try simp only [Act.put, List.setIfInBounds_toArray, List.set_cons_zero, List.set_cons_succ]
        refine x_take (i := 1) (oi := { dst := some 19, op := Op.load 50 (Operand.tmp 18), type := 50, pos := "ref.go:161", after := #[{ on := 0, ground := Ground.data }], guard := none }) (v := ?_) rfl (by kernel_rfl) (by kernel_rfl) (by kernel_rfl) (by kernel_rfl) (by kernel_rfl) (fun _ _ _ h => h) (Or.inl ⟨rfl, ?_⟩) (by assumption) ?_
        rotate_left
        · (intro w' hSw; replace q0 := kept_cell hSw q0; replace q1 := kept_cell hSw q1; replace q2 := kept_cell hSw q2; replace d0 := kept_cell hSw d0; replace d1 := kept_cell hSw d1; replace d2 := kept_cell hSw d2; replace e0 := kept_cell hSw e0; replace e1 := kept_cell hSw e1; replace e2 := kept_cell hSw e2; go_simp; try with_reducible rfl)
        try simp only [Act.put, List.setIfInBounds_toArray, List.set_cons_zero, List.set_cons_succ]
        refine x_take (i := 2) (oi := { dst := some 20, op := Op.indexAddr 50 (Operand.tmp 19) (Operand.const (Value.int IntKind.i64 0)), type := 0, pos := "ref.go:161", after := #[{ on := 1, ground := Ground.data }], guard := none }) (v := ?_) rfl (by kernel_rfl) (by kernel_rfl) (by kernel_rfl) (by kernel_rfl) (by kernel_rfl) (fun _ _ _ h => h) (Or.inl ⟨rfl, ?_⟩) (by assumption) ?_
        rotate_left
        · (intro w' hSw; replace q0 := kept_cell hSw q0; replace q1 := kept_cell hSw q1; replace q2 := kept_cell hSw q2; replace d0 := kept_cell hSw d0; replace d1 := kept_cell hSw d1; replace d2 := kept_cell hSw d2; replace e0 := kept_cell hSw e0; replace e1 := kept_cell hSw e1; replace e2 := kept_cell hSw e2; go_simp; try with_reducible rfl)
        try simp only [Act.put, List.setIfInBounds_toArray, List.set_cons_zero, List.set_cons_succ]
        refine x_take (i := 3) (oi := { dst := some 21, op := Op.load 52 (Operand.tmp 20), type := 52, pos := "ref.go:161", after := #[{ on := 2, ground := Ground.data }], guard := none }) (v := ?_) rfl (by kernel_rfl) (by kernel_rfl) (by kernel_rfl) (by kernel_rfl) (by kernel_rfl) (fun _ _ _ h => h) (Or.inl ⟨rfl, ?_⟩) (by assumption) ?_
        rotate_left
        · (intro w' hSw; replace q0 := kept_cell hSw q0; replace q1 := kept_cell hSw q1; replace q2 := kept_cell hSw q2; replace d0 := kept_cell hSw d0; replace d1 := kept_cell hSw d1; replace d2 := kept_cell hSw d2; replace e0 := kept_cell hSw e0; replace e1 := kept_cell hSw e1; replace e2 := kept_cell hSw e2; go_simp; try with_reducible rfl)
        try simp only [Act.put, List.setIfInBounds_toArray, List.set_cons_zero, List.set_cons_succ]
        refine x_take (i := 5) (oi := { dst := some 23, op := Op.fieldAddr 52 (Operand.tmp 1) 2, type := 0, pos := "ref.go:161", after := #[], guard := none }) (v := ?_) rfl (by kernel_rfl) (by kernel_rfl) (by kernel_rfl) (by kernel_rfl) (by kernel_rfl) (fun _ _ _ h => h) (Or.inl ⟨rfl, ?_⟩) (by assumption) ?_
        rotate_left
        · (intro w' hSw; replace q0 := kept_cell hSw q0; replace q1 := kept_cell hSw q1; replace q2 := kept_cell hSw q2; replace d0 := kept_cell hSw d0; replace d1 := kept_cell hSw d1; replace d2 := kept_cell hSw d2; replace e0 := kept_cell hSw e0; replace e1 := kept_cell hSw e1; replace e2 := kept_cell hSw e2; go_simp; try with_reducible rfl)
        try simp only [Act.put, List.setIfInBounds_toArray, List.set_cons_zero, List.set_cons_succ]
        refine x_take (i := 6) (oi := { dst := some 24, op := Op.load 50 (Operand.tmp 23), type := 50, pos := "ref.go:161", after := #[{ on := 5, ground := Ground.data }], guard := none }) (v := ?_) rfl (by kernel_rfl) (by kernel_rfl) (by kernel_rfl) (by kernel_rfl) (by kernel_rfl) (fun _ _ _ h => h) (Or.inl ⟨rfl, ?_⟩) (by assumption) ?_
        rotate_left
        · (intro w' hSw; replace q0 := kept_cell hSw q0; replace q1 := kept_cell hSw q1; replace q2 := kept_cell hSw q2; replace d0 := kept_cell hSw d0; replace d1 := kept_cell hSw d1; replace d2 := kept_cell hSw d2; replace e0 := kept_cell hSw e0; replace e1 := kept_cell hSw e1; replace e2 := kept_cell hSw e2; go_simp; try with_reducible rfl)
        try simp only [Act.put, List.setIfInBounds_toArray, List.set_cons_zero, List.set_cons_succ]
        refine x_take (i := 7) (oi := { dst := some 25, op := Op.indexAddr 50 (Operand.tmp 24) (Operand.const (Value.int IntKind.i64 1)), type := 0, pos := "ref.go:161", after := #[{ on := 6, ground := Ground.data }], guard := none }) (v := ?_) rfl (by kernel_rfl) (by kernel_rfl) (by kernel_rfl) (by kernel_rfl) (by kernel_rfl) (fun _ _ _ h => h) (Or.inl ⟨rfl, ?_⟩) (by assumption) ?_
        rotate_left
        · (intro w' hSw; replace q0 := kept_cell hSw q0; replace q1 := kept_cell hSw q1; replace q2 := kept_cell hSw q2; replace d0 := kept_cell hSw d0; replace d1 := kept_cell hSw d1; replace d2 := kept_cell hSw d2; replace e0 := kept_cell hSw e0; replace e1 := kept_cell hSw e1; replace e2 := kept_cell hSw e2; go_simp; try with_reducible rfl)
        try simp only [Act.put, List.setIfInBounds_toArray, List.set_cons_zero, List.set_cons_succ]
        refine x_take (i := 8) (oi := { dst := some 26, op := Op.load 52 (Operand.tmp 25), type := 52, pos := "ref.go:161", after := #[{ on := 7, ground := Ground.data }], guard := none }) (v := ?_) rfl (by kernel_rfl) (by kernel_rfl) (by kernel_rfl) (by kernel_rfl) (by kernel_rfl) (fun _ _ _ h => h) (Or.inl ⟨rfl, ?_⟩) (by assumption) ?_
        rotate_left
        · (intro w' hSw; replace q0 := kept_cell hSw q0; replace q1 := kept_cell hSw q1; replace q2 := kept_cell hSw q2; replace d0 := kept_cell hSw d0; replace d1 := kept_cell hSw d1; replace d2 := kept_cell hSw d2; replace e0 := kept_cell hSw e0; replace e1 := kept_cell hSw e1; replace e2 := kept_cell hSw e2; go_simp; try with_reducible rfl)
        try simp only [Act.put, List.setIfInBounds_toArray, List.set_cons_zero, List.set_cons_succ]
        refine x_one (i := 4) (o := { dst := some 22, op := Op.call { callee := Callee.value (Operand.func 45), args := #[Operand.tmp 21], argTypes := #[52] }, type := 3, pos := "ref.go:161", after := #[{ on := 3, ground := Ground.data }], guard := none }) (by kernel_rfl) rfl (fun K hK => ?_)
        (go_simp; go_at_call 45; refine (HC1.out _ hHeld).mono ?_; rintro e w3 ⟨rfl, k3⟩; have KK3 : Kept W w3 := kept_trans hHeld k3; try dsimp only)
        refine hK.out _ _ ?_ (fun hHeld => ?_)
        · (try dsimp only); repeat (first | assumption | exact kept_refl _ | refine kept_drew ?_ | refine kept_alloc ?_ _ | refine kept_set ?_ (by omega) _)
        clear hK K
        try simp only [Act.put, List.setIfInBounds_toArray, List.set_cons_zero, List.set_cons_succ]
        refine x_one (i := 9) (o := { dst := some 27, op := Op.call { callee := Callee.value (Operand.func 45), args := #[Operand.tmp 26], argTypes := #[52] }, type := 3, pos := "ref.go:161", after := #[{ on := 8, ground := Ground.data }, { on := 4, ground := Ground.chain }], guard := none }) (by kernel_rfl) rfl (fun K hK => ?_)
        (go_simp; go_at_call 45; refine (HC2.out _ hHeld).mono ?_; rintro e w4 ⟨rfl, k4⟩; have KK4 : Kept W w4 := kept_trans KK3 k4; try dsimp only)
        refine hK.out _ _ ?_ (fun hHeld => ?_)
        · (try dsimp only); repeat (first | assumption | exact kept_refl _ | refine kept_drew ?_ | refine kept_alloc ?_ _ | refine kept_set ?_ (by omega) _)
        clear hK K
        try simp only [Act.put, List.setIfInBounds_toArray, List.set_cons_zero, List.set_cons_succ]
        refine x_take (i := 10) (oi := { dst := some 28, op := Op.binOp BinOp.mul 3 (Operand.const (Value.int IntKind.i64 2)) (Operand.tmp 27) 3, type := 3, pos := "ref.go:161", after := #[{ on := 9, ground := Ground.data }], guard := none }) (v := ?_) rfl (by kernel_rfl) (by kernel_rfl) (by kernel_rfl) (by kernel_rfl) (by kernel_rfl) (fun _ _ _ h => h) (Or.inl ⟨rfl, ?_⟩) (by assumption) ?_
        rotate_left
        · (intro w' hSw; replace q0 := kept_cell hSw q0; replace q1 := kept_cell hSw q1; replace q2 := kept_cell hSw q2; replace d0 := kept_cell hSw d0; replace d1 := kept_cell hSw d1; replace d2 := kept_cell hSw d2; replace e0 := kept_cell hSw e0; replace e1 := kept_cell hSw e1; replace e2 := kept_cell hSw e2; go_simp; try with_reducible rfl)
        try simp only [Act.put, List.setIfInBounds_toArray, List.set_cons_zero, List.set_cons_succ]
        refine x_take (i := 11) (oi := { dst := some 29, op := Op.binOp BinOp.add 3 (Operand.tmp 22) (Operand.tmp 28) 3, type := 3, pos := "ref.go:161", after := #[{ on := 4, ground := Ground.data }, { on := 10, ground := Ground.data }], guard := none }) (v := ?_) rfl (by kernel_rfl) (by kernel_rfl) (by kernel_rfl) (by kernel_rfl) (by kernel_rfl) (fun _ _ _ h => h) (Or.inl ⟨rfl, ?_⟩) (by assumption) ?_
        rotate_left
        · (intro w' hSw; replace q0 := kept_cell hSw q0; replace q1 := kept_cell hSw q1; replace q2 := kept_cell hSw q2; replace d0 := kept_cell hSw d0; replace d1 := kept_cell hSw d1; replace d2 := kept_cell hSw d2; replace e0 := kept_cell hSw e0; replace e1 := kept_cell hSw e1; replace e2 := kept_cell hSw e2; go_simp; try with_reducible rfl)
        try simp only [Act.put, List.setIfInBounds_toArray, List.set_cons_zero, List.set_cons_succ]
        refine x_take (i := 12) (oi := { dst := some 30, op := Op.call { callee := Callee.builtin Builtin.min, args := #[Operand.tmp 29, Operand.const (Value.int IntKind.i64 40000)], argTypes := #[3, 3] }, type := 3, pos := "ref.go:161", after := #[{ on := 11, ground := Ground.data }], guard := none }) (v := ?_) rfl (by kernel_rfl) (by kernel_rfl) (by kernel_rfl) (by kernel_rfl) (by kernel_rfl) (fun _ _ _ h => h) (Or.inl ⟨rfl, ?_⟩) (by assumption) ?_
        rotate_left
        · (intro w' hSw; replace q0 := kept_cell hSw q0; replace q1 := kept_cell hSw q1; replace q2 := kept_cell hSw q2; replace d0 := kept_cell hSw d0; replace d1 := kept_cell hSw d1; replace d2 := kept_cell hSw d2; replace e0 := kept_cell hSw e0; replace e1 := kept_cell hSw e1; replace e2 := kept_cell hSw e2; go_simp; try with_reducible rfl)
        try simp only [Act.put, List.setIfInBounds_toArray, List.set_cons_zero, List.set_cons_succ]
        refine x_take (i := 13) (oi := { dst := some 2, op := Op.assign (Operand.tmp 30), type := 3, pos := "ref.go:161", after := #[{ on := 12, ground := Ground.data }, { on := 9, ground := Ground.chain }, { on := 0, ground := Ground.phase }, { on := 1, ground := Ground.phase }, { on := 2, ground := Ground.phase }, { on := 3, ground := Ground.phase }, { on := 4, ground := Ground.phase }, { on := 5, ground := Ground.phase }, { on := 6, ground := Ground.phase }, { on := 7, ground := Ground.phase }, { on := 8, ground := Ground.phase }, { on := 9, ground := Ground.phase }, { on := 10, ground := Ground.phase }, { on := 11, ground := Ground.phase }, { on := 12, ground := Ground.phase }], guard := none }) (v := ?_) rfl (by kernel_rfl) (by kernel_rfl) (by kernel_rfl) (by kernel_rfl) (by kernel_rfl) (fun _ _ _ h => h) (Or.inl ⟨rfl, ?_⟩) (by assumption) ?_
        rotate_left
        · (intro w' hSw; replace q0 := kept_cell hSw q0; replace q1 := kept_cell hSw q1; replace q2 := kept_cell hSw q2; replace d0 := kept_cell hSw d0; replace d1 := kept_cell hSw d1; replace d2 := kept_cell hSw d2; replace e0 := kept_cell hSw e0; replace e1 := kept_cell hSw e1; replace e2 := kept_cell hSw e2; go_simp; try with_reducible rfl)
        try simp only [Act.put, List.setIfInBounds_toArray, List.set_cons_zero, List.set_cons_succ]
        refine x_done (by kernel_rfl) ?_ _
        go_wp2_with fail
        all_goals
          go_ret
          exact ⟨ret_int (by rw [HRE.out]; omega), kept_trans K0 KK4⟩
end Go.Proofs.Ytinpmdekdfgiiaa
