/- Plain definitions: the search for the least program of a table, in the program's order and in the reference's; both find the same, with at most 5 nodes. -/
set_option linter.unusedVariables false
set_option linter.unusedSimpArgs false
namespace Go.Proofs.Ytinpmdekdfgiiaa

def na (l : List Nat) (k : Nat) : Nat := l.getD k 0
def anyN (n : Nat) (p : Nat → Bool) : Bool := (List.range n).any p
theorem anyN_true {n : Nat} {p : Nat → Bool} : anyN n p = true ↔ ∃ j, j < n ∧ p j = true := by simp [anyN]
theorem anyN_false {n : Nat} {p : Nat → Bool} : anyN n p = false ↔ ∀ j, j < n → p j = false := by simp [anyN]
theorem na_mem {l : List Nat} {k : Nat} (h : k < l.length) : na l k ∈ l := by simp [na, List.getD_eq_getElem?_getD, h]
theorem mem_na {l : List Nat} {x : Nat} (h : x ∈ l) : ∃ k, k < l.length ∧ na l k = x := by
  obtain ⟨k, hk, e⟩ := List.getElem_of_mem h
  exact ⟨k, hk, by simp [na, List.getD_eq_getElem?_getD, hk, e]⟩

/-- The node's function: v chooses a where it is 1, c elsewhere. -/
def sel (all v a c : Nat) : Nat := c &&& (all ^^^ v) ||| a &&& v
/-- In the reference's order. -/
def madeT (all goal : Nat) (rec_ : List Nat → Bool) (n : Nat) (known : List Nat) (v c a : Nat) : Bool :=
  (n == 0 && sel all v a c == goal) || (decide (0 < n) && !known.contains (sel all v a c) && rec_ (known ++ [sel all v a c]))
def madeS (vars : List Nat) (all goal : Nat) : Nat → List Nat → Bool
  | 0, known => known.contains goal
  | n + 1, known => known.contains goal || anyN vars.length fun v => anyN known.length fun i => anyN known.length fun j => madeT all goal (madeS vars all goal n) n known (na vars v) (na known i) (na known j)
/-- In the program's order. -/
def foundT (all want : Nat) (rec_ : List Nat → Bool) (n : Nat) (hv : List Nat) (v a c : Nat) : Bool :=
  !hv.contains (sel all v a c) && (decide (0 < n) || sel all v a c == want) && rec_ (hv ++ [sel all v a c])
def foundS (vars : List Nat) (all want : Nat) : Nat → List Nat → Bool
  | 0, hv => hv.contains want
  | n + 1, hv => hv.contains want || anyN vars.length fun v => anyN hv.length fun a => anyN hv.length fun c => foundT all want (foundS vars all want n) n hv (na vars v) (na hv a) (na hv c)

theorem found_iff {vars : List Nat} {all want n : Nat} {hv : List Nat} : foundS vars all want (n + 1) hv = true ↔
    want ∈ hv ∨ ∃ v ∈ vars, ∃ a ∈ hv, ∃ c ∈ hv, sel all v a c ∉ hv ∧ (0 < n ∨ sel all v a c = want) ∧ foundS vars all want n (hv ++ [sel all v a c]) = true := by
  rw [foundS, Bool.or_eq_true, List.contains_iff_mem, anyN_true]
  constructor
  · rintro (h | ⟨v, hv', h⟩)
    · exact .inl h
    · obtain ⟨a, ha, h⟩ := anyN_true.1 h
      obtain ⟨c, hc, h⟩ := anyN_true.1 h
      refine .inr ⟨_, na_mem hv', _, na_mem ha, _, na_mem hc, ?_⟩
      simpa [foundT, and_assoc] using h
  · rintro (h | ⟨v, hv', a, ha, c, hc, h⟩)
    · exact .inl h
    · obtain ⟨v, h1, rfl⟩ := mem_na hv'
      obtain ⟨a, h2, rfl⟩ := mem_na ha
      obtain ⟨c, h3, rfl⟩ := mem_na hc
      refine .inr ⟨v, h1, anyN_true.2 ⟨a, h2, anyN_true.2 ⟨c, h3, ?_⟩⟩⟩
      simpa [foundT, and_assoc] using h
theorem found_mem {vars : List Nat} {all want n : Nat} {hv : List Nat} (h : want ∈ hv) : foundS vars all want n hv = true := by
  cases n with
  | zero => simpa [foundS] using h
  | succ n => exact found_iff.2 (.inl h)
theorem found_mono {vars : List Nat} {all want : Nat} : ∀ (n m : Nat) (hv hv' : List Nat), n ≤ m → (∀ x ∈ hv, x ∈ hv') → foundS vars all want n hv = true → foundS vars all want m hv' = true := by
  intro n
  induction n with
  | zero => intro m hv hv' _ hs h; exact found_mem (hs _ (by simpa [foundS] using h))
  | succ n ih =>
    intro m hv hv' hm hs h
    rcases found_iff.1 h with h | ⟨v, h1, a, h2, c, h3, h4, h5, h6⟩
    · exact found_mem (hs _ h)
    · by_cases hx : sel all v a c ∈ hv'
      · exact ih m _ hv' (by omega) (by intro x hx'; rcases List.mem_append.1 hx' with h | h; exact hs _ h; rw [List.mem_singleton.1 h]; exact hx) h6
      · obtain ⟨m, rfl⟩ : ∃ k, m = k + 1 := ⟨m - 1, by omega⟩
        refine found_iff.2 (.inr ⟨v, h1, a, hs _ h2, c, hs _ h3, hx, ?_, ih m _ _ (by omega) (by intro x hx'; rcases List.mem_append.1 hx' with h | h; exact List.mem_append.2 (.inl (hs _ h)); exact List.mem_append.2 (.inr h)) h6⟩)
        rcases h5 with h5 | h5
        · exact .inl (by omega)
        · exact .inr h5
/-- One node more, whether it is new or not. -/
theorem found_step {vars : List Nat} {all want n : Nat} {hv : List Nat} {v a c : Nat} (h1 : v ∈ vars) (h2 : a ∈ hv) (h3 : c ∈ hv) (h : foundS vars all want n (hv ++ [sel all v a c]) = true) : foundS vars all want (n + 1) hv = true := by
  by_cases hw : want ∈ hv
  · exact found_mem hw
  by_cases hx : sel all v a c ∈ hv
  · exact found_mono n (n + 1) _ _ (by omega) (by intro x hx'; rcases List.mem_append.1 hx' with h | h; exact h; rw [List.mem_singleton.1 h]; exact hx) h
  · refine found_iff.2 (.inr ⟨v, h1, a, h2, c, h3, hx, ?_, h⟩)
    rcases Nat.eq_zero_or_pos n with h0 | h0
    · subst h0
      right
      have : want ∈ hv ++ [sel all v a c] := by simpa [foundS] using h
      rcases List.mem_append.1 this with h | h
      · exact absurd h hw
      · exact (List.mem_singleton.1 h).symm
    · exact .inl h0

/-- The tables of the variables and of true, with n inputs. -/
def varsN : Nat → List Nat
  | 0 => []
  | 1 => [2]
  | 2 => [10, 12]
  | _ => [170, 204, 240]
def allN' : Nat → Nat
  | 0 => 1
  | 1 => 3
  | 2 => 15
  | _ => 255
def cof (w i : Nat) : Nat := if w.testBit i then (if w.testBit (i + 4) then 255 else 15) else (if w.testBit (i + 4) then 240 else 0)
theorem cof_all : ∀ w, w < 256 → sel 255 170 (sel 255 204 (cof w 3) (cof w 1)) (sel 255 204 (cof w 2) (cof w 0)) = w := by decide +kernel
def cof2 (w i : Nat) : Nat := if w.testBit i then (if w.testBit (i + 2) then 15 else 3) else (if w.testBit (i + 2) then 12 else 0)
theorem cof2_all : ∀ w, w < 16 → sel 15 10 (cof2 w 1) (cof2 w 0) = w := by decide +kernel
def cof1 (w i : Nat) : Nat := if w.testBit i then 3 else 0
theorem cof1_all : ∀ w, w < 4 → sel 3 2 (cof1 w 1) (cof1 w 0) = w := by decide +kernel

theorem found5 (n : Nat) (hn : n ≤ 3) (w : Nat) (hw : w ≤ allN' n) : foundS (varsN n) (allN' n) w 5 [0, allN' n] = true := by
  match n, hn with
  | 0, _ => exact found_mem (by simp [allN'] at hw ⊢; omega)
  | 1, _ =>
    have e := cof1_all w (by simp [allN'] at hw; omega)
    refine found_step (v := 2) (a := cof1 w 1) (c := cof1 w 0) (by simp [varsN]) (by unfold cof1; split <;> simp [allN']) (by unfold cof1; split <;> simp [allN']) (found_mem ?_)
    show w ∈ [0, 3] ++ [sel 3 2 (cof1 w 1) (cof1 w 0)]
    rw [e]; simp
  | 2, _ =>
    have e := cof2_all w (by simp [allN'] at hw; omega)
    have hc : ∀ i, cof2 w i ∈ [0, 15, 12, 3] := by intro i; unfold cof2; split <;> split <;> simp
    refine found_step (v := 12) (a := 15) (c := 0) (by simp [varsN]) (by simp [allN']) (by simp) ?_
    refine found_step (v := 12) (a := 0) (c := 15) (by simp [varsN]) (by simp) (by simp [allN']) ?_
    refine found_step (v := 10) (a := cof2 w 1) (c := cof2 w 0) (by simp [varsN]) (hc 1) (hc 0) (found_mem ?_)
    show w ∈ ([0, 15] ++ [sel 15 12 15 0] ++ [sel 15 12 0 15]) ++ [sel 15 10 (cof2 w 1) (cof2 w 0)]
    rw [e]; simp
  | 3, _ =>
    have e := cof_all w (by simp [allN'] at hw; omega)
    have hc : ∀ i, cof w i ∈ [0, 255, 240, 15] := by intro i; unfold cof; split <;> split <;> simp
    refine found_step (v := 240) (a := 255) (c := 0) (by simp [varsN]) (by simp [allN']) (by simp) ?_
    refine found_step (v := 240) (a := 0) (c := 255) (by simp [varsN]) (by simp) (by simp [allN']) ?_
    refine found_step (v := 204) (a := cof w 3) (c := cof w 1) (by simp [varsN]) (hc 3) (hc 1) ?_
    refine found_step (v := 204) (a := cof w 2) (c := cof w 0) (by simp [varsN]) (List.mem_append.2 (.inl (hc 2))) (List.mem_append.2 (.inl (hc 0))) ?_
    refine found_step (v := 170) (a := sel 255 204 (cof w 3) (cof w 1)) (c := sel 255 204 (cof w 2) (cof w 0)) (by simp [varsN]) (List.mem_append.2 (.inl (List.mem_append.2 (.inr (List.mem_singleton.2 rfl))))) (List.mem_append.2 (.inr (List.mem_singleton.2 rfl))) (found_mem ?_)
    refine List.mem_append.2 (.inr (List.mem_singleton.2 ?_))
    exact e.symm

/-- The first number from k on that passes; k + f where none of the next f does. -/
def firstK (p : Nat → Bool) : Nat → Nat → Nat
  | 0, k => k
  | f + 1, k => if p k then k else firstK p f (k + 1)
def leastS (n w : Nat) : Nat := firstK (fun k => foundS (varsN n) (allN' n) w k [0, allN' n]) 5 0
end Go.Proofs.Ytinpmdekdfgiiaa
