/- Numbers of at most two digits in a row, separated by blanks: the text that lists them, and how the reference reads it. -/
set_option linter.unusedVariables false
set_option linter.unusedSimpArgs false
namespace Go.Proofs.YtikfeemmjfoffaaDoor

/-- The digits of a number below 100. -/
def dig2 (n : Nat) : List UInt8 := if n < 10 then [UInt8.ofNat (48 + n)] else [UInt8.ofNat (48 + n / 10), UInt8.ofNat (48 + n % 10)]
/-- The text of a list of numbers: blanks between them. -/
def textN : List Nat → List UInt8
  | [] => []
  | [n] => dig2 n
  | n :: m :: l => dig2 n ++ 32 :: textN (m :: l)
theorem textN_cons (n : Nat) {l : List Nat} (h : l ≠ []) : textN (n :: l) = dig2 n ++ 32 :: textN l := by
  cases l with
  | nil => exact absurd rfl h
  | cons m l => rfl
/-- A number ends here. -/
def endOk (n d : Nat) : Bool := !(d == 0 || decide (2 < d) || (d == 2 && decide (n < 10)))
/-- The reference's reading, from a place on: n is the number so far, d how many digits it has. -/
def readN : List UInt8 → Nat → Nat → Option (List Nat)
  | [], n, d => if endOk n d then some [n] else none
  | c :: s, n, d =>
    if c.toNat = 32 then (if endOk n d then (readN s 0 0).map (n :: ·) else none)
    else if c.toNat < 48 ∨ 57 < c.toNat then none
    else readN s (min (10 * n + (c.toNat - 48)) 1000) (d + 1)
/-- What has been read of the number under way. -/
def pre (n d : Nat) : List UInt8 := if d = 0 then [] else if d = 1 then [UInt8.ofNat (48 + n)] else [UInt8.ofNat (48 + n / 10), UInt8.ofNat (48 + n % 10)]
/-- A state that the reading reaches and that may still end well. -/
def Mid (n d : Nat) : Prop := (d = 0 ∧ n = 0) ∨ (d = 1 ∧ n ≤ 9) ∨ (d = 2 ∧ n ≤ 99) ∨ 3 ≤ d
theorem pre_dig {n d : Nat} (h : Mid n d) (he : endOk n d = true) : pre n d = dig2 n ∧ n ≤ 99 := by
  simp only [endOk, Bool.not_eq_true', Bool.or_eq_false_iff, Bool.and_eq_false_iff, beq_eq_false_iff_ne, decide_eq_false_iff_not] at he
  unfold pre dig2
  rcases h with ⟨rfl, rfl⟩ | ⟨rfl, h⟩ | ⟨rfl, h⟩ | h
  · exact absurd rfl he.1.1
  · rw [if_neg (by omega), if_pos rfl, if_pos (by omega)]; exact ⟨rfl, by omega⟩
  · have : ¬ n < 10 := by rcases he.2 with h | h <;> omega
    rw [if_neg (by omega), if_neg (by omega), if_neg this]; exact ⟨rfl, h⟩
  · omega
theorem u8_eq {c : UInt8} {k : Nat} (hk : k < 256) (h : c.toNat = k) : c = UInt8.ofNat k := by
  apply UInt8.toNat_inj.1
  rw [h, UInt8.toNat_ofNat_of_lt' (by simpa using hk)]
theorem pre_step {n d : Nat} {c : UInt8} (h : Mid n d) (h1 : 48 ≤ c.toNat) (h2 : c.toNat ≤ 57) (hd : d ≤ 1) : pre n d ++ [c] = pre (10 * n + (c.toNat - 48)) (d + 1) := by
  have hc : c = UInt8.ofNat (48 + (c.toNat - 48)) := u8_eq (by omega) (by omega)
  rcases h with ⟨rfl, rfl⟩ | ⟨rfl, h⟩ | ⟨rfl, h⟩ | h
  · show [c] = [UInt8.ofNat (48 + (10 * 0 + (c.toNat - 48)))]
    rw [Nat.mul_zero, Nat.zero_add, ← hc]
  · show [UInt8.ofNat (48 + n), c] = [UInt8.ofNat (48 + (10 * n + (c.toNat - 48)) / 10), UInt8.ofNat (48 + (10 * n + (c.toNat - 48)) % 10)]
    have e1 : (10 * n + (c.toNat - 48)) / 10 = n := by omega
    have e2 : (10 * n + (c.toNat - 48)) % 10 = c.toNat - 48 := by omega
    rw [e1, e2, ← hc]
  · omega
  · omega
theorem readN_big : ∀ (s : List UInt8) (n d : Nat), 3 ≤ d → readN s n d = none
  | [], n, d, h => by
    have : endOk n d = false := by simp [endOk]; omega
    simp [readN, this]
  | c :: s, n, d, h => by
    have : endOk n d = false := by simp [endOk]; omega
    rw [readN, this]
    split
    · rfl
    · split
      · rfl
      · exact readN_big s _ _ (by omega)
/-- What is read is the text of what comes out. -/
theorem readN_sound : ∀ (s : List UInt8) (n d : Nat) (l : List Nat), Mid n d → readN s n d = some l → l ≠ [] ∧ (∀ x ∈ l, x ≤ 99) ∧ pre n d ++ s = textN l
  | [], n, d, l, hm, h => by
    rw [readN] at h
    split at h
    · rename_i he
      injection h with h
      subst h
      obtain ⟨h1, h2⟩ := pre_dig hm he
      exact ⟨by simp, by simpa using h2, by rw [List.append_nil]; exact h1⟩
    · cases h
  | c :: s, n, d, l, hm, h => by
    rw [readN] at h
    split at h
    · rename_i hc
      split at h
      · rename_i he
        obtain ⟨l', h1, h2⟩ := Option.map_eq_some_iff.1 h
        subst h2
        obtain ⟨a, b, e⟩ := readN_sound s 0 0 l' (.inl ⟨rfl, rfl⟩) h1
        obtain ⟨p1, p2⟩ := pre_dig hm he
        have hc' : c = 32 := u8_eq (k := 32) (by decide) hc
        refine ⟨by simp, fun x hx => ?_, ?_⟩
        · rcases List.mem_cons.1 hx with rfl | hx
          · exact p2
          · exact b x hx
        · rw [textN_cons n a, p1, hc', ← e]
          rfl
      · cases h
    · split at h
      · cases h
      · rename_i h1 h2
        by_cases hd : d ≤ 1
        · have hmin : min (10 * n + (c.toNat - 48)) 1000 = 10 * n + (c.toNat - 48) := by
            rcases hm with ⟨rfl, rfl⟩ | ⟨rfl, hn⟩ | ⟨rfl, hn⟩ | hn <;> omega
          rw [hmin] at h
          obtain ⟨a, b, e⟩ := readN_sound s _ _ l (by
            rcases hm with ⟨rfl, rfl⟩ | ⟨rfl, hn⟩ | ⟨rfl, hn⟩ | hn
            · exact .inr (.inl ⟨rfl, by omega⟩)
            · exact .inr (.inr (.inl ⟨rfl, by omega⟩))
            · omega
            · omega) h
          refine ⟨a, b, ?_⟩
          rw [← e, ← pre_step hm (by omega) (by omega) hd]
          simp
        · rw [readN_big s _ _ (by omega)] at h
          cases h
theorem dig_toNat {k : Nat} (h : k < 10) : (UInt8.ofNat (48 + k)).toNat = 48 + k := UInt8.toNat_ofNat_of_lt' (show 48 + k < 256 by omega)
/-- The text of numbers below 100 is read. -/
theorem readN_text : ∀ (l : List Nat), l ≠ [] → (∀ x ∈ l, x ≤ 99) → readN (textN l) 0 0 = some l
  | [], h, _ => absurd rfl h
  | [n], _, hl => by
    have hn := hl n (by simp)
    show readN (dig2 n) 0 0 = some [n]
    unfold dig2
    by_cases h : n < 10
    · rw [if_pos h, readN, dig_toNat h, if_neg (by omega), if_neg (by omega), readN]
      have e1 : min (10 * 0 + (48 + n - 48)) 1000 = n := by omega
      rw [e1]
      simp [endOk]
    · rw [if_neg h, readN, dig_toNat (by omega), if_neg (by omega), if_neg (by omega), readN, dig_toNat (by omega), if_neg (by omega), if_neg (by omega), readN]
      have e1 : min (10 * min (10 * 0 + (48 + n / 10 - 48)) 1000 + (48 + n % 10 - 48)) 1000 = n := by omega
      rw [e1]
      have : ¬ n < 10 := h
      simp [endOk, this]
  | n :: m :: l, _, hl => by
    have hn := hl n (by simp)
    have ih := readN_text (m :: l) (by simp) (fun x hx => hl x (by simp [hx]))
    rw [textN_cons n (by simp)]
    unfold dig2
    by_cases h : n < 10
    · rw [if_pos h]
      show readN (UInt8.ofNat (48 + n) :: 32 :: textN (m :: l)) 0 0 = _
      rw [readN, dig_toNat h, if_neg (by omega), if_neg (by omega), readN, if_pos (by decide : (32 : UInt8).toNat = 32), ih]
      have e1 : min (10 * 0 + (48 + n - 48)) 1000 = n := by omega
      rw [e1]
      simp [endOk]
    · rw [if_neg h]
      show readN (UInt8.ofNat (48 + n / 10) :: UInt8.ofNat (48 + n % 10) :: 32 :: textN (m :: l)) 0 0 = _
      rw [readN, dig_toNat (by omega), if_neg (by omega), if_neg (by omega), readN, dig_toNat (by omega), if_neg (by omega), if_neg (by omega), readN, if_pos (by decide : (32 : UInt8).toNat = 32), ih]
      have e1 : min (10 * min (10 * 0 + (48 + n / 10 - 48)) 1000 + (48 + n % 10 - 48)) 1000 = n := by omega
      rw [e1]
      have : ¬ n < 10 := h
      simp [endOk, this]
/-- The reading is exact. -/
theorem readN_iff {s : List UInt8} {l : List Nat} : readN s 0 0 = some l ↔ l ≠ [] ∧ (∀ x ∈ l, x ≤ 99) ∧ s = textN l :=
  ⟨fun h => by obtain ⟨a, b, c⟩ := readN_sound s 0 0 l (.inl ⟨rfl, rfl⟩) h; exact ⟨a, b, c⟩, fun ⟨a, b, c⟩ => by rw [c]; exact readN_text l a b⟩
end Go.Proofs.YtikfeemmjfoffaaDoor
