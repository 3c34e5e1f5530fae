/- Trees: steps of the loops that write and read texts. -/
import Derived.Test.YtikfeemmjfoffaaDoorP4
set_option linter.unusedVariables false
set_option linter.unusedSimpArgs false
namespace Go.Proofs.YtikfeemmjfoffaaDoor

theorem textN_snoc : ∀ (l : List Nat) (n : Nat), textN (l ++ [n]) = textN l ++ (if l = [] then [] else [32]) ++ dig2 n
  | [], n => rfl
  | [m], n => by simp [textN]
  | m :: k :: l, n => by
    have ih := textN_snoc (k :: l) n
    have e1 : textN (m :: k :: l ++ [n]) = dig2 m ++ 32 :: textN (k :: l ++ [n]) := textN_cons m (by simp)
    have e2 : textN (m :: k :: l) = dig2 m ++ 32 :: textN (k :: l) := textN_cons m (by simp)
    rw [e1, ih, e2]
    simp
theorem dig2_len (n : Nat) : (dig2 n).length ≤ 2 := by unfold dig2; split <;> simp
theorem textN_len : ∀ (l : List Nat), (textN l).length ≤ 3 * l.length
  | [] => by simp [textN]
  | [n] => by have := dig2_len n; simp only [textN, List.length_cons, List.length_nil]; omega
  | n :: m :: l => by
    have := dig2_len n
    have ih := textN_len (m :: l)
    rw [textN_cons n (by simp)]
    simp only [List.length_append, List.length_cons] at ih ⊢
    omega
/-- The reading of numbers, step by step. -/
theorem readN_end (n d : Nat) : readN [] n d = if endOk n d then some [n] else none := rfl
theorem readN_blank {c : UInt8} (s : List UInt8) (n d : Nat) (h : c.toNat = 32) : readN (c :: s) n d = if endOk n d then (readN s 0 0).map (n :: ·) else none := by
  rw [readN, if_pos h]
theorem readN_bad {c : UInt8} (s : List UInt8) (n d : Nat) (h : c.toNat ≠ 32) (h1 : c.toNat < 48 ∨ 57 < c.toNat) : readN (c :: s) n d = none := by
  rw [readN, if_neg h, if_pos h1]
theorem readN_digit {c : UInt8} (s : List UInt8) (n d : Nat) (h1 : 48 ≤ c.toNat) (h2 : c.toNat ≤ 57) : readN (c :: s) n d = readN s (min (10 * n + (c.toNat - 48)) 1000) (d + 1) := by
  rw [readN, if_neg (by omega), if_neg (by omega)]
/-- Behind the numbers out, at place i with n and d under way, the whole reading is that of the rest. -/
def Reads (s : List UInt8) (i n d : Nat) (out : List Nat) : Prop := readN s 0 0 = (readN (s.drop i) n d).map (out ++ ·)
theorem reads_start (s : List UInt8) : Reads s 0 0 0 [] := by
  unfold Reads
  rw [List.drop_zero]
  cases readN s 0 0 <;> simp
theorem reads_end {s : List UInt8} {n d : Nat} {out : List Nat} (h : Reads s s.length n d out) : readN s 0 0 = if endOk n d then some (out ++ [n]) else none := by
  unfold Reads at h
  rw [h, List.drop_length, readN_end]
  split <;> rfl
theorem drop_at {α : Type} {l : List α} {i : Nat} (h : i < l.length) : l.drop i = l[i] :: l.drop (i + 1) := List.drop_eq_getElem_cons h
theorem reads_blank {s : List UInt8} {i n d : Nat} {out : List Nat} (h : Reads s i n d out) (hi : i < s.length) (hc : s[i].toNat = 32) (he : endOk n d = true) : Reads s (i + 1) 0 0 (out ++ [n]) := by
  unfold Reads at *
  rw [h, drop_at hi, readN_blank _ _ _ hc, if_pos he]
  cases readN (s.drop (i + 1)) 0 0 <;> simp
theorem reads_none1 {s : List UInt8} {i n d : Nat} {out : List Nat} (h : Reads s i n d out) (hi : i < s.length) (hc : s[i].toNat = 32) (he : endOk n d = false) : readN s 0 0 = none := by
  unfold Reads at h
  rw [h, drop_at hi, readN_blank _ _ _ hc, he]
  rfl
theorem reads_none2 {s : List UInt8} {i n d : Nat} {out : List Nat} (h : Reads s i n d out) (hi : i < s.length) (hc : s[i].toNat ≠ 32) (h1 : s[i].toNat < 48 ∨ 57 < s[i].toNat) : readN s 0 0 = none := by
  unfold Reads at h
  rw [h, drop_at hi, readN_bad _ _ _ hc h1]
  rfl
theorem reads_digit {s : List UInt8} {i n d : Nat} {out : List Nat} (h : Reads s i n d out) (hi : i < s.length) (h1 : 48 ≤ s[i].toNat) (h2 : s[i].toNat ≤ 57) : Reads s (i + 1) (min (10 * n + (s[i].toNat - 48)) 1000) (d + 1) out := by
  unfold Reads at *
  rw [h, drop_at hi, readN_digit _ _ _ h1 h2]
/-- The program's words, one by one. -/
def Words (ws : List (List UInt8)) (i : Nat) (l : List Int) : Prop := wordsN ws = (wordsN (ws.drop i)).map (l ++ ·)
theorem words_start (ws : List (List UInt8)) : Words ws 0 [] := by
  unfold Words
  rw [List.drop_zero]
  cases wordsN ws <;> simp
theorem words_end {ws : List (List UInt8)} {l : List Int} (h : Words ws ws.length l) : wordsN ws = some l := by
  unfold Words at h
  rw [h, List.drop_length]
  simp [wordsN]
theorem words_next {ws : List (List UInt8)} {i : Nat} {l : List Int} (h : Words ws i l) (hi : i < ws.length) {v : Int} (hv : Go.Lib.atoiAll ws[i] = .ok v) : Words ws (i + 1) (l ++ [v]) := by
  unfold Words at *
  rw [h, drop_at hi, wordsN, hv]
  show ((wordsN (ws.drop (i + 1))).map (v :: ·)).map (l ++ ·) = _
  cases wordsN (ws.drop (i + 1)) <;> simp
theorem words_none {ws : List (List UInt8)} {i : Nat} {l : List Int} (h : Words ws i l) (hi : i < ws.length) (hv : ∀ v, Go.Lib.atoiAll ws[i] ≠ .ok v) : wordsN ws = none := by
  unfold Words at h
  rw [h, drop_at hi, wordsN]
  cases e : Go.Lib.atoiAll ws[i] with
  | ok v => exact absurd e (hv v)
  | _ => rfl
end Go.Proofs.YtikfeemmjfoffaaDoor
