/- The text of numbers in the words of the library's contracts: Join, Split, Atoi, Itoa. -/
import Derived.Lib.Split
import Derived.Lib.SplitLaws
import Derived.Lib.AtoiAll
import Derived.Lib.ItoaNum
import Derived.Lib.Join
import Derived.Lib.IndexBytes
import Derived.Test.YtikfeemmjfoffaaDoorP1
set_option linter.unusedVariables false
set_option linter.unusedSimpArgs false
namespace Go.Proofs.YtikfeemmjfoffaaDoor
open Go.Lib

theorem indexByte_pre : ∀ (d rest : List UInt8), (∀ x ∈ d, x ≠ 32) → indexByte (d ++ 32 :: rest) 32 = d.length
  | [], rest, _ => by simp [indexByte]
  | x :: d, rest, h => by
    have ih := indexByte_pre d rest (fun y hy => h y (by simp [hy]))
    have hx : (x == 32) = false := by simpa using h x (by simp)
    have h0 : ((d.length : Int) == -1) = false := by simp
    simp only [List.cons_append, indexByte, hx, ih, h0, Bool.false_eq_true, if_false, List.length_cons]
    omega
theorem indexByte_no : ∀ (d : List UInt8), (∀ x ∈ d, x ≠ 32) → indexByte d 32 = -1
  | [], _ => rfl
  | x :: d, h => by
    have ih := indexByte_no d (fun y hy => h y (by simp [hy]))
    have hx : (x == 32) = false := by simpa using h x (by simp)
    simp [indexByte, hx, ih]
theorem split_last {d : List UInt8} (h : ∀ x ∈ d, x ≠ 32) : split d [32] = [d] := by
  have h1 : index d [32] = -1 := by rw [index_one]; exact indexByte_no d h
  unfold split
  rw [count_miss h1]
  rfl
theorem split_next {d rest : List UInt8} (h : ∀ x ∈ d, x ≠ 32) : split (d ++ 32 :: rest) [32] = d :: split rest [32] := by
  have h1 : index (d ++ 32 :: rest) [32] = (d.length : Int) := by rw [index_one]; exact indexByte_pre d rest h
  have h2 : (d ++ 32 :: rest).drop (d.length + [(32 : UInt8)].length) = rest := by simp
  unfold split
  rw [count_hit (by simp) h1, h2, Nat.add_comm 1]
  show (if index (d ++ 32 :: rest) [32] == -1 then _ else _) = _
  rw [h1]
  have h0 : ((d.length : Int) == -1) = false := by simp
  rw [h0]
  simp only [Bool.false_eq_true, if_false, Int.toNat_natCast, Nat.add_zero, h2]
  simp
theorem dig2_no {n : Nat} (h : n ≤ 99) : ∀ x ∈ dig2 n, x ≠ 32 := by
  intro x hx e
  subst e
  have : ∀ m : Fin 100, (32 : UInt8) ∉ dig2 m.val := by decide +kernel
  exact this ⟨n, by omega⟩ hx
theorem split_text : ∀ (l : List Nat), l ≠ [] → (∀ x ∈ l, x ≤ 99) → split (textN l) [32] = l.map dig2
  | [], h, _ => absurd rfl h
  | [n], _, hl => split_last (dig2_no (hl n (by simp)))
  | n :: m :: l, _, hl => by
    rw [textN_cons n (by simp), split_next (dig2_no (hl n (by simp))), split_text (m :: l) (by simp) (fun x hx => hl x (by simp [hx]))]
    rfl
theorem join_text : ∀ (l : List Nat), join (l.map dig2) [32] = textN l
  | [] => rfl
  | [n] => by simp [join, textN, List.intercalate]
  | n :: m :: l => by
    have ih := join_text (m :: l)
    rw [textN_cons n (by simp), ← ih]
    simp [join, List.intercalate]
theorem atoi_dig2 {n : Nat} (h : n ≤ 99) : atoiAll (dig2 n) = .ok (n : Int) := by
  have : ∀ m : Fin 100, atoiAll (dig2 m.val) = .ok (m.val : Int) := by decide +kernel
  exact this ⟨n, by omega⟩
theorem decDigits_dig2 {n : Nat} (h : n ≤ 99) : decDigits n = dig2 n := by
  unfold dig2
  rw [decDigits]
  by_cases h1 : n < 10
  · rw [dif_pos h1, if_pos h1]
  · rw [dif_neg h1, if_neg h1, decDigits, dif_pos (by omega)]
    rfl
end Go.Proofs.YtikfeemmjfoffaaDoor
