/- Joined: P1, P2, P3, P4, P5, P6. -/
import Derived.Lib.Split
import Derived.Lib.SplitLaws
import Derived.Lib.AtoiAll
import Derived.Lib.ItoaNum
import Derived.Lib.Join
import Derived.Lib.IndexBytes
/- Numbers of at most two digits in a row, separated by blanks: the text that lists them, and how the reference reads it. -/
set_option linter.unusedVariables false
set_option linter.unusedSimpArgs false
namespace Go.Proofs.YtikfeemmjfoffaaGreatDoor

/-- The digits of a number below 100. -/
def dig2 (n : Nat) : List UInt8 := if n < 10 then [UInt8.ofNat (48 + n)] else [UInt8.ofNat (48 + n / 10), UInt8.ofNat (48 + n % 10)]
/-- The text of a list of numbers: blanks between them. -/
def textN : List Nat → List UInt8
  | [] => []
  | [n] => dig2 n
  | n :: m :: l => dig2 n ++ 32 :: textN (m :: l)
theorem textN_cons (n : Nat) {l : List Nat} (h : l ≠ []) : textN (n :: l) = dig2 n ++ 32 :: textN l := by
  cases l with
  | nil => exact absurd rfl h
  | cons m l => rfl
/-- A number ends here. -/
def endOk (n d : Nat) : Bool := !(d == 0 || decide (2 < d) || (d == 2 && decide (n < 10)))
/-- The reference's reading, from a place on: n is the number so far, d how many digits it has. -/
def readN : List UInt8 → Nat → Nat → Option (List Nat)
  | [], n, d => if endOk n d then some [n] else none
  | c :: s, n, d =>
    if c.toNat = 32 then (if endOk n d then (readN s 0 0).map (n :: ·) else none)
    else if c.toNat < 48 ∨ 57 < c.toNat then none
    else readN s (min (10 * n + (c.toNat - 48)) 1000) (d + 1)
/-- What has been read of the number under way. -/
def pre (n d : Nat) : List UInt8 := if d = 0 then [] else if d = 1 then [UInt8.ofNat (48 + n)] else [UInt8.ofNat (48 + n / 10), UInt8.ofNat (48 + n % 10)]
/-- A state that the reading reaches and that may still end well. -/
def Mid (n d : Nat) : Prop := (d = 0 ∧ n = 0) ∨ (d = 1 ∧ n ≤ 9) ∨ (d = 2 ∧ n ≤ 99) ∨ 3 ≤ d
theorem pre_dig {n d : Nat} (h : Mid n d) (he : endOk n d = true) : pre n d = dig2 n ∧ n ≤ 99 := by
  simp only [endOk, Bool.not_eq_true', Bool.or_eq_false_iff, Bool.and_eq_false_iff, beq_eq_false_iff_ne, decide_eq_false_iff_not] at he
  unfold pre dig2
  rcases h with ⟨rfl, rfl⟩ | ⟨rfl, h⟩ | ⟨rfl, h⟩ | h
  · exact absurd rfl he.1.1
  · rw [if_neg (by omega), if_pos rfl, if_pos (by omega)]; exact ⟨rfl, by omega⟩
  · have : ¬ n < 10 := by rcases he.2 with h | h <;> omega
    rw [if_neg (by omega), if_neg (by omega), if_neg this]; exact ⟨rfl, h⟩
  · omega
theorem u8_eq {c : UInt8} {k : Nat} (hk : k < 256) (h : c.toNat = k) : c = UInt8.ofNat k := by
  apply UInt8.toNat_inj.1
  rw [h, UInt8.toNat_ofNat_of_lt' (by simpa using hk)]
theorem pre_step {n d : Nat} {c : UInt8} (h : Mid n d) (h1 : 48 ≤ c.toNat) (h2 : c.toNat ≤ 57) (hd : d ≤ 1) : pre n d ++ [c] = pre (10 * n + (c.toNat - 48)) (d + 1) := by
  have hc : c = UInt8.ofNat (48 + (c.toNat - 48)) := u8_eq (by omega) (by omega)
  rcases h with ⟨rfl, rfl⟩ | ⟨rfl, h⟩ | ⟨rfl, h⟩ | h
  · show [c] = [UInt8.ofNat (48 + (10 * 0 + (c.toNat - 48)))]
    rw [Nat.mul_zero, Nat.zero_add, ← hc]
  · show [UInt8.ofNat (48 + n), c] = [UInt8.ofNat (48 + (10 * n + (c.toNat - 48)) / 10), UInt8.ofNat (48 + (10 * n + (c.toNat - 48)) % 10)]
    have e1 : (10 * n + (c.toNat - 48)) / 10 = n := by omega
    have e2 : (10 * n + (c.toNat - 48)) % 10 = c.toNat - 48 := by omega
    rw [e1, e2, ← hc]
  · omega
  · omega
theorem readN_big : ∀ (s : List UInt8) (n d : Nat), 3 ≤ d → readN s n d = none
  | [], n, d, h => by
    have : endOk n d = false := by simp [endOk]; omega
    simp [readN, this]
  | c :: s, n, d, h => by
    have : endOk n d = false := by simp [endOk]; omega
    rw [readN, this]
    split
    · rfl
    · split
      · rfl
      · exact readN_big s _ _ (by omega)
/-- What is read is the text of what comes out. -/
theorem readN_sound : ∀ (s : List UInt8) (n d : Nat) (l : List Nat), Mid n d → readN s n d = some l → l ≠ [] ∧ (∀ x ∈ l, x ≤ 99) ∧ pre n d ++ s = textN l
  | [], n, d, l, hm, h => by
    rw [readN] at h
    split at h
    · rename_i he
      injection h with h
      subst h
      obtain ⟨h1, h2⟩ := pre_dig hm he
      exact ⟨by simp, by simpa using h2, by rw [List.append_nil]; exact h1⟩
    · cases h
  | c :: s, n, d, l, hm, h => by
    rw [readN] at h
    split at h
    · rename_i hc
      split at h
      · rename_i he
        obtain ⟨l', h1, h2⟩ := Option.map_eq_some_iff.1 h
        subst h2
        obtain ⟨a, b, e⟩ := readN_sound s 0 0 l' (.inl ⟨rfl, rfl⟩) h1
        obtain ⟨p1, p2⟩ := pre_dig hm he
        have hc' : c = 32 := u8_eq (k := 32) (by decide) hc
        refine ⟨by simp, fun x hx => ?_, ?_⟩
        · rcases List.mem_cons.1 hx with rfl | hx
          · exact p2
          · exact b x hx
        · rw [textN_cons n a, p1, hc', ← e]
          rfl
      · cases h
    · split at h
      · cases h
      · rename_i h1 h2
        by_cases hd : d ≤ 1
        · have hmin : min (10 * n + (c.toNat - 48)) 1000 = 10 * n + (c.toNat - 48) := by
            rcases hm with ⟨rfl, rfl⟩ | ⟨rfl, hn⟩ | ⟨rfl, hn⟩ | hn <;> omega
          rw [hmin] at h
          obtain ⟨a, b, e⟩ := readN_sound s _ _ l (by
            rcases hm with ⟨rfl, rfl⟩ | ⟨rfl, hn⟩ | ⟨rfl, hn⟩ | hn
            · exact .inr (.inl ⟨rfl, by omega⟩)
            · exact .inr (.inr (.inl ⟨rfl, by omega⟩))
            · omega
            · omega) h
          refine ⟨a, b, ?_⟩
          rw [← e, ← pre_step hm (by omega) (by omega) hd]
          simp
        · rw [readN_big s _ _ (by omega)] at h
          cases h
theorem dig_toNat {k : Nat} (h : k < 10) : (UInt8.ofNat (48 + k)).toNat = 48 + k := UInt8.toNat_ofNat_of_lt' (show 48 + k < 256 by omega)
/-- The text of numbers below 100 is read. -/
theorem readN_text : ∀ (l : List Nat), l ≠ [] → (∀ x ∈ l, x ≤ 99) → readN (textN l) 0 0 = some l
  | [], h, _ => absurd rfl h
  | [n], _, hl => by
    have hn := hl n (by simp)
    show readN (dig2 n) 0 0 = some [n]
    unfold dig2
    by_cases h : n < 10
    · rw [if_pos h, readN, dig_toNat h, if_neg (by omega), if_neg (by omega), readN]
      have e1 : min (10 * 0 + (48 + n - 48)) 1000 = n := by omega
      rw [e1]
      simp [endOk]
    · rw [if_neg h, readN, dig_toNat (by omega), if_neg (by omega), if_neg (by omega), readN, dig_toNat (by omega), if_neg (by omega), if_neg (by omega), readN]
      have e1 : min (10 * min (10 * 0 + (48 + n / 10 - 48)) 1000 + (48 + n % 10 - 48)) 1000 = n := by omega
      rw [e1]
      have : ¬ n < 10 := h
      simp [endOk, this]
  | n :: m :: l, _, hl => by
    have hn := hl n (by simp)
    have ih := readN_text (m :: l) (by simp) (fun x hx => hl x (by simp [hx]))
    rw [textN_cons n (by simp)]
    unfold dig2
    by_cases h : n < 10
    · rw [if_pos h]
      show readN (UInt8.ofNat (48 + n) :: 32 :: textN (m :: l)) 0 0 = _
      rw [readN, dig_toNat h, if_neg (by omega), if_neg (by omega), readN, if_pos (by decide : (32 : UInt8).toNat = 32), ih]
      have e1 : min (10 * 0 + (48 + n - 48)) 1000 = n := by omega
      rw [e1]
      simp [endOk]
    · rw [if_neg h]
      show readN (UInt8.ofNat (48 + n / 10) :: UInt8.ofNat (48 + n % 10) :: 32 :: textN (m :: l)) 0 0 = _
      rw [readN, dig_toNat (by omega), if_neg (by omega), if_neg (by omega), readN, dig_toNat (by omega), if_neg (by omega), if_neg (by omega), readN, if_pos (by decide : (32 : UInt8).toNat = 32), ih]
      have e1 : min (10 * min (10 * 0 + (48 + n / 10 - 48)) 1000 + (48 + n % 10 - 48)) 1000 = n := by omega
      rw [e1]
      have : ¬ n < 10 := h
      simp [endOk, this]
/-- The reading is exact. -/
theorem readN_iff {s : List UInt8} {l : List Nat} : readN s 0 0 = some l ↔ l ≠ [] ∧ (∀ x ∈ l, x ≤ 99) ∧ s = textN l :=
  ⟨fun h => by obtain ⟨a, b, c⟩ := readN_sound s 0 0 l (.inl ⟨rfl, rfl⟩) h; exact ⟨a, b, c⟩, fun ⟨a, b, c⟩ => by rw [c]; exact readN_text l a b⟩
end Go.Proofs.YtikfeemmjfoffaaGreatDoor

/- The text of numbers in the words of the library's contracts: Join, Split, Atoi, Itoa. -/
set_option linter.unusedVariables false
set_option linter.unusedSimpArgs false
namespace Go.Proofs.YtikfeemmjfoffaaGreatDoor
open Go.Lib

theorem indexByte_pre : ∀ (d rest : List UInt8), (∀ x ∈ d, x ≠ 32) → indexByte (d ++ 32 :: rest) 32 = d.length
  | [], rest, _ => by simp [indexByte]
  | x :: d, rest, h => by
    have ih := indexByte_pre d rest (fun y hy => h y (by simp [hy]))
    have hx : (x == 32) = false := by simpa using h x (by simp)
    have h0 : ((d.length : Int) == -1) = false := by simp
    simp only [List.cons_append, indexByte, hx, ih, h0, Bool.false_eq_true, if_false, List.length_cons]
    omega
theorem indexByte_no : ∀ (d : List UInt8), (∀ x ∈ d, x ≠ 32) → indexByte d 32 = -1
  | [], _ => rfl
  | x :: d, h => by
    have ih := indexByte_no d (fun y hy => h y (by simp [hy]))
    have hx : (x == 32) = false := by simpa using h x (by simp)
    simp [indexByte, hx, ih]
theorem split_last {d : List UInt8} (h : ∀ x ∈ d, x ≠ 32) : split d [32] = [d] := by
  have h1 : index d [32] = -1 := by rw [index_one]; exact indexByte_no d h
  unfold split
  rw [count_miss h1]
  rfl
theorem split_next {d rest : List UInt8} (h : ∀ x ∈ d, x ≠ 32) : split (d ++ 32 :: rest) [32] = d :: split rest [32] := by
  have h1 : index (d ++ 32 :: rest) [32] = (d.length : Int) := by rw [index_one]; exact indexByte_pre d rest h
  have h2 : (d ++ 32 :: rest).drop (d.length + [(32 : UInt8)].length) = rest := by simp
  unfold split
  rw [count_hit (by simp) h1, h2, Nat.add_comm 1]
  show (if index (d ++ 32 :: rest) [32] == -1 then _ else _) = _
  rw [h1]
  have h0 : ((d.length : Int) == -1) = false := by simp
  rw [h0]
  simp only [Bool.false_eq_true, if_false, Int.toNat_natCast, Nat.add_zero, h2]
  simp
theorem dig2_no {n : Nat} (h : n ≤ 99) : ∀ x ∈ dig2 n, x ≠ 32 := by
  intro x hx e
  subst e
  have : ∀ m : Fin 100, (32 : UInt8) ∉ dig2 m.val := by decide +kernel
  exact this ⟨n, by omega⟩ hx
theorem split_text : ∀ (l : List Nat), l ≠ [] → (∀ x ∈ l, x ≤ 99) → split (textN l) [32] = l.map dig2
  | [], h, _ => absurd rfl h
  | [n], _, hl => split_last (dig2_no (hl n (by simp)))
  | n :: m :: l, _, hl => by
    rw [textN_cons n (by simp), split_next (dig2_no (hl n (by simp))), split_text (m :: l) (by simp) (fun x hx => hl x (by simp [hx]))]
    rfl
theorem join_text : ∀ (l : List Nat), join (l.map dig2) [32] = textN l
  | [] => rfl
  | [n] => by simp [join, textN, List.intercalate]
  | n :: m :: l => by
    have ih := join_text (m :: l)
    rw [textN_cons n (by simp), ← ih]
    simp [join, List.intercalate]
theorem atoi_dig2 {n : Nat} (h : n ≤ 99) : atoiAll (dig2 n) = .ok (n : Int) := by
  have : ∀ m : Fin 100, atoiAll (dig2 m.val) = .ok (m.val : Int) := by decide +kernel
  exact this ⟨n, by omega⟩
theorem decDigits_dig2 {n : Nat} (h : n ≤ 99) : decDigits n = dig2 n := by
  unfold dig2
  rw [decDigits]
  by_cases h1 : n < 10
  · rw [dif_pos h1, if_pos h1]
  · rw [dif_neg h1, if_neg h1, decDigits, dif_pos (by omega)]
    rfl
end Go.Proofs.YtikfeemmjfoffaaGreatDoor

/- Trees: what a text's tree is, for the program's way of reading and for the reference's. -/
set_option linter.unusedVariables false
set_option linter.unusedSimpArgs false
namespace Go.Proofs.YtikfeemmjfoffaaGreatDoor
open Go.Lib

structure Tr where
  h : Int
  b : Int
  lv : List Int
  tb : List (List Int)
deriving DecidableEq
/-- 2 ^ h, for the small exponents that are met. -/
def pw (h : Int) : Nat := 2 ^ h.toNat
/-- All numbers are values. -/
def valsOk (l : List Int) (b : Int) : Bool := l.all fun x => decide (0 ≤ x) && decide (x < (pw b : Int))
def validT (t : Tr) : Bool :=
  decide (0 ≤ t.h) && decide (t.h ≤ 6) && decide (1 ≤ t.b) && decide (t.b ≤ 6) && decide (t.tb.length = pw t.h - 1) && (t.tb.all fun l => decide (l.length = pw (2 * t.b)) && valsOk l t.b) && (decide (t.lv.length = pw t.h) && valsOk t.lv t.b)
/-- The numbers of the text. -/
def numsT (t : Tr) : List Int := t.h :: t.b :: (t.lv ++ t.tb.flatten)
def textT (t : Tr) : List UInt8 := textN ((numsT t).map Int.toNat)
structure Good (t : Tr) : Prop where
  h0 : 0 ≤ t.h
  h6 : t.h ≤ 6
  b1 : 1 ≤ t.b
  b6 : t.b ≤ 6
  tl : t.tb.length = pw t.h - 1
  tw : ∀ l ∈ t.tb, l.length = pw (2 * t.b)
  tv : ∀ l ∈ t.tb, ∀ x ∈ l, 0 ≤ x ∧ x < (pw t.b : Int)
  ll : t.lv.length = pw t.h
  lv : ∀ x ∈ t.lv, 0 ≤ x ∧ x < (pw t.b : Int)
theorem valsOk_iff {l : List Int} {b : Int} : valsOk l b = true ↔ ∀ x ∈ l, 0 ≤ x ∧ x < (pw b : Int) := by
  simp [valsOk]
theorem good_of {t : Tr} (h : validT t = true) : Good t := by
  simp only [validT, Bool.and_eq_true, decide_eq_true_eq, List.all_eq_true, valsOk_iff] at h
  obtain ⟨⟨⟨⟨⟨⟨h0, h6⟩, b1⟩, b6⟩, tl⟩, ht⟩, ll, lv⟩ := h
  exact ⟨h0, h6, b1, b6, tl, fun l hl => (ht l hl).1, fun l hl => (ht l hl).2, ll, lv⟩
theorem Good.valid {t : Tr} (g : Good t) : validT t = true := by
  simp only [validT, Bool.and_eq_true, decide_eq_true_eq, List.all_eq_true, valsOk_iff]
  exact ⟨⟨⟨⟨⟨⟨g.h0, g.h6⟩, g.b1⟩, g.b6⟩, g.tl⟩, fun l hl => ⟨g.tw l hl, g.tv l hl⟩⟩, g.ll, g.lv⟩
theorem pw_le {b : Int} (h : b ≤ 6) : pw b ≤ 64 := by
  have : 2 ^ b.toNat ≤ 2 ^ 6 := Nat.pow_le_pow_right (by decide) (by omega)
  exact this
theorem Good.nums {t : Tr} (g : Good t) : ∀ x ∈ numsT t, 0 ≤ x ∧ x ≤ 99 := by
  have hp := pw_le g.b6
  intro x hx
  simp only [numsT, List.mem_cons, List.mem_append, List.mem_flatten] at hx
  rcases hx with rfl | rfl | hx | ⟨l, hl, hx⟩
  · have := g.h0; have := g.h6; omega
  · have := g.b1; have := g.b6; omega
  · have := g.lv x hx; omega
  · have := g.tv l hl x hx; omega
theorem toNat_back : ∀ {l : List Int}, (∀ x ∈ l, 0 ≤ x) → (l.map Int.toNat).map (fun n : Nat => (n : Int)) = l
  | [], _ => rfl
  | x :: l, h => by
    have h1 := h x (by simp)
    rw [List.map_cons, List.map_cons, toNat_back (l := l) (fun y hy => h y (by simp [hy]))]
    congr 1
    omega
/-- Pieces of m from the front, k times. -/
def chop (m : Nat) : Nat → List Int → List (List Int)
  | 0, _ => []
  | k + 1, l => l.take m :: chop m k (l.drop m)
theorem chop_flatten : ∀ {m : Nat} {ls : List (List Int)} (rest : List Int), (∀ l ∈ ls, l.length = m) → chop m ls.length (ls.flatten ++ rest) = ls
  | _, [], _, _ => rfl
  | m, l :: ls, rest, h => by
    have hl := h l (by simp)
    rw [List.length_cons, chop, List.flatten_cons, List.append_assoc]
    have h1 : (l ++ (ls.flatten ++ rest)).take m = l := by rw [← hl, List.take_left]
    have h2 : (l ++ (ls.flatten ++ rest)).drop m = ls.flatten ++ rest := by rw [← hl, List.drop_left]
    rw [h1, h2, chop_flatten rest (fun x hx => h x (by simp [hx]))]
/-- The tree of a row of numbers. -/
def ofNums (l : List Int) : Tr := ⟨l.getD 0 0, l.getD 1 0, (l.drop 2).take (pw (l.getD 0 0)), chop (pw (2 * l.getD 1 0)) (pw (l.getD 0 0) - 1) ((l.drop 2).drop (pw (l.getD 0 0)))⟩
theorem Good.back {t : Tr} (g : Good t) : ofNums (numsT t) = t := by
  obtain ⟨h, b, lv, tb⟩ := t
  have e1 : (lv ++ tb.flatten).take (pw h) = lv := by
    have := g.ll
    simp only at this
    rw [← this, List.take_left]
  have e2 : (lv ++ tb.flatten).drop (pw h) = tb.flatten ++ [] := by
    have := g.ll
    simp only at this
    rw [← this, List.drop_left, List.append_nil]
  have e3 : chop (pw (2 * b)) (pw h - 1) (tb.flatten ++ []) = tb := by
    have := g.tl
    simp only at this
    rw [← this]
    exact chop_flatten [] g.tw
  show Tr.mk h b ((lv ++ tb.flatten).take (pw h)) (chop (pw (2 * b)) (pw h - 1) ((lv ++ tb.flatten).drop (pw h))) = _
  rw [e1, e2, e3]
/-- All words are numbers. -/
def wordsN : List (List UInt8) → Option (List Int)
  | [] => some []
  | w :: ws => match atoiAll w with
    | .ok v => (wordsN ws).map (v :: ·)
    | _ => none
theorem wordsN_dig : ∀ {l : List Nat}, (∀ x ∈ l, x ≤ 99) → wordsN (l.map dig2) = some (l.map fun n : Nat => (n : Int))
  | [], _ => rfl
  | n :: l, h => by
    rw [List.map_cons, wordsN, atoi_dig2 (h n (by simp)), wordsN_dig (l := l) (fun x hx => h x (by simp [hx]))]
    rfl
/-- The program's reading. -/
def parseP (s : List UInt8) : Option Tr :=
  if 40000 < s.length then none else match wordsN (split s [32]) with
    | none => none
    | some l =>
      if l.length < 2 ∨ l.getD 0 0 < 0 ∨ 6 < l.getD 0 0 ∨ l.getD 1 0 < 1 ∨ 6 < l.getD 1 0 then none
      else if validT (ofNums l) = true ∧ (textT (ofNums l)).length ≤ 40000 ∧ textT (ofNums l) = s then some (ofNums l) else none
theorem parseP_iff {s : List UInt8} {t : Tr} : parseP s = some t ↔ validT t = true ∧ textT t = s ∧ s.length ≤ 40000 := by
  constructor
  · intro h
    unfold parseP at h
    split at h
    · cases h
    · rename_i h1
      split at h
      · cases h
      · split at h
        · cases h
        · split at h
          · rename_i h2
            injection h with h
            subst h
            exact ⟨h2.1, h2.2.2, by omega⟩
          · cases h
  · rintro ⟨hv, rfl, hl⟩
    have g := good_of hv
    have hn := g.nums
    have hne : (numsT t).map Int.toNat ≠ [] := by simp [numsT]
    have h99 : ∀ x ∈ (numsT t).map Int.toNat, x ≤ 99 := by
      intro x hx
      obtain ⟨y, hy, rfl⟩ := List.mem_map.1 hx
      have := hn y hy
      omega
    have hs : wordsN (split (textT t) [32]) = some (numsT t) := by
      unfold textT
      rw [split_text _ hne h99, wordsN_dig h99, toNat_back (fun x hx => (hn x hx).1)]
    have hh := g.h0; have hh6 := g.h6; have hb := g.b1; have hb6 := g.b6
    have c1 : (numsT t).getD 0 0 = t.h := rfl
    have c2 : (numsT t).getD 1 0 = t.b := rfl
    have c3 : 2 ≤ (numsT t).length := by simp [numsT]
    unfold parseP
    rw [if_neg (by omega), hs]
    simp only [c1, c2, g.back]
    rw [if_neg (by omega), if_pos ⟨hv, hl, trivial⟩]
/-- The reference's reading. -/
def parseR (s : List UInt8) : Option Tr :=
  match readN s 0 0 with
  | none => none
  | some k =>
    let l := k.map fun n : Nat => (n : Int)
    if 40000 < s.length ∨ l.length < 2 ∨ 6 < l.getD 0 0 ∨ l.getD 1 0 < 1 ∨ 6 < l.getD 1 0 then none
    else if l.length ≠ 2 + pw (l.getD 0 0) + (pw (l.getD 0 0) - 1) * pw (2 * l.getD 1 0) then none
    else if validT (ofNums l) = true then some (ofNums l) else none
theorem flatten_len : ∀ {m : Nat} {ls : List (List Int)}, (∀ l ∈ ls, l.length = m) → ls.flatten.length = ls.length * m
  | _, [], _ => by simp
  | m, l :: ls, h => by
    rw [List.flatten_cons, List.length_append, flatten_len (fun x hx => h x (by simp [hx])), h l (by simp), List.length_cons, Nat.add_mul, Nat.one_mul, Nat.add_comm]
theorem chop_back : ∀ (m k : Nat) (l : List Int), l.length = k * m → (chop m k l).flatten = l
  | _, 0, l, h => by
    have : l = [] := List.eq_nil_of_length_eq_zero (by omega)
    rw [this]; rfl
  | m, k + 1, l, h => by
    rw [chop, List.flatten_cons, chop_back m k (l.drop m) (by rw [List.length_drop, h, Nat.add_mul]; omega), List.take_append_drop]
theorem nums_back {l : List Int} (h2 : 2 ≤ l.length) (hl : l.length = 2 + pw (l.getD 0 0) + (pw (l.getD 0 0) - 1) * pw (2 * l.getD 1 0)) : numsT (ofNums l) = l := by
  match l, h2 with
  | a :: b :: r, _ =>
    simp only [List.getD_cons_zero, List.getD_cons_succ, List.length_cons] at hl
    show a :: b :: (r.take (pw a) ++ (chop (pw (2 * b)) (pw a - 1) (r.drop (pw a))).flatten) = _
    rw [chop_back _ _ _ (by rw [List.length_drop]; omega), List.take_append_drop]
theorem parseR_iff {s : List UInt8} {t : Tr} : parseR s = some t ↔ validT t = true ∧ textT t = s ∧ s.length ≤ 40000 := by
  constructor
  · intro h
    unfold parseR at h
    split at h
    · cases h
    · rename_i k hk
      obtain ⟨a, b, e⟩ := readN_iff.1 hk
      simp only at h
      split at h
      · cases h
      · rename_i h1
        split at h
        · cases h
        · rename_i h2
          split at h
          · rename_i h3
            injection h with h
            subst h
            refine ⟨h3, ?_, by omega⟩
            unfold textT
            rw [nums_back (by omega) (by omega), e, List.map_map]
            congr 1
            exact List.map_id'' (fun n => by simp) k
          · cases h
  · rintro ⟨hv, rfl, hl⟩
    have g := good_of hv
    have hn := g.nums
    have h99 : ∀ x ∈ (numsT t).map Int.toNat, x ≤ 99 := by
      intro x hx
      obtain ⟨y, hy, rfl⟩ := List.mem_map.1 hx
      have := hn y hy
      omega
    have hs : readN (textT t) 0 0 = some ((numsT t).map Int.toNat) := readN_text _ (by simp [numsT]) h99
    have hh := g.h0; have hh6 := g.h6; have hb := g.b1; have hb6 := g.b6
    have c1 : (numsT t).getD 0 0 = t.h := rfl
    have c2 : (numsT t).getD 1 0 = t.b := rfl
    have c3 : (numsT t).length = 2 + pw t.h + (pw t.h - 1) * pw (2 * t.b) := by
      simp only [numsT, List.length_cons, List.length_append, g.ll, flatten_len g.tw, g.tl]
      omega
    unfold parseR
    rw [hs]
    simp only [toNat_back (fun x hx => (hn x hx).1), c1, c2, g.back]
    rw [if_neg (by omega), if_neg (by omega), if_pos hv]
/-- Both read the same. -/
theorem parse_same (s : List UInt8) : parseP s = parseR s := by
  cases h : parseR s with
  | some t => exact parseP_iff.2 (parseR_iff.1 h)
  | none =>
    cases h2 : parseP s with
    | none => rfl
    | some t =>
      have := parseR_iff.2 (parseP_iff.1 h2)
      rw [h] at this
      cases this
end Go.Proofs.YtikfeemmjfoffaaGreatDoor

/- Trees: the value of a node, by recursion, and the row of all values from the last node to the first. -/
set_option linter.unusedVariables false
set_option linter.unusedSimpArgs false
namespace Go.Proofs.YtikfeemmjfoffaaGreatDoor

/-- The value of a node, by recursion. -/
def valW (t : Tr) (n : Nat) : Int :=
  if h : n < t.tb.length then (t.tb.getD n []).getD (valW t (2 * n + 1) * pw t.b + valW t (2 * n + 2)).toNat 0 else t.lv.getD (n - t.tb.length) 0
termination_by 2 * t.tb.length - n
decreasing_by all_goals omega
theorem valW_leaf {t : Tr} {n : Nat} (h : t.tb.length ≤ n) : valW t n = t.lv.getD (n - t.tb.length) 0 := by
  rw [valW, dif_neg (by omega)]
theorem valW_node {t : Tr} {n : Nat} (h : n < t.tb.length) : valW t n = (t.tb.getD n []).getD (valW t (2 * n + 1) * pw t.b + valW t (2 * n + 2)).toNat 0 := by
  rw [valW, dif_pos h]
theorem pw_two {b : Int} (h : 0 ≤ b) : pw (2 * b) = pw b * pw b := by
  unfold pw
  rw [show (2 * b).toNat = b.toNat + b.toNat by omega, Nat.pow_add]
theorem pw_pos (b : Int) : 0 < pw b := Nat.two_pow_pos _
/-- The place of two values in a table. -/
theorem at_lt {b : Int} (hb : 0 ≤ b) {x y : Int} (hx : 0 ≤ x ∧ x < (pw b : Int)) (hy : 0 ≤ y ∧ y < (pw b : Int)) : 0 ≤ x * pw b + y ∧ x * pw b + y < (pw (2 * b) : Int) := by
  rw [pw_two hb]
  have hp := pw_pos b
  have h1 : 0 ≤ x * (pw b : Int) := Int.mul_nonneg hx.1 (by omega)
  have h2 : x * (pw b : Int) ≤ ((pw b : Int) - 1) * pw b := Int.mul_le_mul_of_nonneg_right (by omega) (by omega)
  have h3 : ((pw b : Int) - 1) * pw b = (pw b : Int) * pw b - pw b := by rw [Int.sub_mul, Int.one_mul]
  have h4 : ((pw b * pw b : Nat) : Int) = (pw b : Int) * pw b := by simp
  rw [h4]
  omega
theorem Good.range {t : Tr} (g : Good t) : ∀ (k n : Nat), 2 * t.tb.length - n ≤ k → n ≤ 2 * t.tb.length → 0 ≤ valW t n ∧ valW t n < (pw t.b : Int) := by
  have hp := pw_pos t.h
  intro k
  induction k with
  | zero =>
    intro n hk hn
    have e : n = 2 * t.tb.length := by omega
    rw [valW_leaf (by omega)]
    have hl : n - t.tb.length < t.lv.length := by have := g.ll; have := g.tl; omega
    rw [List.getD_eq_getElem?_getD, List.getElem?_eq_getElem hl]
    exact g.lv _ (List.getElem_mem hl)
  | succ k ih =>
    intro n hk hn
    by_cases h : n < t.tb.length
    · rw [valW_node h]
      have h1 := ih (2 * n + 1) (by omega) (by omega)
      have h2 := ih (2 * n + 2) (by omega) (by omega)
      have h3 := at_lt (b := t.b) (by have := g.b1; omega) h1 h2
      have e1 : t.tb.getD n [] = t.tb[n] := by rw [List.getD_eq_getElem?_getD, List.getElem?_eq_getElem h]; rfl
      have hm : t.tb[n] ∈ t.tb := List.getElem_mem h
      rw [e1]
      have hl : (valW t (2 * n + 1) * pw t.b + valW t (2 * n + 2)).toNat < t.tb[n].length := by rw [g.tw _ hm]; omega
      rw [List.getD_eq_getElem?_getD, List.getElem?_eq_getElem hl]
      exact g.tv _ hm _ (List.getElem_mem hl)
    · rw [valW_leaf (by omega)]
      have hl : n - t.tb.length < t.lv.length := by have := g.ll; have := g.tl; omega
      rw [List.getD_eq_getElem?_getD, List.getElem?_eq_getElem hl]
      exact g.lv _ (List.getElem_mem hl)
theorem Good.range' {t : Tr} (g : Good t) {n : Nat} (h : n ≤ 2 * t.tb.length) : 0 ≤ valW t n ∧ valW t n < (pw t.b : Int) := g.range _ n (Nat.le_refl _) h
/-- The program's row while it goes from the last inner node to the first: what is at k and behind is right, the rest is 0. -/
def rowAt (t : Tr) (k : Nat) : List Int := (List.range (t.tb.length + t.lv.length)).map fun j => if k ≤ j then valW t j else 0
theorem rowAt_start (t : Tr) : rowAt t t.tb.length = List.replicate t.tb.length 0 ++ t.lv := by
  apply List.ext_getElem
  · simp [rowAt]
  · intro j h1 h2
    simp only [rowAt, List.getElem_map, List.getElem_range]
    by_cases h : j < t.tb.length
    · rw [if_neg (by omega), List.getElem_append_left (by simpa using h), List.getElem_replicate]
    · rw [if_pos (by omega), List.getElem_append_right (by simpa using (by omega : t.tb.length ≤ j)), valW_leaf (by omega), List.getD_eq_getElem?_getD]
      simp only [List.length_replicate]
      have : j - t.tb.length < t.lv.length := by simp [rowAt] at h1; omega
      rw [List.getElem?_eq_getElem this]
      rfl
theorem rowAt_get {t : Tr} {k j : Nat} (h : j < t.tb.length + t.lv.length) (hk : k ≤ j) : (rowAt t k).getD j 0 = valW t j := by
  rw [List.getD_eq_getElem?_getD]
  simp [rowAt, h, hk]
theorem rowAt_step {t : Tr} {k : Nat} : (rowAt t (k + 1)).set k (valW t k) = rowAt t k := by
  apply List.ext_getElem
  · simp [rowAt]
  · intro j h1 h2
    rw [List.getElem_set]
    simp only [rowAt, List.getElem_map, List.getElem_range]
    by_cases h : k = j
    · subst h
      rw [if_pos rfl, if_pos (Nat.le_refl _)]
    · rw [if_neg h]
      by_cases h3 : k ≤ j
      · rw [if_pos (by omega), if_pos h3]
      · rw [if_neg (by omega), if_neg h3]
theorem rowAt_end (t : Tr) : rowAt t 0 = (List.range (t.tb.length + t.lv.length)).map (valW t) := by
  unfold rowAt
  simp
end Go.Proofs.YtikfeemmjfoffaaGreatDoor

/- Trees: steps of the loops that write and read texts. -/
set_option linter.unusedVariables false
set_option linter.unusedSimpArgs false
namespace Go.Proofs.YtikfeemmjfoffaaGreatDoor

theorem textN_snoc : ∀ (l : List Nat) (n : Nat), textN (l ++ [n]) = textN l ++ (if l = [] then [] else [32]) ++ dig2 n
  | [], n => rfl
  | [m], n => by simp [textN]
  | m :: k :: l, n => by
    have ih := textN_snoc (k :: l) n
    have e1 : textN (m :: k :: l ++ [n]) = dig2 m ++ 32 :: textN (k :: l ++ [n]) := textN_cons m (by simp)
    have e2 : textN (m :: k :: l) = dig2 m ++ 32 :: textN (k :: l) := textN_cons m (by simp)
    rw [e1, ih, e2]
    simp
theorem dig2_len (n : Nat) : (dig2 n).length ≤ 2 := by unfold dig2; split <;> simp
theorem textN_len : ∀ (l : List Nat), (textN l).length ≤ 3 * l.length
  | [] => by simp [textN]
  | [n] => by have := dig2_len n; simp only [textN, List.length_cons, List.length_nil]; omega
  | n :: m :: l => by
    have := dig2_len n
    have ih := textN_len (m :: l)
    rw [textN_cons n (by simp)]
    simp only [List.length_append, List.length_cons] at ih ⊢
    omega
/-- The reading of numbers, step by step. -/
theorem readN_end (n d : Nat) : readN [] n d = if endOk n d then some [n] else none := rfl
theorem readN_blank {c : UInt8} (s : List UInt8) (n d : Nat) (h : c.toNat = 32) : readN (c :: s) n d = if endOk n d then (readN s 0 0).map (n :: ·) else none := by
  rw [readN, if_pos h]
theorem readN_bad {c : UInt8} (s : List UInt8) (n d : Nat) (h : c.toNat ≠ 32) (h1 : c.toNat < 48 ∨ 57 < c.toNat) : readN (c :: s) n d = none := by
  rw [readN, if_neg h, if_pos h1]
theorem readN_digit {c : UInt8} (s : List UInt8) (n d : Nat) (h1 : 48 ≤ c.toNat) (h2 : c.toNat ≤ 57) : readN (c :: s) n d = readN s (min (10 * n + (c.toNat - 48)) 1000) (d + 1) := by
  rw [readN, if_neg (by omega), if_neg (by omega)]
/-- Behind the numbers out, at place i with n and d under way, the whole reading is that of the rest. -/
def Reads (s : List UInt8) (i n d : Nat) (out : List Nat) : Prop := readN s 0 0 = (readN (s.drop i) n d).map (out ++ ·)
theorem reads_start (s : List UInt8) : Reads s 0 0 0 [] := by
  unfold Reads
  rw [List.drop_zero]
  cases readN s 0 0 <;> simp
theorem reads_end {s : List UInt8} {n d : Nat} {out : List Nat} (h : Reads s s.length n d out) : readN s 0 0 = if endOk n d then some (out ++ [n]) else none := by
  unfold Reads at h
  rw [h, List.drop_length, readN_end]
  split <;> rfl
theorem drop_at {α : Type} {l : List α} {i : Nat} (h : i < l.length) : l.drop i = l[i] :: l.drop (i + 1) := List.drop_eq_getElem_cons h
theorem reads_blank {s : List UInt8} {i n d : Nat} {out : List Nat} (h : Reads s i n d out) (hi : i < s.length) (hc : s[i].toNat = 32) (he : endOk n d = true) : Reads s (i + 1) 0 0 (out ++ [n]) := by
  unfold Reads at *
  rw [h, drop_at hi, readN_blank _ _ _ hc, if_pos he]
  cases readN (s.drop (i + 1)) 0 0 <;> simp
theorem reads_none1 {s : List UInt8} {i n d : Nat} {out : List Nat} (h : Reads s i n d out) (hi : i < s.length) (hc : s[i].toNat = 32) (he : endOk n d = false) : readN s 0 0 = none := by
  unfold Reads at h
  rw [h, drop_at hi, readN_blank _ _ _ hc, he]
  rfl
theorem reads_none2 {s : List UInt8} {i n d : Nat} {out : List Nat} (h : Reads s i n d out) (hi : i < s.length) (hc : s[i].toNat ≠ 32) (h1 : s[i].toNat < 48 ∨ 57 < s[i].toNat) : readN s 0 0 = none := by
  unfold Reads at h
  rw [h, drop_at hi, readN_bad _ _ _ hc h1]
  rfl
theorem reads_digit {s : List UInt8} {i n d : Nat} {out : List Nat} (h : Reads s i n d out) (hi : i < s.length) (h1 : 48 ≤ s[i].toNat) (h2 : s[i].toNat ≤ 57) : Reads s (i + 1) (min (10 * n + (s[i].toNat - 48)) 1000) (d + 1) out := by
  unfold Reads at *
  rw [h, drop_at hi, readN_digit _ _ _ h1 h2]
/-- The program's words, one by one. -/
def Words (ws : List (List UInt8)) (i : Nat) (l : List Int) : Prop := wordsN ws = (wordsN (ws.drop i)).map (l ++ ·)
theorem words_start (ws : List (List UInt8)) : Words ws 0 [] := by
  unfold Words
  rw [List.drop_zero]
  cases wordsN ws <;> simp
theorem words_end {ws : List (List UInt8)} {l : List Int} (h : Words ws ws.length l) : wordsN ws = some l := by
  unfold Words at h
  rw [h, List.drop_length]
  simp [wordsN]
theorem words_next {ws : List (List UInt8)} {i : Nat} {l : List Int} (h : Words ws i l) (hi : i < ws.length) {v : Int} (hv : Go.Lib.atoiAll ws[i] = .ok v) : Words ws (i + 1) (l ++ [v]) := by
  unfold Words at *
  rw [h, drop_at hi, wordsN, hv]
  show ((wordsN (ws.drop (i + 1))).map (v :: ·)).map (l ++ ·) = _
  cases wordsN (ws.drop (i + 1)) <;> simp
theorem words_none {ws : List (List UInt8)} {i : Nat} {l : List Int} (h : Words ws i l) (hi : i < ws.length) (hv : ∀ v, Go.Lib.atoiAll ws[i] ≠ .ok v) : wordsN ws = none := by
  unfold Words at h
  rw [h, drop_at hi, wordsN]
  cases e : Go.Lib.atoiAll ws[i] with
  | ok v => exact absurd e (hv v)
  | _ => rfl
end Go.Proofs.YtikfeemmjfoffaaGreatDoor

/- The pieces of a text that is split are no longer than the text. -/
set_option linter.unusedVariables false
set_option linter.unusedSimpArgs false
namespace Go.Proofs.YtikfeemmjfoffaaGreatDoor
open Go.Lib
theorem splitK_small (sep : List UInt8) : ∀ (k : Nat) (s : List UInt8), ∀ x ∈ splitK sep 0 k s, x.length ≤ s.length
  | 0, s, x, h => by simp [splitK] at h; subst h; exact Nat.le_refl _
  | k + 1, s, x, h => by
    unfold splitK at h
    split at h
    · simp at h; subst h; exact Nat.le_refl _
    · rcases List.mem_cons.1 h with rfl | h
      · simp; omega
      · have := splitK_small sep k _ x h
        simp at this
        omega
theorem split_small {s : List UInt8} : ∀ x ∈ split s [32], x.length ≤ s.length := splitK_small _ _ _
end Go.Proofs.YtikfeemmjfoffaaGreatDoor
