/- Trees: what a text's tree is, for the program's way of reading and for the reference's. -/
import Derived.Test.YtikfeemmjfoffaaDoorP2
set_option linter.unusedVariables false
set_option linter.unusedSimpArgs false
namespace Go.Proofs.YtikfeemmjfoffaaDoor
open Go.Lib

structure Tr where
  h : Int
  b : Int
  lv : List Int
  tb : List (List Int)
deriving DecidableEq
/-- 2 ^ h, for the small exponents that are met. -/
def pw (h : Int) : Nat := 2 ^ h.toNat
/-- All numbers are values. -/
def valsOk (l : List Int) (b : Int) : Bool := l.all fun x => decide (0 ≤ x) && decide (x < (pw b : Int))
def validT (t : Tr) : Bool :=
  decide (0 ≤ t.h) && decide (t.h ≤ 6) && decide (1 ≤ t.b) && decide (t.b ≤ 6) && decide (t.tb.length = pw t.h - 1) && (t.tb.all fun l => decide (l.length = pw (2 * t.b)) && valsOk l t.b) && (decide (t.lv.length = pw t.h) && valsOk t.lv t.b)
/-- The numbers of the text. -/
def numsT (t : Tr) : List Int := t.h :: t.b :: (t.lv ++ t.tb.flatten)
def textT (t : Tr) : List UInt8 := textN ((numsT t).map Int.toNat)
structure Good (t : Tr) : Prop where
  h0 : 0 ≤ t.h
  h6 : t.h ≤ 6
  b1 : 1 ≤ t.b
  b6 : t.b ≤ 6
  tl : t.tb.length = pw t.h - 1
  tw : ∀ l ∈ t.tb, l.length = pw (2 * t.b)
  tv : ∀ l ∈ t.tb, ∀ x ∈ l, 0 ≤ x ∧ x < (pw t.b : Int)
  ll : t.lv.length = pw t.h
  lv : ∀ x ∈ t.lv, 0 ≤ x ∧ x < (pw t.b : Int)
theorem valsOk_iff {l : List Int} {b : Int} : valsOk l b = true ↔ ∀ x ∈ l, 0 ≤ x ∧ x < (pw b : Int) := by
  simp [valsOk]
theorem good_of {t : Tr} (h : validT t = true) : Good t := by
  simp only [validT, Bool.and_eq_true, decide_eq_true_eq, List.all_eq_true, valsOk_iff] at h
  obtain ⟨⟨⟨⟨⟨⟨h0, h6⟩, b1⟩, b6⟩, tl⟩, ht⟩, ll, lv⟩ := h
  exact ⟨h0, h6, b1, b6, tl, fun l hl => (ht l hl).1, fun l hl => (ht l hl).2, ll, lv⟩
theorem Good.valid {t : Tr} (g : Good t) : validT t = true := by
  simp only [validT, Bool.and_eq_true, decide_eq_true_eq, List.all_eq_true, valsOk_iff]
  exact ⟨⟨⟨⟨⟨⟨g.h0, g.h6⟩, g.b1⟩, g.b6⟩, g.tl⟩, fun l hl => ⟨g.tw l hl, g.tv l hl⟩⟩, g.ll, g.lv⟩
theorem pw_le {b : Int} (h : b ≤ 6) : pw b ≤ 64 := by
  have : 2 ^ b.toNat ≤ 2 ^ 6 := Nat.pow_le_pow_right (by decide) (by omega)
  exact this
theorem Good.nums {t : Tr} (g : Good t) : ∀ x ∈ numsT t, 0 ≤ x ∧ x ≤ 99 := by
  have hp := pw_le g.b6
  intro x hx
  simp only [numsT, List.mem_cons, List.mem_append, List.mem_flatten] at hx
  rcases hx with rfl | rfl | hx | ⟨l, hl, hx⟩
  · have := g.h0; have := g.h6; omega
  · have := g.b1; have := g.b6; omega
  · have := g.lv x hx; omega
  · have := g.tv l hl x hx; omega
theorem toNat_back : ∀ {l : List Int}, (∀ x ∈ l, 0 ≤ x) → (l.map Int.toNat).map (fun n : Nat => (n : Int)) = l
  | [], _ => rfl
  | x :: l, h => by
    have h1 := h x (by simp)
    rw [List.map_cons, List.map_cons, toNat_back (l := l) (fun y hy => h y (by simp [hy]))]
    congr 1
    omega
/-- Pieces of m from the front, k times. -/
def chop (m : Nat) : Nat → List Int → List (List Int)
  | 0, _ => []
  | k + 1, l => l.take m :: chop m k (l.drop m)
theorem chop_flatten : ∀ {m : Nat} {ls : List (List Int)} (rest : List Int), (∀ l ∈ ls, l.length = m) → chop m ls.length (ls.flatten ++ rest) = ls
  | _, [], _, _ => rfl
  | m, l :: ls, rest, h => by
    have hl := h l (by simp)
    rw [List.length_cons, chop, List.flatten_cons, List.append_assoc]
    have h1 : (l ++ (ls.flatten ++ rest)).take m = l := by rw [← hl, List.take_left]
    have h2 : (l ++ (ls.flatten ++ rest)).drop m = ls.flatten ++ rest := by rw [← hl, List.drop_left]
    rw [h1, h2, chop_flatten rest (fun x hx => h x (by simp [hx]))]
/-- The tree of a row of numbers. -/
def ofNums (l : List Int) : Tr := ⟨l.getD 0 0, l.getD 1 0, (l.drop 2).take (pw (l.getD 0 0)), chop (pw (2 * l.getD 1 0)) (pw (l.getD 0 0) - 1) ((l.drop 2).drop (pw (l.getD 0 0)))⟩
theorem Good.back {t : Tr} (g : Good t) : ofNums (numsT t) = t := by
  obtain ⟨h, b, lv, tb⟩ := t
  have e1 : (lv ++ tb.flatten).take (pw h) = lv := by
    have := g.ll
    simp only at this
    rw [← this, List.take_left]
  have e2 : (lv ++ tb.flatten).drop (pw h) = tb.flatten ++ [] := by
    have := g.ll
    simp only at this
    rw [← this, List.drop_left, List.append_nil]
  have e3 : chop (pw (2 * b)) (pw h - 1) (tb.flatten ++ []) = tb := by
    have := g.tl
    simp only at this
    rw [← this]
    exact chop_flatten [] g.tw
  show Tr.mk h b ((lv ++ tb.flatten).take (pw h)) (chop (pw (2 * b)) (pw h - 1) ((lv ++ tb.flatten).drop (pw h))) = _
  rw [e1, e2, e3]
/-- All words are numbers. -/
def wordsN : List (List UInt8) → Option (List Int)
  | [] => some []
  | w :: ws => match atoiAll w with
    | .ok v => (wordsN ws).map (v :: ·)
    | _ => none
theorem wordsN_dig : ∀ {l : List Nat}, (∀ x ∈ l, x ≤ 99) → wordsN (l.map dig2) = some (l.map fun n : Nat => (n : Int))
  | [], _ => rfl
  | n :: l, h => by
    rw [List.map_cons, wordsN, atoi_dig2 (h n (by simp)), wordsN_dig (l := l) (fun x hx => h x (by simp [hx]))]
    rfl
/-- The program's reading. -/
def parseP (s : List UInt8) : Option Tr :=
  if 40000 < s.length then none else match wordsN (split s [32]) with
    | none => none
    | some l =>
      if l.length < 2 ∨ l.getD 0 0 < 0 ∨ 6 < l.getD 0 0 ∨ l.getD 1 0 < 1 ∨ 6 < l.getD 1 0 then none
      else if validT (ofNums l) = true ∧ (textT (ofNums l)).length ≤ 40000 ∧ textT (ofNums l) = s then some (ofNums l) else none
theorem parseP_iff {s : List UInt8} {t : Tr} : parseP s = some t ↔ validT t = true ∧ textT t = s ∧ s.length ≤ 40000 := by
  constructor
  · intro h
    unfold parseP at h
    split at h
    · cases h
    · rename_i h1
      split at h
      · cases h
      · split at h
        · cases h
        · split at h
          · rename_i h2
            injection h with h
            subst h
            exact ⟨h2.1, h2.2.2, by omega⟩
          · cases h
  · rintro ⟨hv, rfl, hl⟩
    have g := good_of hv
    have hn := g.nums
    have hne : (numsT t).map Int.toNat ≠ [] := by simp [numsT]
    have h99 : ∀ x ∈ (numsT t).map Int.toNat, x ≤ 99 := by
      intro x hx
      obtain ⟨y, hy, rfl⟩ := List.mem_map.1 hx
      have := hn y hy
      omega
    have hs : wordsN (split (textT t) [32]) = some (numsT t) := by
      unfold textT
      rw [split_text _ hne h99, wordsN_dig h99, toNat_back (fun x hx => (hn x hx).1)]
    have hh := g.h0; have hh6 := g.h6; have hb := g.b1; have hb6 := g.b6
    have c1 : (numsT t).getD 0 0 = t.h := rfl
    have c2 : (numsT t).getD 1 0 = t.b := rfl
    have c3 : 2 ≤ (numsT t).length := by simp [numsT]
    unfold parseP
    rw [if_neg (by omega), hs]
    simp only [c1, c2, g.back]
    rw [if_neg (by omega), if_pos ⟨hv, hl, trivial⟩]
/-- The reference's reading. -/
def parseR (s : List UInt8) : Option Tr :=
  match readN s 0 0 with
  | none => none
  | some k =>
    let l := k.map fun n : Nat => (n : Int)
    if 40000 < s.length ∨ l.length < 2 ∨ 6 < l.getD 0 0 ∨ l.getD 1 0 < 1 ∨ 6 < l.getD 1 0 then none
    else if l.length ≠ 2 + pw (l.getD 0 0) + (pw (l.getD 0 0) - 1) * pw (2 * l.getD 1 0) then none
    else if validT (ofNums l) = true then some (ofNums l) else none
theorem flatten_len : ∀ {m : Nat} {ls : List (List Int)}, (∀ l ∈ ls, l.length = m) → ls.flatten.length = ls.length * m
  | _, [], _ => by simp
  | m, l :: ls, h => by
    rw [List.flatten_cons, List.length_append, flatten_len (fun x hx => h x (by simp [hx])), h l (by simp), List.length_cons, Nat.add_mul, Nat.one_mul, Nat.add_comm]
theorem chop_back : ∀ (m k : Nat) (l : List Int), l.length = k * m → (chop m k l).flatten = l
  | _, 0, l, h => by
    have : l = [] := List.eq_nil_of_length_eq_zero (by omega)
    rw [this]; rfl
  | m, k + 1, l, h => by
    rw [chop, List.flatten_cons, chop_back m k (l.drop m) (by rw [List.length_drop, h, Nat.add_mul]; omega), List.take_append_drop]
theorem nums_back {l : List Int} (h2 : 2 ≤ l.length) (hl : l.length = 2 + pw (l.getD 0 0) + (pw (l.getD 0 0) - 1) * pw (2 * l.getD 1 0)) : numsT (ofNums l) = l := by
  match l, h2 with
  | a :: b :: r, _ =>
    simp only [List.getD_cons_zero, List.getD_cons_succ, List.length_cons] at hl
    show a :: b :: (r.take (pw a) ++ (chop (pw (2 * b)) (pw a - 1) (r.drop (pw a))).flatten) = _
    rw [chop_back _ _ _ (by rw [List.length_drop]; omega), List.take_append_drop]
theorem parseR_iff {s : List UInt8} {t : Tr} : parseR s = some t ↔ validT t = true ∧ textT t = s ∧ s.length ≤ 40000 := by
  constructor
  · intro h
    unfold parseR at h
    split at h
    · cases h
    · rename_i k hk
      obtain ⟨a, b, e⟩ := readN_iff.1 hk
      simp only at h
      split at h
      · cases h
      · rename_i h1
        split at h
        · cases h
        · rename_i h2
          split at h
          · rename_i h3
            injection h with h
            subst h
            refine ⟨h3, ?_, by omega⟩
            unfold textT
            rw [nums_back (by omega) (by omega), e, List.map_map]
            congr 1
            exact List.map_id'' (fun n => by simp) k
          · cases h
  · rintro ⟨hv, rfl, hl⟩
    have g := good_of hv
    have hn := g.nums
    have h99 : ∀ x ∈ (numsT t).map Int.toNat, x ≤ 99 := by
      intro x hx
      obtain ⟨y, hy, rfl⟩ := List.mem_map.1 hx
      have := hn y hy
      omega
    have hs : readN (textT t) 0 0 = some ((numsT t).map Int.toNat) := readN_text _ (by simp [numsT]) h99
    have hh := g.h0; have hh6 := g.h6; have hb := g.b1; have hb6 := g.b6
    have c1 : (numsT t).getD 0 0 = t.h := rfl
    have c2 : (numsT t).getD 1 0 = t.b := rfl
    have c3 : (numsT t).length = 2 + pw t.h + (pw t.h - 1) * pw (2 * t.b) := by
      simp only [numsT, List.length_cons, List.length_append, g.ll, flatten_len g.tw, g.tl]
      omega
    unfold parseR
    rw [hs]
    simp only [toNat_back (fun x hx => (hn x hx).1), c1, c2, g.back]
    rw [if_neg (by omega), if_neg (by omega), if_pos hv]
/-- Both read the same. -/
theorem parse_same (s : List UInt8) : parseP s = parseR s := by
  cases h : parseR s with
  | some t => exact parseP_iff.2 (parseR_iff.1 h)
  | none =>
    cases h2 : parseP s with
    | none => rfl
    | some t =>
      have := parseR_iff.2 (parseP_iff.1 h2)
      rw [h] at this
      cases this
end Go.Proofs.YtikfeemmjfoffaaDoor
