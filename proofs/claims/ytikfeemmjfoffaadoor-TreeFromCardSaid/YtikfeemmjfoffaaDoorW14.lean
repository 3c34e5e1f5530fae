/- Trees: the numbers of a string (the reference). -/
import Derived.Test.YtikfeemmjfoffaaDoorW13
set_option linter.unusedVariables false
set_option linter.unusedSimpArgs false
namespace Go.Proofs.YtikfeemmjfoffaaDoor
open Go.RowKit Go.Shelf

def natI (l : List Nat) : List Int := l.map fun n : Nat => (n : Int)
@[simp] theorem natI_length (l : List Nat) : (natI l).length = l.length := by simp [natI]
theorem natI_snoc (l : List Nat) (n : Nat) : natI l ++ [(n : Int)] = natI (l ++ [n]) := by simp [natI]
/-- Behind the numbers out, at place i. -/
def Sta (l : List UInt8) (i n d : Nat) (out : List Nat) : Prop := (i ≤ l.length ∧ Reads l i n d out) ∨ (i = l.length + 1 ∧ readN l 0 0 = some out)
theorem endOk_true {n d : Nat} (h1 : d ≠ 0) (h2 : d ≤ 2) (h3 : d ≠ 2 ∨ 10 ≤ n) : endOk n d = true := by
  simp only [endOk, Bool.not_eq_true', Bool.or_eq_false_iff, Bool.and_eq_false_iff, beq_eq_false_iff_ne, decide_eq_false_iff_not]
  omega
theorem endOk_false {n d : Nat} (h : d = 0 ∨ 2 < d ∨ (d = 2 ∧ n < 10)) : endOk n d = false := by
  simp only [endOk, Bool.not_eq_false', Bool.or_eq_true, Bool.and_eq_true, beq_iff_eq, decide_eq_true_eq]
  omega
def NumPost (s : ByteArray) (w : World) (e : Ending) (w' : World) : Prop :=
  match readN s.data.toList 0 0 with
  | none => e = .returned (.tuple #[.slice none 0 0, .bool false]) ∧ Kept w w'
  | some out => ∃ v, e = .returned (.tuple #[v, .bool true]) ∧ w'.ownsRow w.heap.size 3 1 v out.length (ints (natI out)) ∧ Kept w w'
theorem num_none {s : ByteArray} {w w' : World} (h : readN s.data.toList 0 0 = none) (k : Kept w w') : NumPost s w (.returned (.tuple #[.slice none 0 0, .bool false])) w' := by
  unfold NumPost; rw [h]; exact ⟨rfl, k⟩
theorem num_some {s : ByteArray} {w w' : World} {out : List Nat} {v : Value} (h : readN s.data.toList 0 0 = some out) (hr : w'.ownsRow w.heap.size 3 1 v out.length (ints (natI out))) (k : Kept w w') : NumPost s w (.returned (.tuple #[v, .bool true])) w' := by
  unfold NumPost; rw [h]; exact ⟨v, rfl, hr, k⟩

theorem byte_get {s : ByteArray} {i : Nat} (h : i < s.size) : s.data.toList[i]'(by simpa using h) = s[i] := by
  simp [ByteArray.getElem_eq_getElem_data]
theorem c32 {s : ByteArray} {i : Nat} (h : i < s.size) (hA : ((i : Int) == (s.size : Int)) = true ∨ ((s[i].toNat : Int) == 32) = true) : s[i].toNat = 32 := by
  rcases hA with h1 | h1
  · simp at h1; omega
  · simp at h1; omega
theorem n32 {s : ByteArray} {i : Nat} (h : i < s.size) (hA : ((i : Int) == (s.size : Int)) = false ∧ ((s[i].toNat : Int) == 32) = false) : s[i].toNat ≠ 32 := by
  have := hA.2
  simp at this
  omega
theorem blank_bad {s : ByteArray} {i n d : Nat} {out : List Nat} (hR : Reads s.data.toList i n d out) (h : i < s.size) (hc : s[i].toNat = 32) (he : endOk n d = false) : readN s.data.toList 0 0 = none :=
  reads_none1 hR (by simpa using h) (by rw [byte_get h]; exact hc) he
theorem blank_ok {s : ByteArray} {i n d : Nat} {out : List Nat} (hR : Reads s.data.toList i n d out) (h : i < s.size) (hc : s[i].toNat = 32) (he : endOk n d = true) : Sta s.data.toList (i + 1) 0 0 (out ++ [n]) :=
  .inl ⟨by simp; omega, reads_blank hR (by simpa using h) (by rw [byte_get h]; exact hc) he⟩
theorem char_bad {s : ByteArray} {i n d : Nat} {out : List Nat} (hR : Reads s.data.toList i n d out) (h : i < s.size) (hc : s[i].toNat ≠ 32) (h1 : s[i].toNat < 48 ∨ 57 < s[i].toNat) : readN s.data.toList 0 0 = none :=
  reads_none2 hR (by simpa using h) (by rw [byte_get h]; exact hc) (by rw [byte_get h]; exact h1)
theorem digit_ok {s : ByteArray} {i n d : Nat} {out : List Nat} (hR : Reads s.data.toList i n d out) (h : i < s.size) (h1 : 48 ≤ s[i].toNat) (h2 : s[i].toNat ≤ 57) : Sta s.data.toList (i + 1) (min (10 * n + (s[i].toNat - 48)) 1000) (d + 1) out :=
  .inl ⟨by simp; omega, by
    have := reads_digit hR (by simpa using h) (by rw [byte_get h]; exact h1) (by rw [byte_get h]; exact h2)
    rwa [byte_get h] at this⟩
set_option maxRecDepth 100000 in
set_option maxHeartbeats 1000000 in
theorem numbers33_any (s : ByteArray) (hs : s.size ≤ 41000) (w : World) : Calls Tryd.prog 33 #[.string s] w (NumPost s w) := by
  have hl : s.data.toList.length = s.size := by simp
  have HL := Lib.hid hl; clear hl
  go_enter Tryd.func33, Tryd.ntmps33
  go_wp2_with fail
  go_loopg [4, 5, 6, 7] (s.size + 1) (fun g' s4 s5 s6 s7 wr => ∃ (i n d : Nat) (out : List Nat), i ≤ s.size + 1 ∧ n ≤ 1000 ∧ d ≤ i ∧ out.length ≤ i ∧ Sta s.data.toList i n d out ∧ g' = s.size + 1 - i ∧ s5 = .int .i64 n ∧ s6 = .int .i64 d ∧ s7 = .int .i64 i ∧ wr.ownsRow w.heap.size 3 1 s4 out.length (ints (natI out)) ∧ Kept w wr)
  case atStart => exact ⟨0, 0, 0, [], by omega, by omega, by omega, by simp, .inl ⟨by simp, reads_start _⟩, by omega, rfl, rfl, rfl, World.ownsRow_nil _ _ _ _, kept_refl _⟩
  case round =>
    obtain ⟨i, n, d, out, hi, hn, hd, ho, hst, rfl, rfl, rfl, rfl, hr, k1⟩ := hrel
    have sz := k1.size
    by_cases hlt : i < s.size
    · have hR : Reads s.data.toList i n d out := by
        rcases hst with h | h
        · exact h.2
        · have := HL.out; omega
      have HR := Lib.hid hR; clear hst hR
      go_wp2_with (at_builtin; refine app_int w.heap.size rfl (.tmp 38) (.tmp 40) 22 3 rfl Tryd.underlying22 info3 u4 out.length (natI out) (n : Int) rfl rfl hr sz (by omega) ?_; intro v3 w3 hr3 hg3 hat3)
      · go_ret2
        exact num_none (blank_bad HR.out hlt (c32 hlt (by assumption)) (endOk_false (by omega))) k1
      · go_ret2
        exact num_none (blank_bad HR.out hlt (c32 hlt (by assumption)) (endOk_false (by omega))) k1
      · have k3 : Kept w w3 := kept_grown k1 hr (Nat.le_refl _) hg3
        rw [natI_snoc] at hr3
        go_roundg (s.size + 1 - (i + 1))
        case rel => exact ⟨i + 1, 0, 0, out ++ [n], by omega, by omega, by omega, by simp; omega, blank_ok HR.out hlt (c32 hlt (by assumption)) (endOk_true (by omega) (by omega) (by omega)), rfl, rfl, rfl, by go_num, by simpa using hr3, k3⟩
        case measure => omega
      · exfalso
        rcases (show ((d : Int) == 0) = true ∨ 2 < (d : Int) by assumption) with h | h
        · simp at h; omega
        · omega
      · have k3 : Kept w w3 := kept_grown k1 hr (Nat.le_refl _) hg3
        rw [natI_snoc] at hr3
        go_roundg (s.size + 1 - (i + 1))
        case rel => exact ⟨i + 1, 0, 0, out ++ [n], by omega, by omega, by omega, by simp; omega, blank_ok HR.out hlt (c32 hlt (by assumption)) (endOk_true (by omega) (by omega) (by omega)), rfl, rfl, rfl, by go_num, by simpa using hr3, k3⟩
        case measure => omega
      · go_ret2
        exact num_none (blank_bad HR.out hlt (c32 hlt (by assumption)) (endOk_false (by omega))) k1
      · go_ret2
        exact num_none (char_bad HR.out hlt (n32 hlt (by assumption)) (by omega)) k1
      · have h1 : 48 ≤ s[i].toNat := by omega
        have h2 : s[i].toNat ≤ 57 := by omega
        go_roundg (s.size + 1 - (i + 1))
        case rel => exact ⟨i + 1, min (10 * n + (s[i].toNat - 48)) 1000, d + 1, out, by omega, by omega, by omega, by omega, digit_ok HR.out hlt h1 h2, rfl, congrArg (Value.int .i64) (by omega), by go_num, by go_num, hr, k1⟩
        case measure => omega
      · go_ret2
        exact num_none (char_bad HR.out hlt (n32 hlt (by assumption)) (by omega)) k1
    · by_cases he : i = s.size
      · subst he
        have hR : Reads s.data.toList s.data.toList.length n d out := by
          rcases hst with h | h
          · have := h.2; rw [HL.out]; exact this
          · have := HL.out; omega
        have hE := reads_end hR
        have HR := Lib.hid hE; clear hst hR hE
        go_wp2_with (at_builtin; refine app_int w.heap.size rfl (.tmp 38) (.tmp 40) 22 3 rfl Tryd.underlying22 info3 u4 out.length (natI out) (n : Int) rfl rfl hr sz (by omega) ?_; intro v3 w3 hr3 hg3 hat3)
        all_goals first
          | (have k3 : Kept w w3 := kept_grown k1 hr (Nat.le_refl _) hg3
             rw [natI_snoc] at hr3
             go_roundg 0
             case rel => exact ⟨s.size + 1, 0, 0, out ++ [n], by omega, by omega, by omega, by simp; omega, .inr ⟨by rw [HL.out], by rw [HR.out, endOk_true (by omega) (by omega) (by omega)]; rfl⟩, by omega, rfl, rfl, by go_num, by simpa using hr3, k3⟩
             case measure => omega)
          | (go_ret2
             exact num_none (by rw [HR.out, endOk_false (by omega)]; rfl) k1)
          | (exfalso
             rcases (show ((d : Int) == 0) = true ∨ 2 < (d : Int) by assumption) with h | h
             · simp at h; omega
             · omega)
      · have : i = s.size + 1 := by omega
        subst this
        have hf : readN s.data.toList 0 0 = some out := by
          rcases hst with h | h
          · have := HL.out; omega
          · exact h.2
        have HR := Lib.hid hf; clear hst hf
        go_wp2_with fail
        go_ret2
        exact num_some HR.out hr k1
end Go.Proofs.YtikfeemmjfoffaaDoor
