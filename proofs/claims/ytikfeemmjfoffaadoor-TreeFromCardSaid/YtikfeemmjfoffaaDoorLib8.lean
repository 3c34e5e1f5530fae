/- General words, eighth part: a struct of four cells stored whole; windows of a row that is known. -/
import Derived.Test.YtikfeemmjfoffaaDoorLib7
import Derived.Lib.SlBytesRow
set_option linter.unusedVariables false
set_option linter.unusedSimpArgs false
namespace Go.Proofs.YtikfeemmjfoffaaDoor
open Go.RowKit

abbrev set4 (w : World) (g : Nat) (a b c d : Value) : World := (((w.setCell ⟨g, 0, none⟩ a).setCell ⟨g, 1, none⟩ b).setCell ⟨g, 2, none⟩ c).setCell ⟨g, 3, none⟩ d
theorem own_set4 {w : World} {g : Nat} {e : TypeId} {x0 x1 x2 x3 : Value} (h : Own w g e [x0, x1, x2, x3]) (a b c d : Value) : Own (set4 w g a b c d) g e [a, b, c, d] :=
  (((h.set 0 a).set 1 b).set 2 c).set 3 d
theorem Own.set4 {w : World} {g g' : Nat} {e : TypeId} {cs : List Value} (h : Own w g' e cs) (ne : g' ≠ g) (a b c d : Value) : Own (YtikfeemmjfoffaaDoor.set4 w g a b c d) g' e cs :=
  (((h.other (a := ⟨g, 0, none⟩) ne a).other (a := ⟨g, 1, none⟩) ne b).other (a := ⟨g, 2, none⟩) ne c).other (a := ⟨g, 3, none⟩) ne d
theorem kept_set4 {w0 w : World} {g : Nat} (h : Kept w0 w) (hg : w0.heap.size ≤ g) (a b c d : Value) : Kept w0 (set4 w g a b c d) :=
  kept_set (kept_set (kept_set (kept_set h hg a) hg b) hg c) hg d
theorem row_set4 {w : World} {B g : Nat} {e : TypeId} {sz n : Nat} {v : Value} {xs : List Value} (h : w.ownsRow B e sz v n xs) (hg : g < B) (a b c d : Value) : (set4 w g a b c d).ownsRow B e sz v n xs :=
  ownsRow_setCell_below (ownsRow_setCell_below (ownsRow_setCell_below (ownsRow_setCell_below h (a := ⟨g, 0, none⟩) hg a) (a := ⟨g, 1, none⟩) hg b) (a := ⟨g, 2, none⟩) hg c) (a := ⟨g, 3, none⟩) hg d
/-- A window of a row that is known. -/
theorem Own.win {w : World} {g : Nat} {e : TypeId} {l : List Int} {rest : List Value} (h : Own w g e (ints l ++ rest)) (o m : Nat) (hm : o + m ≤ l.length) : Rd w (some ⟨g, o, none⟩) (ints ((l.drop o).take m)) :=
  ⟨fun _ => ⟨g, o, rfl, fun j v hj => by
    have hlt : j < ((l.drop o).take m).length := by have := (List.getElem?_eq_some_iff.1 hj).1; simpa [ints] using this
    have hl2 : o + j < l.length := by simp at hlt; omega
    refine h.cell ?_
    rw [List.getElem?_append_left (by simpa using hl2)]
    rw [← hj]
    simp only [ints, List.getElem?_map]
    rw [List.getElem?_take_of_lt (by simp at hlt; omega), List.getElem?_drop]⟩⟩
theorem Own.type {w : World} {g : Nat} {e e' : TypeId} {cs cs' : List Value} (h : Own w g e cs) (h' : Own w g e' cs') : e = e' := by
  unfold Own at h h'
  rw [h] at h'
  injection h' with h'
  injection h' with _ h2
end Go.Proofs.YtikfeemmjfoffaaDoor
