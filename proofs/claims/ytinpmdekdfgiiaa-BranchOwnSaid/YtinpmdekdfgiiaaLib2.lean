/- General words, second part: append from whatever source, guarded or not. -/
import Derived.Test.YtinpmdekdfgiiaaLib
set_option linter.unusedVariables false
set_option linter.unusedSimpArgs false
namespace Go.Proofs.Ytinpmdekdfgiiaa
open Go.RowKit

theorem add_at (b off j : Nat) : (⟨b, off, none⟩ : Addr).add j = ⟨b, off + j, none⟩ := by unfold Addr.add; split <;> simp_all
theorem news_rd {w : World} {b off : Nat} {cs : List Value} (h : Rd w (some ⟨b, off, none⟩) cs) : ∀ j u, cs[j]? = some u → w.cell? ((⟨b, off, none⟩ : Addr).add j) = some u := by
  intro j u hu
  obtain ⟨b', off', e, hc⟩ := h.at_ (by intro h0; rw [h0] at hu; simp at hu)
  obtain ⟨rfl, rfl⟩ : b = b' ∧ off = off' := by
    injection e with e
    injection e with e1 e2 e3
    exact ⟨e1, e2⟩
  rw [add_at]
  exact hc j u hu

section
variable {P : Program} {ops : Array Oper} {rest : List Oper} {o : Oper} {a : Act} {Q : Exit → Act → World → Prop}
end
end Go.Proofs.Ytinpmdekdfgiiaa
