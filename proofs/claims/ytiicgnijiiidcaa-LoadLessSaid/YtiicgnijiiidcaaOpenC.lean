/- Arrays that a law is given. -/
import Derived.Test.YtiicgnijiiidcaaFT
namespace Go.Proofs.Ytiicgnijiiidcaa
open Go Go.RowKit Go.WideShapes Go.ChangeShapes
theorem okWide_array {P : Program} {w : World} {r : Reach} {base m : Nat} {t e : TypeId} {v : Value} (ht : P.underlying t = some (.array m e)) (h : Value.okWide P w r base t v) : ∃ cs, v = .agg cs ∧ cs.size = P.cellsOf t := by
  simp only [Value.okWide, ht] at h
  obtain ⟨cs, h1, h2, _⟩ := h
  exact ⟨cs, h1, h2⟩
end Go.Proofs.Ytiicgnijiiidcaa
