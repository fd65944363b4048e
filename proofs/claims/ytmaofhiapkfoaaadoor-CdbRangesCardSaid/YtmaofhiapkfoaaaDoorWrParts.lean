/- The cases of a number that is written. -/
import Derived.Test.YtmaofhiapkfoaaaDoorRowsB
namespace Go.Proofs.YtmaofhiapkfoaaaDoor
open Go.RowKit
set_option linter.unusedVariables false
set_option linter.unusedSimpArgs false

/-- Any number: the two writers. -/
theorem wr_parts (e size n : Int) : e ≠ 0 ∨ (e = 0 ∧ (size < 1 ∨ 8 < size)) ∨ (e = 0 ∧ 1 ≤ size ∧ size < 8 ∧ (n < -(2 ^ (8 * size - 1).toNat) ∨ 2 ^ (8 * size).toNat ≤ n)) ∨
    (e = 0 ∧ 1 ≤ size ∧ size ≤ 8 ∧ (size = 8 ∨ (-(2 ^ (8 * size - 1).toNat) ≤ n ∧ n < 2 ^ (8 * size).toNat))) := by
  by_cases he : e = 0
  · right
    by_cases h1 : size < 1 ∨ 8 < size
    · exact .inl ⟨he, h1⟩
    · right
      by_cases h2 : size < 8 ∧ (n < -(2 ^ (8 * size - 1).toNat) ∨ 2 ^ (8 * size).toNat ≤ n)
      · exact .inl ⟨he, by omega, h2.1, h2.2⟩
      · exact .inr ⟨he, by omega, by omega, by omega⟩
  · exact .inl he
end Go.Proofs.YtmaofhiapkfoaaaDoor
