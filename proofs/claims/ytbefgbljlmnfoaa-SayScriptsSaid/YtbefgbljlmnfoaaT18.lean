/- Tokens' plain facts; the walks of Script, awake. -/
import Derived.Test.YtbefgbljlmnfoaaT11
set_option linter.all false
namespace Go.Dl
open Go.RowKit
open Go.Proofs
set_option linter.unusedSimpArgs false
set_option linter.unusedVariables false
theorem nextF_err {s : ByteArray} {p : Nat} {t : Tok} {e : Int} {r : Nat} (h : nextF s p = some (t, false, e, r)) : (e = 0 ∨ e = 4) ∧ 0 ≤ t.2.2 := by
  unfold nextF at h
  generalize blkF s p = q at h
  split at h
  · cases h; exact ⟨.inl rfl, Int.le_refl _⟩
  split at h
  · cases h
  split at h
  · split at h
    · cases h; exact ⟨.inr rfl, Int.natCast_nonneg _⟩
    · cases h
  split at h
  · split at h
    · cases h
    · cases h; exact ⟨.inr rfl, Int.natCast_nonneg _⟩
  split at h
  · cases h
  · cases h; exact ⟨.inr rfl, Int.natCast_nonneg _⟩
end Go.Dl
