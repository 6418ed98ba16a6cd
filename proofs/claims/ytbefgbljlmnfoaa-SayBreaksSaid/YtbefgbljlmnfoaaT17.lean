/- 'Dl', part Zq: structs by value whose slices nobody will change. -/
import Derived.Test.YtbefgbljlmnfoaaT11
set_option linter.all false
namespace Go.Dl
open Go.RowKit
theorem meets_frzAP {P : Program} {k : FuncId} {f : List D → Option D} (h : Meets P k (pureS f)) : Meets P k (pureS fun a => (f a).map D.frzA) := by
  intro args objs Q hs
  refine meets_frzA h args objs Q ?_
  obtain ⟨h1, d, h2, h3⟩ := hs
  cases hf : f args with
  | none => simp only [hf] at h2; cases h2
  | some d0 => simp only [hf] at h2; cases h2; exact ⟨h1, d0, hf, h3⟩
end Go.Dl
