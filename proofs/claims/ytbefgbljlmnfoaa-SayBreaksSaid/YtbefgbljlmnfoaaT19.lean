/- Plain facts of texts: bytes, quotes, blanks, tokens; Plain law: a step as a script says it is read token by token, wherever it stands. -/
import Derived.Test.YtbefgbljlmnfoaaT15
set_option linter.all false
namespace Go.Dl
open Go.RowKit
open Go.Proofs
set_option linter.unusedVariables false
theorem blkF_rem {s : ByteArray} {p : Nat} (h : p < s.size) (hb : byt s p = 35) : blkF s p = blkF s (runF notNL s p) := by
  have h1 := runF_le notNL s p (by omega)
  have h2 : p < runF notNL s p := runF_gt h (notNL_t (by omega))
  unfold blkF
  rw [show blkN (s.size + 1) s p = blkN s.size s (runF notNL s p) from by simp only [blkN]; rw [if_pos h, if_neg (by rw [hb]; decide), if_pos hb]]
  exact blkN_fuel _ _ s _ h1.2 (by omega) (by omega)
end Go.Dl

namespace Go.Dl
open Go.RowKit
open Go.Proofs
set_option linter.unusedVariables false
theorem lexes_rem {T : ByteArray} {o : Nat} (h : o < T.size) (hb : byt T o = 35) : lexes T o [] (runF notNL T o) := by
  refine lexes_skip ?_
  unfold nextF
  rw [blkF_rem h hb]
end Go.Dl
