/- What given fates read as. -/
import Derived.Test.YtnflfefopdieiaaE21
set_option linter.all false
namespace Go.Dl
open Go.RowKit
open Go.Proofs
set_option linter.unusedVariables false
theorem lefts_law (l : List FateM) (u : Int) (h : l.length ≤ maxStr) : pLefts [.c (.s false 6 (l.map fateC)), .c (.v (.int .i64 u))] = some (dB true) := Ym (fun _ _ _ => rfl) (l, u) h rfl
end Go.Dl
