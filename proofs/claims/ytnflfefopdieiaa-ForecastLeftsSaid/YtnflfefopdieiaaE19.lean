/- The walks of the laws' few and right, of Barred and Left. -/
import Derived.Test.YtnflfefopdieiaaE14
set_option linter.all false
namespace Go.Dl
open Go.RowKit
open Go.Proofs
set_option linter.unusedSimpArgs false
set_option linter.unusedVariables false
theorem names_cp (l : List ByteArray) : ((l.map nameC).all fun row => row.all C.cp) = true := by rw [List.all_eq_true]; intro r hr; obtain ⟨x, _, rfl⟩ := List.mem_map.1 hr; rfl
theorem bar_at (l : List FateM) (u : Int) (h : l.length ≤ 1000000) : pBar [.c (.s false 6 (l.map fateC)), .c (.v (.int .i64 u))] = some (.c (.s true 1 ((barF u l).map nameC))) := Ym (fun x y h => by
  simp only [List.cons.injEq, D.c.injEq, C.s.injEq, true_and, and_true, dI, C.v.injEq, Value.int.injEq] at h
  rw [Prod.ext (fates_inj h.1) h.2]) (l, u) h rfl
theorem left_at (l : List FateM) (u : Int) (h : l.length ≤ 1000000) : pLeft [.c (.s false 6 (l.map fateC)), .c (.v (.int .i64 u))] = some (dI (leftF l u)) := Ym (fun x y h => by
  simp only [List.cons.injEq, D.c.injEq, C.s.injEq, true_and, and_true, dI, C.v.injEq, Value.int.injEq] at h
  rw [Prod.ext (fates_inj h.1) h.2]) (l, u) h rfl
end Go.Dl
