/- Plain law: gaps, and the most within a span, of fates in order; The walks of Gap and Most. -/
import Derived.Test.YtnflfefopdieiaaE17
import Derived.Test.YtnflfefopdieiaaE18
set_option linter.all false
namespace Go.Dl
set_option linter.unusedVariables false
def cntN (v : Nat → Int) (s : Int) (N : Nat) : Nat → Nat × Int
  | 0 => (0, -1)
  | i + 1 => if (cntN v s N i).1 < cntV v s (v i) N then (cntV v s (v i) N, v i) else cntN v s N i
theorem most_top {v : Nat → Int} {s : Int} (hs : 0 ≤ s) : ∀ i : Nat, topP (fun e => e + 1 - fstF v s e) (fun e => v (fstF v s e)) i (mostN v s i).1 (mostN v s i).2
  | 0 => top_0 _ _
  | i + 1 => by
    have ih := most_top (v := v) hs i
    have hf := (fstF_ok (v := v) hs i).1
    rw [mostN]
    split
    · rename_i h; exact top_more ih h
    · rename_i h; exact top_stay ih (show 0 < i + 1 - fstF v s i by omega) h
theorem cnt_pos {v : Nat → Int} {s : Int} (hs : 0 ≤ s) (i : Nat) : ∀ (N : Nat), i < N → 0 < cntV v s (v i) N
  | 0, h => absurd h (Nat.not_lt_zero i)
  | N + 1, h => by
    rw [cntV]
    by_cases hi : i = N
    · subst hi
      rw [if_pos (show v i ≤ v i ∧ v i ≤ v i + s from ⟨Int.le_refl _, by omega⟩)]; omega
    · have hn : i < N := Nat.lt_of_le_of_ne (Nat.le_of_lt_succ h) hi
      have := cnt_pos (v := v) hs i N hn
      omega
theorem cnt_top {v : Nat → Int} {s : Int} {N : Nat} (hs : 0 ≤ s) : ∀ i : Nat, i ≤ N → topP (fun i => cntV v s (v i) N) v i (cntN v s N i).1 (cntN v s N i).2
  | 0, _ => top_0 _ _
  | i + 1, h => by
    have ih := cnt_top (v := v) (N := N) hs i (Nat.le_of_succ_le h)
    rw [cntN]
    split
    · rename_i hc; exact top_more ih hc
    · rename_i hc; exact top_stay ih (cnt_pos hs i N (Nat.lt_of_succ_le h)) hc
theorem most_same {v : Nat → Int} {s : Int} {N : Nat} (hm : mono v N) (hs : 0 ≤ s) : cntN v s N N = mostN v s N := by
  obtain ⟨h1, h2⟩ := most_two hm hs (cnt_top hs N (Nat.le_refl N)) (most_top hs N)
  exact Prod.ext h1 h2
end Go.Dl

namespace Go.Dl
open Go.RowKit
open Go.Proofs
set_option linter.unusedSimpArgs false
set_option linter.unusedVariables false
theorem most_at (l : List FateM) (u : Int) (h : l.length ≤ 1000000) (hr : rightL l = true) : pMost [.c (.s false 6 (l.map fateC)), .c (.v (.int .i64 u))] = some (.t [dI ((mostR l u).1 : Nat), dI (mostR l u).2]) := Ym (fun x y h => by
  simp only [List.cons.injEq, D.c.injEq, C.s.injEq, true_and, and_true, dI, C.v.injEq, Value.int.injEq] at h
  rw [Prod.ext (fates_inj h.1) h.2]) (l, u) ⟨h, hr⟩ rfl
end Go.Dl
