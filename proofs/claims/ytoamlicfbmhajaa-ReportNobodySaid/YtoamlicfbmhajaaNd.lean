/- Floats: what is no number; the walks of value.Of, math.Inf and a class's share. -/
import Derived.Test.YtoamlicfbmhajaaNc
namespace Go.Dl
open Go.RowKit
open Go.Proofs
set_option linter.unusedSimpArgs false
set_option linter.unusedVariables false

/-- No number. -/
def isNan (b : Nat) : Prop := ∃ s f, Ieee.double.read b = .nan s f

theorem nan_cut (t : Nat) : isNan (Question.cut (.nanBits .f64 0 0) t) := by
  have h1 : Ieee.double.signWeight = 9223372036854775808 := by decide
  have h2 : Ieee.double.binade = 4503599627370496 := by decide
  have h3 : Ieee.double.infRung = 9218868437227405312 := by decide
  have hc : Question.cut (.nanBits .f64 0 0) t = (t % 2) * 9223372036854775808 + 9218868437227405312 + 1 + (t / 2) % 4503599627370495 := rfl
  have hr := Nat.mod_lt (t / 2) (show 4503599627370495 > 0 by decide)
  generalize (t / 2) % 4503599627370495 = r at hc hr
  rw [hc]
  have hrung : ((t % 2) * 9223372036854775808 + 9218868437227405312 + 1 + r) % 9223372036854775808 = 9218868437227405312 + 1 + r := by omega
  unfold isNan Ieee.Format.read
  simp only [h1, h2, h3, hrung]
  rw [if_neg (by omega), if_neg (by omega), if_neg (by omega)]
  exact ⟨_, _, rfl⟩

theorem nan_order {x : Nat} (h : isNan x) (y : Nat) : Ieee.double.order x y = none := by
  obtain ⟨s, f, h⟩ := h
  unfold Ieee.Format.order
  rw [h]; rfl

theorem run_fneq {P : Program} {w : World} (t : TypeId) (x y : Nat) : (binOp .neq t (.float .f64 x) (.float .f64 y)).run P w = .ok (.bool (Ieee.double.order x y != some .eq)) w := by
  simp only [binOp, Op.floatCmp, ne_eq, not_true_eq_false, if_false, Sem.run_pure]; rfl

theorem run_fgtr {P : Program} {w : World} (t : TypeId) (x y : Nat) : (binOp .gtr t (.float .f64 x) (.float .f64 y)).run P w = .ok (.bool (Ieee.double.order x y == some .gt)) w := by
  simp only [binOp, Op.floatCmp, ne_eq, not_true_eq_false, if_false, Sem.run_pure]; rfl

theorem run_fquo {P : Program} {w : World} (t : TypeId) : ∃ b, isNan b ∧ (binOp .quo t (.float .f64 0) (.float .f64 0)).run P w = .ok (.float .f64 b) { w with drawn := w.drawn + 1 } := by
  refine ⟨_, nan_cut (w.tape w.drawn (.nanBits .f64 0 0)), ?_⟩
  have hd : FloatKind.f64.format.div 0 0 = none := by decide
  simp only [binOp, Op.floatArith, ne_eq, not_true_eq_false, if_false, Sem.run_bind, Sem.run_pure, Result.andThen_ok, hd]
  rfl

theorem run_conv0 {w : World} : (convert 3 179 (.int .i64 0)).run Try.prog w = .ok (.float .f64 0) w := by
  have h0 : FloatKind.f64.nearest 0 = 0 := by decide
  simp only [convert, Sem.run_bind, run_und Try.underlying3, run_und Try.underlying179, Result.andThen_ok, Conv.intToFloat, h0, Sem.run_pure]

theorem run_bits {b : Nat} {w : World} : (callFunc 139 #[.float .f64 b]).run Try.prog w = .ok (.value (.int .u64 b)) w := by kernel_rfl
theorem run_frombits {n : Int} {w : World} : (callFunc 140 #[.int .u64 n]).run Try.prog w = .ok (.value (.float .f64 n.toNat)) w := by kernel_rfl

end Go.Dl
