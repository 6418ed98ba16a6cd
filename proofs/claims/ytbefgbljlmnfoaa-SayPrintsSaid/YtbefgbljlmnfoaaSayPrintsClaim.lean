/- 'SayPrints' returns true, whatever the step, and its input reads as it did. Conditions: none; the row as it was given. -/
import Derived.Test.YtbefgbljlmnfoaaU01
import Derived.Test.YtbefgbljlmnfoaaU02
import Derived.Test.YtbefgbljlmnfoaaU03
import Derived.Test.YtbefgbljlmnfoaaU04
import Derived.Test.YtbefgbljlmnfoaaU05
import Derived.Test.YtbefgbljlmnfoaaU06
import Derived.Test.YtbefgbljlmnfoaaU11
import Derived.Test.YtbefgbljlmnfoaaU19
import Derived.Test.YtbefgbljlmnfoaaRows
namespace Go.Proofs.Ytbefgbljlmnfoaa.sayPrints
open Go.ChangeShapes Go.WideShapes Go.ChangeAt Go.RowKit Go.Dl
open Go.ChangeMaps (open_string shut_string)

theorem own : ownKnob Try.prog.godebug = none := by kernel_rfl
theorem laidOut : laidOutB Try.prog = true := by kernel_rfl

set_option maxRecDepth 100000 in
theorem lifted (os : Os) (started : os.Started) (H : Type) (enc : TypeId × Value → H) :
    ReturnsInHanded {} Try.checked os 9 .any (Rows.sayPrintsSpec.pre6 enc Try.prog Try.f9 Rows.sayPrintsRow.domain false) (Rows.sayPrintsSpec.post enc Try.prog Try.f9 false true false false) := by
  refine returnsInHanded_of_change (C := Try.checked) own started (by kernel_rfl) Try.func9
    (ChangeSpec.witness6 (enc := enc) (C := Try.checked) false ⟨#[], #[.agg #[.int .i64 0, .string ⟨#[]⟩, .int .i64 0, .slice none 0 0, .string ⟨#[]⟩, .string ⟨#[]⟩, .slice none 0 0, .string ⟨#[]⟩, .int .i64 0, .int .i64 0, .int .u64 0, .int .i64 0]], []⟩ 12 (by kernel_rfl) (by kernel_rfl) (by kernel_rfl) (by kernel_rfl)) ?_
  intro W base args ds gs before hval0 hW hcnd _
  have hval : ∀ (j : Nat) t v, Try.f9.params[j]? = some t → args[j]? = some v → Value.okWide Try.prog W .any base t v := hval0
  have hW' := hW
  obtain ⟨p, q, hA0, hV, rfl, hfz, hnd⟩ := hW
  have hA : DataW.TrodAll enc Try.prog W 0 (fun _ => true) true Try.f9.params.toList args.toList ds p := hA0
  rw [Try.params9] at hA hval
  obtain ⟨v0, vs0, d0, ds0, p0, q0, hargs, rfl, rfl, h0, r0⟩ := trodAll_cons hA
  obtain ⟨rfl, rfl, rfl⟩ := trodAll_nil r0
  obtain rfl : args = #[v0] := by cases args; simp_all
  obtain ⟨rfl, rfl⟩ := trodVars_none hV
  have lt0 : ∀ x ∈ p0, x.block < W.heap.size := by obtain ⟨m, hm⟩ := h0; exact DataW.trod_lt m _ _ _ hm
  obtain ⟨e0, a0, t0⟩ := arg_trod (by kernel_rfl) (hval 0 50 v0 rfl rfl) h0
  simp only [ArgTy, tk50, TK.agg, if_true] at t0
  obtain ⟨c0, rfl, t0⟩ := t0
  obtain ⟨a, rfl, ha⟩ := ty_act t0
  clear hA0 hval0
  refine (law_bool (b := true) meets9 (vs := #[v0]) (args := [.agg (actC false a)]) rfl ?_ ?_).mono fun e W' ⟨he, bel⟩ => ?_
  · intro i d hd
    match i, hd with
    | 0, hd => cases hd; exact a0
  · exact prints_law a ha
  · subst he
    exact ⟨_, rfl, _, _, _, [], _, [], hW', trodAll_mk1 (shut_bool Try.underlying4 _), (trodAll_cons_mk (Below.trod laidOut (by kernel_rfl) (of_decide_eq_true (by kernel_rfl)) h0 bel lt0) trodAll_mk0), rfl, bel.frame _, fun h => by cases h⟩

theorem over : Rows.sayPrintsRow.holds Try.pinned (OpenSpec.ofChange Rows.sayPrintsSpec) :=
  OpenClaim.holds_of_wide 9 Try.f9 rfl rfl rfl rfl rfl rfl rfl ⟨rfl, rfl, rfl, rfl, rfl⟩ rfl rfl rfl rfl rfl (by kernel_rfl) Try.func9 (by kernel_rfl)
    (of_decide_eq_true (by kernel_rfl)) (by unfold Func.isWrapper; first | (rw [if_pos (by decide +kernel)]; kernel_rfl) | (rw [if_neg (by decide +kernel)]; exact ⟨rfl, rfl⟩))
    (fun os started H enc _ => lifted os started H enc)

theorem proved : Rows.SayPrintsSaid := over
end Go.Proofs.Ytbefgbljlmnfoaa.sayPrints
