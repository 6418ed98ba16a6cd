/- 'SayBreaks' returns true, whatever the steps, and its input reads as it did. Conditions: none; the row as it was given. -/
import Derived.Test.YtbefgbljlmnfoaaT01
import Derived.Test.YtbefgbljlmnfoaaT02
import Derived.Test.YtbefgbljlmnfoaaT03
import Derived.Test.YtbefgbljlmnfoaaT04
import Derived.Test.YtbefgbljlmnfoaaT05
import Derived.Test.YtbefgbljlmnfoaaT06
import Derived.Test.YtbefgbljlmnfoaaT11
import Derived.Test.YtbefgbljlmnfoaaT27
import Derived.Test.YtbefgbljlmnfoaaRows
namespace Go.Proofs.Ytbefgbljlmnfoaa.sayBreaks
open Go.ChangeShapes Go.WideShapes Go.ChangeAt Go.RowKit Go.Dl
open Go.ChangeMaps (open_string shut_string)

theorem own : ownKnob Try.prog.godebug = none := by kernel_rfl
theorem laidOut : laidOutB Try.prog = true := by kernel_rfl

set_option maxRecDepth 100000 in
theorem lifted (os : Os) (started : os.Started) (H : Type) (enc : TypeId × Value → H) :
    ReturnsInHanded {} Try.checked os 7 .any (Rows.sayBreaksSpec.pre6 enc Try.prog Try.f7 Rows.sayBreaksRow.domain false) (Rows.sayBreaksSpec.post enc Try.prog Try.f7 false true false false) := by
  refine returnsInHanded_of_change (C := Try.checked) own started (by kernel_rfl) Try.func7
    (ChangeSpec.witness6 (enc := enc) (C := Try.checked) false ⟨#[], #[.slice none 0 0], []⟩ 12 (by kernel_rfl) (by kernel_rfl) (by kernel_rfl) (by kernel_rfl)) ?_
  intro W base args ds gs before hval0 hW hcnd _
  have hval : ∀ (j : Nat) t v, Try.f7.params[j]? = some t → args[j]? = some v → Value.okWide Try.prog W .any base t v := hval0
  have hW' := hW
  obtain ⟨p, q, hA0, hV, rfl, hfz, hnd⟩ := hW
  have hA : DataW.TrodAll enc Try.prog W 0 (fun _ => true) true Try.f7.params.toList args.toList ds p := hA0
  rw [Try.params7] at hA hval
  obtain ⟨v0, vs0, d0, ds0, p0, q0, hargs, rfl, rfl, h0, r0⟩ := trodAll_cons hA
  obtain ⟨rfl, rfl, rfl⟩ := trodAll_nil r0
  obtain rfl : args = #[v0] := by cases args; simp_all
  obtain ⟨rfl, rfl⟩ := trodVars_none hV
  have lt0 : ∀ x ∈ p0, x.block < W.heap.size := by obtain ⟨m, hm⟩ := h0; exact DataW.trod_lt m _ _ _ hm
  obtain ⟨e0, a0, t0⟩ := arg_trod (by kernel_rfl) (hval 0 45 v0 rfl rfl) h0
  simp only [ArgTy, tk45, TK.agg, Bool.false_eq_true, if_false] at t0
  obtain ⟨c0, rfl, t0⟩ := t0
  obtain ⟨l, rfl, hl, ha⟩ := ty_acts t0
  clear hA0 hval0
  refine (law_bool (b := true) meets7 (vs := #[v0]) (args := [.c (.s false 12 (l.map (actC false)))]) rfl ?_ ?_).mono fun e W' ⟨he, bel⟩ => ?_
  · intro i d hd
    match i, hd with
    | 0, hd => cases hd; exact a0
  · exact breaks_law 12 l ⟨hl, ha, fun _ => rfl⟩
  · subst he
    exact ⟨_, rfl, _, _, _, [], _, [], hW', trodAll_mk1 (shut_bool Try.underlying4 _), (trodAll_cons_mk (Below.trod laidOut (by kernel_rfl) (of_decide_eq_true (by kernel_rfl)) h0 bel lt0) trodAll_mk0), rfl, bel.frame _, fun h => by cases h⟩

theorem over : Rows.sayBreaksRow.holds Try.pinned (OpenSpec.ofChange Rows.sayBreaksSpec) :=
  OpenClaim.holds_of_wide 7 Try.f7 rfl rfl rfl rfl rfl rfl rfl ⟨rfl, rfl, rfl, rfl, rfl⟩ rfl rfl rfl rfl rfl (by kernel_rfl) Try.func7 (by kernel_rfl)
    (of_decide_eq_true (by kernel_rfl)) (by unfold Func.isWrapper; first | (rw [if_pos (by decide +kernel)]; kernel_rfl) | (rw [if_neg (by decide +kernel)]; exact ⟨rfl, rfl⟩))
    (fun os started H enc _ => lifted os started H enc)

theorem proved : Rows.SayBreaksSaid := over
end Go.Proofs.Ytbefgbljlmnfoaa.sayBreaks
