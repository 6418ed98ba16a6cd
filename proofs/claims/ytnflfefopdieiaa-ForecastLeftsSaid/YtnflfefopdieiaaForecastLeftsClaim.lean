/- 'ForecastLefts' returns true, whatever the fates and the time, and its input reads as it did. Conditions: none; the row as it was given. -/
import Derived.Test.YtnflfefopdieiaaE01
import Derived.Test.YtnflfefopdieiaaE02
import Derived.Test.YtnflfefopdieiaaE03
import Derived.Test.YtnflfefopdieiaaE04
import Derived.Test.YtnflfefopdieiaaE05
import Derived.Test.YtnflfefopdieiaaE06
import Derived.Test.YtnflfefopdieiaaE07
import Derived.Test.YtnflfefopdieiaaE17
import Derived.Test.YtnflfefopdieiaaE21
import Derived.Test.YtnflfefopdieiaaE24
import Derived.Test.YtnflfefopdieiaaRows
namespace Go.Proofs.Ytnflfefopdieiaa.forecastLefts
open Go.ChangeShapes Go.WideShapes Go.ChangeAt Go.RowKit Go.Dl
open Go.ChangeMaps (open_string shut_string)

theorem own : ownKnob Try.prog.godebug = none := by kernel_rfl
theorem laidOut : laidOutB Try.prog = true := by kernel_rfl

set_option maxRecDepth 100000 in
theorem lifted (os : Os) (started : os.Started) (H : Type) (enc : TypeId × Value → H) :
    ReturnsInHanded {} Try.checked os 4 .any (Rows.forecastLeftsSpec.pre6 enc Try.prog Try.f4 Rows.forecastLeftsRow.domain false) (Rows.forecastLeftsSpec.post enc Try.prog Try.f4 false true false false) := by
  refine returnsInHanded_of_change (C := Try.checked) own started (by kernel_rfl) Try.func4
    (ChangeSpec.witness6 (enc := enc) (C := Try.checked) false ⟨#[], #[.slice none 0 0, .int .i64 0], []⟩ 8 (by kernel_rfl) (by kernel_rfl) (by kernel_rfl) (by kernel_rfl)) ?_
  intro W base args ds gs before hval0 hW hcnd _
  have hval : ∀ (j : Nat) t v, Try.f4.params[j]? = some t → args[j]? = some v → Value.okWide Try.prog W .any base t v := hval0
  have hW' := hW
  obtain ⟨p, q, hA0, hV, rfl, hfz, hnd⟩ := hW
  have hA : DataW.TrodAll enc Try.prog W 0 (fun _ => true) true Try.f4.params.toList args.toList ds p := hA0
  rw [Try.params4] at hA hval
  obtain ⟨v0, vs0, d0, ds0, p0, q0, hargs, rfl, rfl, h0, r0⟩ := trodAll_cons hA
  obtain ⟨v1, vs1, d1, ds1, p1, q1, rfl, rfl, rfl, h1, r1⟩ := trodAll_cons r0
  obtain ⟨rfl, rfl, rfl⟩ := trodAll_nil r1
  obtain rfl : args = #[v0, v1] := by cases args; simp_all
  obtain ⟨rfl, rfl⟩ := trodVars_none hV
  have lt0 : ∀ x ∈ p0, x.block < W.heap.size := by obtain ⟨m, hm⟩ := h0; exact DataW.trod_lt m _ _ _ hm
  have lt1 : ∀ x ∈ p1, x.block < W.heap.size := by obtain ⟨m, hm⟩ := h1; exact DataW.trod_lt m _ _ _ hm
  obtain ⟨e0, a0, t0⟩ := arg_trod (by kernel_rfl) (hval 0 22 v0 rfl rfl) h0
  obtain ⟨e1, a1, t1⟩ := arg_trod (by kernel_rfl) (hval 1 3 v1 rfl rfl) h1
  simp only [ArgTy, tk22, tk3, TK.agg, Bool.false_eq_true, if_false] at t0 t1
  obtain ⟨c0, rfl, t0⟩ := t0
  obtain ⟨c1, rfl, t1⟩ := t1
  obtain ⟨l, rfl, hl⟩ := ty_fates t0
  obtain ⟨u, rfl⟩ := ty_one t1
  clear hA0 hval0
  refine (law_bool (b := true) meets4 (vs := #[v0, v1]) (args := [.c (.s false 6 (l.map fateC)), .c (.v (.int .i64 u))]) rfl ?_ ?_).mono fun e W' ⟨he, bel⟩ => ?_
  · intro i d hd
    match i, hd with
    | 0, hd => cases hd; exact a0
    | 1, hd => cases hd; exact a1
  · exact lefts_law l u hl
  · subst he
    exact ⟨_, rfl, _, _, _, [], _, [], hW', trodAll_mk1 (shut_bool Try.underlying4 _), (trodAll_cons_mk (Below.trod laidOut (by kernel_rfl) (of_decide_eq_true (by kernel_rfl)) h0 bel lt0)
      (trodAll_cons_mk (Below.trod laidOut (by kernel_rfl) (of_decide_eq_true (by kernel_rfl)) h1 bel lt1) trodAll_mk0)), rfl, bel.frame _, fun h => by cases h⟩

theorem over : Rows.forecastLeftsRow.holds Try.pinned (OpenSpec.ofChange Rows.forecastLeftsSpec) :=
  OpenClaim.holds_of_wide 4 Try.f4 rfl rfl rfl rfl rfl rfl rfl ⟨rfl, rfl, rfl, rfl, rfl⟩ rfl rfl rfl rfl rfl (by kernel_rfl) Try.func4 (by kernel_rfl)
    (of_decide_eq_true (by kernel_rfl)) (by unfold Func.isWrapper; first | (rw [if_pos (by decide +kernel)]; kernel_rfl) | (rw [if_neg (by decide +kernel)]; exact ⟨rfl, rfl⟩))
    (fun os started H enc _ => lifted os started H enc)

theorem proved : Rows.ForecastLeftsSaid := over
end Go.Proofs.Ytnflfefopdieiaa.forecastLefts
