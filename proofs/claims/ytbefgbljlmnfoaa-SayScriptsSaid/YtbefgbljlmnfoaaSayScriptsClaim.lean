/- 'SayScripts' returns true, whatever the text, and its input reads as it did. Conditions: none; the row as it was given. -/
import Derived.Test.YtbefgbljlmnfoaaT01
import Derived.Test.YtbefgbljlmnfoaaT02
import Derived.Test.YtbefgbljlmnfoaaT03
import Derived.Test.YtbefgbljlmnfoaaT04
import Derived.Test.YtbefgbljlmnfoaaT05
import Derived.Test.YtbefgbljlmnfoaaT06
import Derived.Test.YtbefgbljlmnfoaaT11
import Derived.Test.YtbefgbljlmnfoaaT26
import Derived.Test.YtbefgbljlmnfoaaRows
namespace Go.Proofs.Ytbefgbljlmnfoaa.sayScripts
open Go.ChangeShapes Go.WideShapes Go.ChangeAt Go.RowKit Go.Dl
open Go.ChangeMaps (open_string shut_string)

theorem own : ownKnob Try.prog.godebug = none := by kernel_rfl
theorem laidOut : laidOutB Try.prog = true := by kernel_rfl

theorem ty_arg {t : TypeId} {c : C} (hk : tk Try.prog t = some .str) (h : Ty Try.prog t [c]) : ∃ s, c = .v (.string s) ∧ s.size ≤ maxStr := by
  generalize hcs : [c] = cs at h
  cases h with
  | int h1 hn => rw [hk] at h1; cases h1
  | bool h1 => rw [hk] at h1; cases h1
  | str h1 hs => cases hcs; exact ⟨_, rfl, hs⟩
  | slice h1 _ _ _ => rw [hk] at h1; cases h1
  | arr h1 _ _ => rw [hk] at h1; cases h1
  | st h1 _ => rw [hk] at h1; cases h1

set_option maxRecDepth 100000 in
theorem lifted (os : Os) (started : os.Started) (H : Type) (enc : TypeId × Value → H) :
    ReturnsInHanded {} Try.checked os 8 .any (Rows.sayScriptsSpec.pre6 enc Try.prog Try.f8 Rows.sayScriptsRow.domain false) (Rows.sayScriptsSpec.post enc Try.prog Try.f8 false true false false) := by
  refine returnsInHanded_of_change (C := Try.checked) own started (by kernel_rfl) Try.func8
    (ChangeSpec.witness6 (enc := enc) (C := Try.checked) false ⟨#[], #[.string ⟨#[]⟩], []⟩ 8 (by kernel_rfl) (by kernel_rfl) (by kernel_rfl) (by kernel_rfl)) ?_
  intro W base args ds gs before hval0 hW hcnd _
  have hval : ∀ (j : Nat) t v, Try.f8.params[j]? = some t → args[j]? = some v → Value.okWide Try.prog W .any base t v := hval0
  have hW' := hW
  obtain ⟨p, q, hA0, hV, rfl, hfz, hnd⟩ := hW
  have hA : DataW.TrodAll enc Try.prog W 0 (fun _ => true) true Try.f8.params.toList args.toList ds p := hA0
  rw [Try.params8] at hA hval
  obtain ⟨v0, vs0, d0, ds0, p0, q0, hargs, rfl, rfl, h0, r0⟩ := trodAll_cons hA
  obtain ⟨rfl, rfl, rfl⟩ := trodAll_nil r0
  obtain rfl : args = #[v0] := by cases args; simp_all
  obtain ⟨rfl, rfl⟩ := trodVars_none hV
  have lt0 : ∀ x ∈ p0, x.block < W.heap.size := by obtain ⟨m, hm⟩ := h0; exact DataW.trod_lt m _ _ _ hm
  obtain ⟨e0, a0, t0⟩ := arg_trod (by kernel_rfl) (hval 0 9 v0 rfl rfl) h0
  simp only [ArgTy, tk9, TK.agg, if_true, Bool.false_eq_true, if_false] at t0
  obtain ⟨c0, rfl, t0⟩ := t0
  obtain ⟨s, rfl, hs⟩ := ty_arg tk9 t0
  clear hA0 hval0
  refine (law_bool (b := true) meets8 (vs := #[v0]) (args := [.c (.v (.string s))]) rfl ?_ ?_).mono fun e W' ⟨he, bel⟩ => ?_
  · intro i d hd
    match i, hd with
    | 0, hd => cases hd; exact a0
  · exact scripts_law s hs
  · subst he
    exact ⟨_, rfl, _, _, _, [], _, [], hW', trodAll_mk1 (shut_bool Try.underlying4 _), (trodAll_cons_mk (Below.trod laidOut (by kernel_rfl) (of_decide_eq_true (by kernel_rfl)) h0 bel lt0) trodAll_mk0), rfl, bel.frame _, fun h => by cases h⟩

theorem over : Rows.sayScriptsRow.holds Try.pinned (OpenSpec.ofChange Rows.sayScriptsSpec) :=
  OpenClaim.holds_of_wide 8 Try.f8 rfl rfl rfl rfl rfl rfl rfl ⟨rfl, rfl, rfl, rfl, rfl⟩ rfl rfl rfl rfl rfl (by kernel_rfl) Try.func8 (by kernel_rfl)
    (of_decide_eq_true (by kernel_rfl)) (by unfold Func.isWrapper; first | (rw [if_pos (by decide +kernel)]; kernel_rfl) | (rw [if_neg (by decide +kernel)]; exact ⟨rfl, rfl⟩))
    (fun os started H enc _ => lifted os started H enc)

theorem proved : Rows.SayScriptsSaid := over
end Go.Proofs.Ytbefgbljlmnfoaa.sayScripts
