/- 'SayValues' returns true, whatever the value and the text behind, and its inputs read as they did. Conditions: none; the row as it was given. -/
import Derived.Test.YtbefgbljlmnfoaaRows
import Derived.Test.YtbefgbljlmnfoaaE18
import Derived.Test.YtbefgbljlmnfoaaE06
namespace Go.Proofs.Ytbefgbljlmnfoaa.sayValues
open Go.ChangeShapes Go.WideShapes Go.ChangeAt Go.RowKit Go.Dl
open Go.ChangeMaps (open_string shut_string)

theorem own : ownKnob Try.prog.godebug = none := by kernel_rfl
theorem laidOut : laidOutB Try.prog = true := by kernel_rfl

theorem ty_int {t : TypeId} {cs : List C} {k : IntKind} (hk : tk Try.prog t = some (.int k)) (h : Ty Try.prog t cs) : ∃ n, cs = [.v (.int k n)] ∧ inR k n = true := by
  cases h with
  | int h1 hn => rw [hk] at h1; cases h1; exact ⟨_, rfl, hn⟩
  | bool h1 => rw [hk] at h1; cases h1
  | str h1 _ => rw [hk] at h1; cases h1
  | slice h1 _ _ _ => rw [hk] at h1; cases h1
  | arr h1 _ _ => rw [hk] at h1; cases h1
  | st h1 _ => rw [hk] at h1; cases h1
theorem ty_bool {t : TypeId} {cs : List C} (hk : tk Try.prog t = some .bool) (h : Ty Try.prog t cs) : ∃ b, cs = [.v (.bool b)] := by
  cases h with
  | int h1 hn => rw [hk] at h1; cases h1
  | bool h1 => exact ⟨_, rfl⟩
  | str h1 _ => rw [hk] at h1; cases h1
  | slice h1 _ _ _ => rw [hk] at h1; cases h1
  | arr h1 _ _ => rw [hk] at h1; cases h1
  | st h1 _ => rw [hk] at h1; cases h1
theorem ty_str {t : TypeId} {cs : List C} (hk : tk Try.prog t = some .str) (h : Ty Try.prog t cs) : ∃ s, cs = [.v (.string s)] ∧ s.size ≤ maxStr := by
  cases h with
  | int h1 hn => rw [hk] at h1; cases h1
  | bool h1 => rw [hk] at h1; cases h1
  | str h1 hs => exact ⟨_, rfl, hs⟩
  | slice h1 _ _ _ => rw [hk] at h1; cases h1
  | arr h1 _ _ => rw [hk] at h1; cases h1
  | st h1 _ => rw [hk] at h1; cases h1
theorem ty_str1 {t : TypeId} {c : C} (hk : tk Try.prog t = some .str) (h : Ty Try.prog t [c]) : ∃ s, c = .v (.string s) ∧ s.size ≤ maxStr := by
  obtain ⟨s, hs, h2⟩ := ty_str hk h
  simp only [List.cons.injEq, and_true] at hs
  exact ⟨s, hs, h2⟩
theorem ty_val {cs : List C} (h : Ty Try.prog 39 cs) : ∃ v : Val, cs = valC v ∧ inR .i64 v.2.2.1 = true ∧ inR .u64 v.2.2.2.1 = true ∧ v.2.2.2.2.size ≤ maxStr := by
  have hk := tk39
  cases h with
  | st h1 hf =>
    rw [hk] at h1; cases h1
    cases hf with
    | cons g1 hf =>
      cases hf with
      | cons g2 hf =>
        cases hf with
        | cons g3 hf =>
          cases hf with
          | cons g4 hf =>
            cases hf with
            | cons g5 hf =>
              cases hf
              obtain ⟨a, rfl, _⟩ := ty_int tk3 g1
              obtain ⟨b, rfl⟩ := ty_bool tk4 g2
              obtain ⟨c, rfl, hc⟩ := ty_int tk2 g3
              obtain ⟨d, rfl, hd⟩ := ty_int tk37 g4
              obtain ⟨e, rfl, he⟩ := ty_str tk9 g5
              exact ⟨(a, b, c, d, e), rfl, hc, hd, he⟩
  | slice h1 _ _ _ => rw [hk] at h1; cases h1
  | int h1 hn => rw [hk] at h1; cases h1
  | bool h1 => rw [hk] at h1; cases h1
  | str h1 hs => rw [hk] at h1; cases h1
  | arr h1 _ _ => rw [hk] at h1; cases h1

set_option maxRecDepth 100000 in
theorem lifted (os : Os) (started : os.Started) (H : Type) (enc : TypeId × Value → H) :
    ReturnsInHanded {} Try.checked os 6 .any (Rows.sayValuesSpec.pre6 enc Try.prog Try.f6 Rows.sayValuesRow.domain false) (Rows.sayValuesSpec.post enc Try.prog Try.f6 false true false false) := by
  refine returnsInHanded_of_change (C := Try.checked) own started (by kernel_rfl) Try.func6
    (ChangeSpec.witness6 (enc := enc) (C := Try.checked) false ⟨#[], #[.agg #[.int .i64 0, .bool false, .int .i64 0, .int .u64 0, .string ⟨#[]⟩], .string ⟨#[]⟩], []⟩ 8 (by kernel_rfl) (by kernel_rfl) (by kernel_rfl) (by kernel_rfl)) ?_
  intro W base args ds gs before hval0 hW hcnd _
  have hval : ∀ (j : Nat) t v, Try.f6.params[j]? = some t → args[j]? = some v → Value.okWide Try.prog W .any base t v := hval0
  have hW' := hW
  obtain ⟨p, q, hA0, hV, rfl, hfz, hnd⟩ := hW
  have hA : DataW.TrodAll enc Try.prog W 0 (fun _ => true) true Try.f6.params.toList args.toList ds p := hA0
  rw [Try.params6] at hA hval
  obtain ⟨v0, vs0, d0, ds0, p0, q0, hargs, rfl, rfl, h0, r0⟩ := trodAll_cons hA
  obtain ⟨v1, vs1, d1, ds1, p1, q1, rfl, rfl, rfl, h1, r1⟩ := trodAll_cons r0
  obtain ⟨rfl, rfl, rfl⟩ := trodAll_nil r1
  obtain rfl : args = #[v0, v1] := by cases args; simp_all
  obtain ⟨rfl, rfl⟩ := trodVars_none hV
  have lt0 : ∀ x ∈ p0, x.block < W.heap.size := by obtain ⟨m, hm⟩ := h0; exact DataW.trod_lt m _ _ _ hm
  have lt1 : ∀ x ∈ p1, x.block < W.heap.size := by obtain ⟨m, hm⟩ := h1; exact DataW.trod_lt m _ _ _ hm
  obtain ⟨e0, a0, t0⟩ := arg_trod (by kernel_rfl) (hval 0 39 v0 rfl rfl) h0
  obtain ⟨e1, a1, t1⟩ := arg_trod (by kernel_rfl) (hval 1 9 v1 rfl rfl) h1
  simp only [ArgTy, tk39, tk9, TK.agg, if_true, Bool.false_eq_true, if_false] at t0 t1
  obtain ⟨cs, rfl, t0⟩ := t0
  obtain ⟨c1, rfl, t1⟩ := t1
  obtain ⟨v, rfl, g1, g2, g3⟩ := ty_val t0
  obtain ⟨s, rfl, hs⟩ := ty_str1 tk9 t1
  clear hA0 hval0
  refine (law_bool (b := true) meets6 (vs := #[v0, v1]) (args := [.agg (valC v), .c (.v (.string s))]) rfl ?_ ?_).mono fun e W' ⟨he, bel⟩ => ?_
  · intro i d hd
    match i, hd with
    | 0, hd => cases hd; exact a0
    | 1, hd => cases hd; exact a1
  · exact values_law v s g1 g2 g3 hs
  · subst he
    exact ⟨_, rfl, _, _, _, [], _, [], hW', trodAll_mk1 (shut_bool Try.underlying4 _), (trodAll_cons_mk (Below.trod laidOut (by kernel_rfl) (of_decide_eq_true (by kernel_rfl)) h0 bel lt0) (trodAll_cons_mk (Below.trod laidOut (by kernel_rfl) (of_decide_eq_true (by kernel_rfl)) h1 bel lt1) trodAll_mk0)), rfl, bel.frame _, fun h => by cases h⟩

theorem over : Rows.sayValuesRow.holds Try.pinned (OpenSpec.ofChange Rows.sayValuesSpec) :=
  OpenClaim.holds_of_wide 6 Try.f6 rfl rfl rfl rfl rfl rfl rfl ⟨rfl, rfl, rfl, rfl, rfl⟩ rfl rfl rfl rfl rfl (by kernel_rfl) Try.func6 (by kernel_rfl)
    (of_decide_eq_true (by kernel_rfl)) (by unfold Func.isWrapper; first | (rw [if_pos (by decide +kernel)]; kernel_rfl) | (rw [if_neg (by decide +kernel)]; exact ⟨rfl, rfl⟩))
    (fun os started H enc _ => lifted os started H enc)

theorem proved : Rows.SayValuesSaid := over
end Go.Proofs.Ytbefgbljlmnfoaa.sayValues
