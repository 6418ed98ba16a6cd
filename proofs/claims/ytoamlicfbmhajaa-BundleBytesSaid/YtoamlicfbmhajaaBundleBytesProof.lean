/- 'BundleBytes' returns true, whatever the bundle, and its input reads as it did. Conditions: none; the row as it was given. -/
import Derived.Test.YtoamlicfbmhajaaRows
import Derived.Test.YtoamlicfbmhajaaRl
import Derived.Test.YtoamlicfbmhajaaDlZg
namespace Go.Proofs.Ytoamlicfbmhajaa.bundleBytes
open Go.ChangeShapes Go.WideShapes Go.ChangeAt Go.RowKit Go.Dl
open Go.ChangeMaps (open_string shut_string)

theorem own : ownKnob Try.prog.godebug = none := by kernel_rfl
theorem laidOut : laidOutB Try.prog = true := by kernel_rfl

theorem ty_strs : ∀ {rows : List (List C)}, (∀ r, r ∈ rows → Ty Try.prog 9 r) → ∃ l : List ByteArray, rows = Dl.strs l
  | [], _ => ⟨[], rfl⟩
  | r :: rows, h => by
    have hr := h r (List.mem_cons_self ..)
    obtain ⟨l, rfl⟩ := ty_strs fun r hr => h r (List.mem_cons_of_mem _ hr)
    have hk := tk9
    cases hr with
    | str h1 hs => exact ⟨_ :: l, rfl⟩
    | int h1 hn => rw [hk] at h1; cases h1
    | bool h1 => rw [hk] at h1; cases h1
    | slice h1 _ _ _ => rw [hk] at h1; cases h1
    | arr h1 _ _ => rw [hk] at h1; cases h1
    | st h1 _ => rw [hk] at h1; cases h1

theorem ty_list {cs : List C} (h : Ty Try.prog 28 cs) : ∃ l : List ByteArray, cs = [.s false 1 (Dl.strs l)] ∧ l.length ≤ maxStr := by
  have hk := tk28
  cases h with
  | slice h1 hr hl hn =>
    rw [hk] at h1; cases h1
    obtain ⟨l, rfl⟩ := ty_strs hr
    rw [tsz9]
    exact ⟨l, rfl, by rw [strs_len] at hn; exact hn⟩
  | int h1 hn => rw [hk] at h1; cases h1
  | bool h1 => rw [hk] at h1; cases h1
  | str h1 hs => rw [hk] at h1; cases h1
  | arr h1 _ _ => rw [hk] at h1; cases h1
  | st h1 _ => rw [hk] at h1; cases h1

theorem ty_bundle {cs : List C} (h : Ty Try.prog 30 cs) : ∃ l m : List ByteArray, cs = [.s false 1 (Dl.strs l), .s false 1 (Dl.strs m)] ∧ l.length ≤ maxStr ∧ m.length ≤ maxStr := by
  have hk := tk30
  cases h with
  | st h1 hf =>
    rw [hk] at h1; cases h1
    cases hf with
    | cons g1 hf =>
      cases hf with
      | cons g2 hf =>
        cases hf
        obtain ⟨l, rfl, hl⟩ := ty_list g1
        obtain ⟨m, rfl, hm⟩ := ty_list g2
        exact ⟨l, m, rfl, hl, hm⟩
  | slice h1 _ _ _ => rw [hk] at h1; cases h1
  | int h1 hn => rw [hk] at h1; cases h1
  | bool h1 => rw [hk] at h1; cases h1
  | str h1 hs => rw [hk] at h1; cases h1
  | arr h1 _ _ => rw [hk] at h1; cases h1

set_option maxRecDepth 100000 in
theorem lifted (os : Os) (started : os.Started) (H : Type) (enc : TypeId × Value → H) :
    ReturnsInHanded {} Try.checked os 4 .any (Rows.bundleBytesSpec.pre6 enc Try.prog Try.f4 Rows.bundleBytesRow.domain false) (Rows.bundleBytesSpec.post enc Try.prog Try.f4 false true false false) := by
  refine returnsInHanded_of_change (C := Try.checked) own started (by kernel_rfl) Try.func4
    (ChangeSpec.witness6 (enc := enc) (C := Try.checked) false ⟨#[], #[.agg #[.slice none 0 0, .slice none 0 0]], []⟩ 8 (by kernel_rfl) (by kernel_rfl) (by kernel_rfl) (by kernel_rfl)) ?_
  intro W base args ds gs before hval0 hW hcnd _
  have hval : ∀ (j : Nat) t v, Try.f4.params[j]? = some t → args[j]? = some v → Value.okWide Try.prog W .any base t v := hval0
  have hW' := hW
  obtain ⟨p, q, hA0, hV, rfl, hfz, hnd⟩ := hW
  have hA : DataW.TrodAll enc Try.prog W 0 (fun _ => true) true Try.f4.params.toList args.toList ds p := hA0
  rw [Try.params4] at hA hval
  obtain ⟨v0, vs0, d0, ds0, p0, q0, hargs, rfl, rfl, h0, r0⟩ := trodAll_cons hA
  obtain ⟨rfl, rfl, rfl⟩ := trodAll_nil r0
  obtain rfl : args = #[v0] := by cases args; simp_all
  obtain ⟨rfl, rfl⟩ := trodVars_none hV
  have lt0 : ∀ x ∈ p0, x.block < W.heap.size := by obtain ⟨m, hm⟩ := h0; exact DataW.trod_lt m _ _ _ hm
  obtain ⟨e0, a0, t0⟩ := arg_trod (by kernel_rfl) (hval 0 30 v0 rfl rfl) h0
  simp only [ArgTy, tk30, TK.agg, if_true, Bool.false_eq_true, if_false] at t0
  obtain ⟨c0, rfl, t0⟩ := t0
  obtain ⟨l, m, rfl, hl, hm⟩ := ty_bundle t0
  clear hA0 hval0
  refine (law_bool (b := true) meets4 (vs := #[v0]) (args := [.agg [.s false 1 (Dl.strs l), .s false 1 (Dl.strs m)]]) rfl ?_ ?_).mono fun e W' ⟨he, bel⟩ => ?_
  · intro i d hd
    match i, hd with
    | 0, hd => cases hd; exact a0
  · simp only [pBundleBytes, decStrs_strs, Option.bind_some, if_pos (And.intro hl hm)]
  · subst he
    exact ⟨_, rfl, _, _, _, [], _, [], hW', trodAll_mk1 (shut_bool Try.underlying4 _), (trodAll_cons_mk (Below.trod laidOut (by kernel_rfl) (of_decide_eq_true (by kernel_rfl)) h0 bel lt0) trodAll_mk0), rfl, bel.frame _, fun h => by cases h⟩

theorem over : Rows.bundleBytesRow.holds Try.pinned (OpenSpec.ofChange Rows.bundleBytesSpec) :=
  OpenClaim.holds_of_wide 4 Try.f4 rfl rfl rfl rfl rfl rfl rfl ⟨rfl, rfl, rfl, rfl, rfl⟩ rfl rfl rfl rfl rfl (by kernel_rfl) Try.func4 (by kernel_rfl)
    (of_decide_eq_true (by kernel_rfl)) (by unfold Func.isWrapper; first | (rw [if_pos (by decide +kernel)]; kernel_rfl) | (rw [if_neg (by decide +kernel)]; exact ⟨rfl, rfl⟩))
    (fun os started H enc _ => lifted os started H enc)

theorem proved : Rows.BundleBytesSaid := over
end Go.Proofs.Ytoamlicfbmhajaa.bundleBytes
