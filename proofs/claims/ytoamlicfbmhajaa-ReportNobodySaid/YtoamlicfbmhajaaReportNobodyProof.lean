/- 'ReportNobody' returns true, whatever the eight terms, and its input reads as it did. Conditions: none; the row as it was given. -/
import Derived.Test.YtoamlicfbmhajaaRows
import Derived.Test.YtoamlicfbmhajaaNk
import Derived.Test.YtoamlicfbmhajaaDlZg
namespace Go.Proofs.Ytoamlicfbmhajaa.reportNobody
open Go.ChangeShapes Go.WideShapes Go.ChangeAt Go.RowKit Go.Dl
open Go.ChangeMaps (open_string shut_string)

theorem own : ownKnob Try.prog.godebug = none := by kernel_rfl
theorem laidOut : laidOutB Try.prog = true := by kernel_rfl

theorem ty_cell {t : TypeId} {cs : List C} (hk : tk Try.prog t = some (.int .i64)) (h : Ty Try.prog t cs) : ∃ n, cs = [.v (.int .i64 n)] := by
  cases h with
  | int h1 hn => rw [hk] at h1; cases h1; exact ⟨_, rfl⟩
  | bool h1 => rw [hk] at h1; cases h1
  | str h1 _ => rw [hk] at h1; cases h1
  | slice h1 _ _ _ => rw [hk] at h1; cases h1
  | arr h1 _ _ => rw [hk] at h1; cases h1
  | st h1 _ => rw [hk] at h1; cases h1

theorem rows_nums : ∀ {rows : List (List C)}, (∀ r, r ∈ rows → Ty Try.prog 3 r) → ∃ l : List Int, l.length = rows.length ∧ rows.flatten = nums l
  | [], _ => ⟨[], rfl, rfl⟩
  | r :: rows, h => by
    obtain ⟨n, rfl⟩ := ty_cell tk3 (h r (List.mem_cons_self ..))
    obtain ⟨l, h1, h2⟩ := rows_nums fun r hr => h r (List.mem_cons_of_mem _ hr)
    exact ⟨n :: l, by simp [h1], by rw [List.flatten_cons, h2]; rfl⟩

theorem ty_arr {cs : List C} (h : Ty Try.prog 22 cs) : ∃ l : List Int, l.length = 8 ∧ cs = nums l := by
  have hk := tk22
  cases h with
  | arr h1 hn hr =>
    rw [hk] at h1; cases h1
    obtain ⟨l, q1, q2⟩ := rows_nums hr
    exact ⟨l, by omega, q2⟩
  | int h1 hn => rw [hk] at h1; cases h1
  | bool h1 => rw [hk] at h1; cases h1
  | str h1 _ => rw [hk] at h1; cases h1
  | slice h1 _ _ _ => rw [hk] at h1; cases h1
  | st h1 _ => rw [hk] at h1; cases h1

set_option maxRecDepth 100000 in
theorem lifted (os : Os) (started : os.Started) (H : Type) (enc : TypeId × Value → H) :
    ReturnsInHanded {} Try.checked os 6 .any (Rows.reportNobodySpec.pre6 enc Try.prog Try.f6 Rows.reportNobodyRow.domain false) (Rows.reportNobodySpec.post enc Try.prog Try.f6 false true false false) := by
  refine returnsInHanded_of_change (C := Try.checked) own started (by kernel_rfl) Try.func6
    (ChangeSpec.witness6 (enc := enc) (C := Try.checked) false ⟨#[], #[.agg #[.int .i64 0, .int .i64 0, .int .i64 0, .int .i64 0, .int .i64 0, .int .i64 0, .int .i64 0, .int .i64 0]], []⟩ 8 (by kernel_rfl) (by kernel_rfl) (by kernel_rfl) (by kernel_rfl)) ?_
  intro W base args ds gs before hval0 hW hcnd _
  have hval : ∀ (j : Nat) t v, Try.f6.params[j]? = some t → args[j]? = some v → Value.okWide Try.prog W .any base t v := hval0
  have hW' := hW
  obtain ⟨p, q, hA0, hV, rfl, hfz, hnd⟩ := hW
  have hA : DataW.TrodAll enc Try.prog W 0 (fun _ => true) true Try.f6.params.toList args.toList ds p := hA0
  rw [Try.params6] at hA hval
  obtain ⟨v0, vs0, d0, ds0, p0, q0, hargs, rfl, rfl, h0, r0⟩ := trodAll_cons hA
  obtain ⟨rfl, rfl, rfl⟩ := trodAll_nil r0
  obtain rfl : args = #[v0] := by cases args; simp_all
  obtain ⟨rfl, rfl⟩ := trodVars_none hV
  have lt0 : ∀ x ∈ p0, x.block < W.heap.size := by obtain ⟨m, hm⟩ := h0; exact DataW.trod_lt m _ _ _ hm
  obtain ⟨e0, a0, t0⟩ := arg_trod (by kernel_rfl) (hval 0 22 v0 rfl rfl) h0
  simp only [ArgTy, tk22, TK.agg, if_true] at t0
  obtain ⟨c0, rfl, t0⟩ := t0
  obtain ⟨l, hl, rfl⟩ := ty_arr t0
  clear hA0 hval0
  refine (law_bool (b := true) meets6 (vs := #[v0]) (args := [.agg (nums l)]) rfl ?_ ?_).mono fun e W' ⟨he, bel⟩ => ?_
  · intro i d hd
    match i, hd with
    | 0, hd => cases hd; exact a0
  · simp only [pReportNobody, decNums_nums, Option.bind_some, if_pos hl]
  · subst he
    exact ⟨_, rfl, _, _, _, [], _, [], hW', trodAll_mk1 (shut_bool Try.underlying4 _), (trodAll_cons_mk (Below.trod laidOut (by kernel_rfl) (of_decide_eq_true (by kernel_rfl)) h0 bel lt0) trodAll_mk0), rfl, bel.frame _, fun h => by cases h⟩

theorem over : Rows.reportNobodyRow.holds Try.pinned (OpenSpec.ofChange Rows.reportNobodySpec) :=
  OpenClaim.holds_of_wide 6 Try.f6 rfl rfl rfl rfl rfl rfl rfl ⟨rfl, rfl, rfl, rfl, rfl⟩ rfl rfl rfl rfl rfl (by kernel_rfl) Try.func6 (by kernel_rfl)
    (of_decide_eq_true (by kernel_rfl)) (by unfold Func.isWrapper; first | (rw [if_pos (by decide +kernel)]; kernel_rfl) | (rw [if_neg (by decide +kernel)]; exact ⟨rfl, rfl⟩))
    (fun os started H enc _ => lifted os started H enc)

theorem proved : Rows.ReportNobodySaid := over
end Go.Proofs.Ytoamlicfbmhajaa.reportNobody
