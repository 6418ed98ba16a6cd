/- 'PolicyDeadlines' returns true, whatever the eight terms, the class and the birth, and its input reads as it did. Conditions: none; the row as it was given. -/
import Derived.Test.YtoamlicfbmhajaaRows
import Derived.Test.YtoamlicfbmhajaaQd
import Derived.Test.YtoamlicfbmhajaaDlZg
namespace Go.Proofs.Ytoamlicfbmhajaa.policyDeadlines
open Go.ChangeShapes Go.WideShapes Go.ChangeAt Go.RowKit Go.Dl
open Go.ChangeMaps (open_string shut_string)

theorem own : ownKnob Try.prog.godebug = none := by kernel_rfl
theorem laidOut : laidOutB Try.prog = true := by kernel_rfl

theorem ty_int {t : TypeId} {c : C} (hk : tk Try.prog t = some (.int .i64)) (h : Ty Try.prog t [c]) : ∃ n, c = .v (.int .i64 n) := by
  generalize hcs : [c] = cs at h
  cases h with
  | int h1 hn => rw [hk] at h1; cases h1; cases hcs; exact ⟨_, rfl⟩
  | bool h1 => rw [hk] at h1; cases h1
  | str h1 _ => rw [hk] at h1; cases h1
  | slice h1 _ _ _ => rw [hk] at h1; cases h1
  | arr h1 _ _ => rw [hk] at h1; cases h1
  | st h1 _ => rw [hk] at h1; cases h1

theorem ty_cell {t : TypeId} {cs : List C} (hk : tk Try.prog t = some (.int .i64)) (h : Ty Try.prog t cs) : ∃ n, cs = [.v (.int .i64 n)] := by
  cases h with
  | int h1 hn => rw [hk] at h1; cases h1; exact ⟨_, rfl⟩
  | bool h1 => rw [hk] at h1; cases h1
  | str h1 _ => rw [hk] at h1; cases h1
  | slice h1 _ _ _ => rw [hk] at h1; cases h1
  | arr h1 _ _ => rw [hk] at h1; cases h1
  | st h1 _ => rw [hk] at h1; cases h1

theorem rows_nums : ∀ {rows : List (List C)}, (∀ r, r ∈ rows → Ty Try.prog 3 r) → ∃ l : List Int, l.length = rows.length ∧ rows.flatten = nums l
  | [], _ => ⟨[], rfl, rfl⟩
  | r :: rows, h => by
    obtain ⟨n, rfl⟩ := ty_cell tk3 (h r (List.mem_cons_self ..))
    obtain ⟨l, h1, h2⟩ := rows_nums fun r hr => h r (List.mem_cons_of_mem _ hr)
    exact ⟨n :: l, by simp [h1], by rw [List.flatten_cons, h2]; rfl⟩

theorem ty_arr {cs : List C} (h : Ty Try.prog 22 cs) : ∃ l : List Int, l.length = 8 ∧ cs = nums l := by
  have hk := tk22
  cases h with
  | arr h1 hn hr =>
    rw [hk] at h1; cases h1
    obtain ⟨l, q1, q2⟩ := rows_nums hr
    exact ⟨l, by omega, q2⟩
  | int h1 hn => rw [hk] at h1; cases h1
  | bool h1 => rw [hk] at h1; cases h1
  | str h1 _ => rw [hk] at h1; cases h1
  | slice h1 _ _ _ => rw [hk] at h1; cases h1
  | st h1 _ => rw [hk] at h1; cases h1

set_option maxRecDepth 100000 in
theorem lifted (os : Os) (started : os.Started) (H : Type) (enc : TypeId × Value → H) :
    ReturnsInHanded {} Try.checked os 3 .any (Rows.policyDeadlinesSpec.pre6 enc Try.prog Try.f3 Rows.policyDeadlinesRow.domain false) (Rows.policyDeadlinesSpec.post enc Try.prog Try.f3 false true false false) := by
  refine returnsInHanded_of_change (C := Try.checked) own started (by kernel_rfl) Try.func3
    (ChangeSpec.witness6 (enc := enc) (C := Try.checked) false ⟨#[], #[.agg #[.int .i64 0, .int .i64 0, .int .i64 0, .int .i64 0, .int .i64 0, .int .i64 0, .int .i64 0, .int .i64 0], .int .i64 0, .int .i64 0], []⟩ 8 (by kernel_rfl) (by kernel_rfl) (by kernel_rfl) (by kernel_rfl)) ?_
  intro W base args ds gs before hval0 hW hcnd _
  have hval : ∀ (j : Nat) t v, Try.f3.params[j]? = some t → args[j]? = some v → Value.okWide Try.prog W .any base t v := hval0
  have hW' := hW
  obtain ⟨p, q, hA0, hV, rfl, hfz, hnd⟩ := hW
  have hA : DataW.TrodAll enc Try.prog W 0 (fun _ => true) true Try.f3.params.toList args.toList ds p := hA0
  rw [Try.params3] at hA hval
  obtain ⟨v0, vs0, d0, ds0, p0, q0, hargs, rfl, rfl, h0, r0⟩ := trodAll_cons hA
  obtain ⟨v1, vs1, d1, ds1, p1, q1, rfl, rfl, rfl, h1, r1⟩ := trodAll_cons r0
  obtain ⟨v2, vs2, d2, ds2, p2, q2, rfl, rfl, rfl, h2, r2⟩ := trodAll_cons r1
  obtain ⟨rfl, rfl, rfl⟩ := trodAll_nil r2
  obtain rfl : args = #[v0, v1, v2] := by cases args; simp_all
  obtain ⟨rfl, rfl⟩ := trodVars_none hV
  have lt0 : ∀ x ∈ p0, x.block < W.heap.size := by obtain ⟨m, hm⟩ := h0; exact DataW.trod_lt m _ _ _ hm
  have lt1 : ∀ x ∈ p1, x.block < W.heap.size := by obtain ⟨m, hm⟩ := h1; exact DataW.trod_lt m _ _ _ hm
  have lt2 : ∀ x ∈ p2, x.block < W.heap.size := by obtain ⟨m, hm⟩ := h2; exact DataW.trod_lt m _ _ _ hm
  obtain ⟨e0, a0, t0⟩ := arg_trod (by kernel_rfl) (hval 0 22 v0 rfl rfl) h0
  obtain ⟨e1, a1, t1⟩ := arg_trod (by kernel_rfl) (hval 1 3 v1 rfl rfl) h1
  obtain ⟨e2, a2, t2⟩ := arg_trod (by kernel_rfl) (hval 2 3 v2 rfl rfl) h2
  simp only [ArgTy, tk22, tk3, TK.agg, if_true, Bool.false_eq_true, if_false] at t0 t1 t2
  obtain ⟨cs, rfl, t0⟩ := t0
  obtain ⟨c1, rfl, t1⟩ := t1
  obtain ⟨c2, rfl, t2⟩ := t2
  obtain ⟨l, hl, rfl⟩ := ty_arr t0
  obtain ⟨n1, rfl⟩ := ty_int tk3 t1
  obtain ⟨n2, rfl⟩ := ty_int tk3 t2
  clear hA0 hval0
  refine (law_bool (b := true) meets3 (vs := #[v0, v1, v2]) (args := [.agg (nums l), .c (.v (.int .i64 n1)), .c (.v (.int .i64 n2))]) rfl ?_ ?_).mono fun e W' ⟨he, bel⟩ => ?_
  · intro i d hd
    match i, hd with
    | 0, hd => cases hd; exact a0
    | 1, hd => cases hd; exact a1
    | 2, hd => cases hd; exact a2
  · simp only [pLaw15, decNums_nums, Option.bind_some, if_pos hl]
  · subst he
    exact ⟨_, rfl, _, _, _, [], _, [], hW', trodAll_mk1 (shut_bool Try.underlying4 _), (trodAll_cons_mk (Below.trod laidOut (by kernel_rfl) (of_decide_eq_true (by kernel_rfl)) h0 bel lt0)
      (trodAll_cons_mk (Below.trod laidOut (by kernel_rfl) (of_decide_eq_true (by kernel_rfl)) h1 bel lt1)
      (trodAll_cons_mk (Below.trod laidOut (by kernel_rfl) (of_decide_eq_true (by kernel_rfl)) h2 bel lt2) trodAll_mk0))), rfl, bel.frame _, fun h => by cases h⟩

theorem over : Rows.policyDeadlinesRow.holds Try.pinned (OpenSpec.ofChange Rows.policyDeadlinesSpec) :=
  OpenClaim.holds_of_wide 3 Try.f3 rfl rfl rfl rfl rfl rfl rfl ⟨rfl, rfl, rfl, rfl, rfl⟩ rfl rfl rfl rfl rfl (by kernel_rfl) Try.func3 (by kernel_rfl)
    (of_decide_eq_true (by kernel_rfl)) (by unfold Func.isWrapper; first | (rw [if_pos (by decide +kernel)]; kernel_rfl) | (rw [if_neg (by decide +kernel)]; exact ⟨rfl, rfl⟩))
    (fun os started H enc _ => lifted os started H enc)

theorem proved : Rows.PolicyDeadlinesSaid := over
end Go.Proofs.Ytoamlicfbmhajaa.policyDeadlines
