/- 'PolicyReady' returns true, whatever waits, whatever the time and those that are barred, and its input reads as it did. Conditions: none; the row as it was given. -/
import Derived.Test.YtoamlicfbmhajaaRows
import Derived.Test.YtoamlicfbmhajaaPh
import Derived.Test.YtoamlicfbmhajaaDlZg
namespace Go.Proofs.Ytoamlicfbmhajaa.policyReady
open Go.ChangeShapes Go.WideShapes Go.ChangeAt Go.RowKit Go.Dl
open Go.ChangeMaps (open_string shut_string)

theorem own : ownKnob Try.prog.godebug = none := by kernel_rfl
theorem laidOut : laidOutB Try.prog = true := by kernel_rfl

theorem ty_int {t : TypeId} {c : C} (hk : tk Try.prog t = some (.int .i64)) (h : Ty Try.prog t [c]) : ∃ n, c = .v (.int .i64 n) := by
  generalize hcs : [c] = cs at h
  cases h with
  | int h1 hn => rw [hk] at h1; cases h1; cases hcs; exact ⟨_, rfl⟩
  | bool h1 => rw [hk] at h1; cases h1
  | str h1 _ => rw [hk] at h1; cases h1
  | slice h1 _ _ _ => rw [hk] at h1; cases h1
  | arr h1 _ _ => rw [hk] at h1; cases h1
  | st h1 _ => rw [hk] at h1; cases h1

theorem ty_cell {t : TypeId} {cs : List C} (hk : tk Try.prog t = some (.int .i64)) (h : Ty Try.prog t cs) : ∃ n, cs = [.v (.int .i64 n)] := by
  cases h with
  | int h1 hn => rw [hk] at h1; cases h1; exact ⟨_, rfl⟩
  | bool h1 => rw [hk] at h1; cases h1
  | str h1 _ => rw [hk] at h1; cases h1
  | slice h1 _ _ _ => rw [hk] at h1; cases h1
  | arr h1 _ _ => rw [hk] at h1; cases h1
  | st h1 _ => rw [hk] at h1; cases h1

theorem rows_ints : ∀ {rows : List (List C)}, (∀ r, r ∈ rows → Ty Try.prog 3 r) → ∃ l : List Int, rows = ints l
  | [], _ => ⟨[], rfl⟩
  | r :: rows, h => by
    obtain ⟨n, rfl⟩ := ty_cell tk3 (h r (List.mem_cons_self ..))
    obtain ⟨l, rfl⟩ := rows_ints fun r hr => h r (List.mem_cons_of_mem _ hr)
    exact ⟨n :: l, rfl⟩

theorem ty_ints {cs : List C} (h : Ty Try.prog 66 cs) : ∃ l : List Int, cs = [.s false 1 (ints l)] ∧ l.length ≤ maxStr := by
  have hk := tk66
  cases h with
  | slice h1 hr hl hn =>
    rw [hk] at h1; cases h1
    obtain ⟨l, rfl⟩ := rows_ints hr
    rw [tsz3]
    exact ⟨l, rfl, by rw [List.length_map] at hn; exact hn⟩
  | int h1 hn => rw [hk] at h1; cases h1
  | bool h1 => rw [hk] at h1; cases h1
  | str h1 hs => rw [hk] at h1; cases h1
  | arr h1 _ _ => rw [hk] at h1; cases h1
  | st h1 _ => rw [hk] at h1; cases h1

theorem ty_due {cs : List C} (h : Ty Try.prog 79 cs) : ∃ d : Int × Int, cs = Dl.due d := by
  have hk := tk79
  cases h with
  | st h1 hf =>
    rw [hk] at h1; cases h1
    cases hf with
    | cons g1 hf =>
      cases hf with
      | cons g2 hf =>
        cases hf
        obtain ⟨a, rfl⟩ := ty_cell tk3 g1
        obtain ⟨b, rfl⟩ := ty_cell tk3 g2
        exact ⟨(a, b), rfl⟩
  | slice h1 _ _ _ => rw [hk] at h1; cases h1
  | int h1 hn => rw [hk] at h1; cases h1
  | bool h1 => rw [hk] at h1; cases h1
  | str h1 hs => rw [hk] at h1; cases h1
  | arr h1 _ _ => rw [hk] at h1; cases h1

theorem rows_dues : ∀ {rows : List (List C)}, (∀ r, r ∈ rows → Ty Try.prog 79 r) → ∃ l : List (Int × Int), rows = l.map Dl.due
  | [], _ => ⟨[], rfl⟩
  | r :: rows, h => by
    obtain ⟨d, rfl⟩ := ty_due (h r (List.mem_cons_self ..))
    obtain ⟨l, rfl⟩ := rows_dues fun r hr => h r (List.mem_cons_of_mem _ hr)
    exact ⟨d :: l, rfl⟩

theorem ty_dues {cs : List C} (h : Ty Try.prog 73 cs) : ∃ l : List (Int × Int), cs = [.s false 2 (l.map Dl.due)] ∧ l.length ≤ maxStr := by
  have hk := tk73
  cases h with
  | slice h1 hr hl hn =>
    rw [hk] at h1; cases h1
    obtain ⟨l, rfl⟩ := rows_dues hr
    rw [tsz79]
    exact ⟨l, rfl, by rw [List.length_map] at hn; exact hn⟩
  | int h1 hn => rw [hk] at h1; cases h1
  | bool h1 => rw [hk] at h1; cases h1
  | str h1 hs => rw [hk] at h1; cases h1
  | arr h1 _ _ => rw [hk] at h1; cases h1
  | st h1 _ => rw [hk] at h1; cases h1

set_option maxRecDepth 100000 in
theorem lifted (os : Os) (started : os.Started) (H : Type) (enc : TypeId × Value → H) :
    ReturnsInHanded {} Try.checked os 12 .any (Rows.policyReadySpec.pre6 enc Try.prog Try.f12 Rows.policyReadyRow.domain false) (Rows.policyReadySpec.post enc Try.prog Try.f12 false true false false) := by
  refine returnsInHanded_of_change (C := Try.checked) own started (by kernel_rfl) Try.func12
    (ChangeSpec.witness6 (enc := enc) (C := Try.checked) false ⟨#[], #[.slice none 0 0, .int .i64 0, .slice none 0 0], []⟩ 8 (by kernel_rfl) (by kernel_rfl) (by kernel_rfl) (by kernel_rfl)) ?_
  intro W base args ds gs before hval0 hW hcnd _
  have hval : ∀ (j : Nat) t v, Try.f12.params[j]? = some t → args[j]? = some v → Value.okWide Try.prog W .any base t v := hval0
  have hW' := hW
  obtain ⟨p, q, hA0, hV, rfl, hfz, hnd⟩ := hW
  have hA : DataW.TrodAll enc Try.prog W 0 (fun _ => true) true Try.f12.params.toList args.toList ds p := hA0
  rw [Try.params12] at hA hval
  obtain ⟨v0, vs0, d0, ds0, p0, q0, hargs, rfl, rfl, h0, r0⟩ := trodAll_cons hA
  obtain ⟨v1, vs1, d1, ds1, p1, q1, rfl, rfl, rfl, h1, r1⟩ := trodAll_cons r0
  obtain ⟨v2, vs2, d2, ds2, p2, q2, rfl, rfl, rfl, h2, r2⟩ := trodAll_cons r1
  obtain ⟨rfl, rfl, rfl⟩ := trodAll_nil r2
  obtain rfl : args = #[v0, v1, v2] := by cases args; simp_all
  obtain ⟨rfl, rfl⟩ := trodVars_none hV
  have lt0 : ∀ x ∈ p0, x.block < W.heap.size := by obtain ⟨m, hm⟩ := h0; exact DataW.trod_lt m _ _ _ hm
  have lt1 : ∀ x ∈ p1, x.block < W.heap.size := by obtain ⟨m, hm⟩ := h1; exact DataW.trod_lt m _ _ _ hm
  have lt2 : ∀ x ∈ p2, x.block < W.heap.size := by obtain ⟨m, hm⟩ := h2; exact DataW.trod_lt m _ _ _ hm
  obtain ⟨e0, a0, t0⟩ := arg_trod (by kernel_rfl) (hval 0 73 v0 rfl rfl) h0
  obtain ⟨e1, a1, t1⟩ := arg_trod (by kernel_rfl) (hval 1 3 v1 rfl rfl) h1
  obtain ⟨e2, a2, t2⟩ := arg_trod (by kernel_rfl) (hval 2 66 v2 rfl rfl) h2
  simp only [ArgTy, tk73, tk3, tk66, TK.agg, Bool.false_eq_true, if_false] at t0 t1 t2
  obtain ⟨c0, rfl, t0⟩ := t0
  obtain ⟨c1, rfl, t1⟩ := t1
  obtain ⟨c2, rfl, t2⟩ := t2
  obtain ⟨l, h73, hl⟩ := ty_dues t0
  cases h73
  obtain ⟨n1, rfl⟩ := ty_int tk3 t1
  obtain ⟨bar, h66, hb⟩ := ty_ints t2
  cases h66
  clear hA0 hval0
  refine (law_bool (b := true) meets12 (vs := #[v0, v1, v2]) (args := [.c (.s false 2 (l.map Dl.due)), .c (.v (.int .i64 n1)), .c (.s false 1 (ints bar))]) rfl ?_ ?_).mono fun e W' ⟨he, bel⟩ => ?_
  · intro i d hd
    match i, hd with
    | 0, hd => cases hd; exact a0
    | 1, hd => cases hd; exact a1
    | 2, hd => cases hd; exact a2
  · simp only [pPolicyReady, decDues_map, decInts_ints, Option.bind_some, if_pos (And.intro hl hb)]
  · subst he
    exact ⟨_, rfl, _, _, _, [], _, [], hW', trodAll_mk1 (shut_bool Try.underlying4 _), (trodAll_cons_mk (Below.trod laidOut (by kernel_rfl) (of_decide_eq_true (by kernel_rfl)) h0 bel lt0)
      (trodAll_cons_mk (Below.trod laidOut (by kernel_rfl) (of_decide_eq_true (by kernel_rfl)) h1 bel lt1)
      (trodAll_cons_mk (Below.trod laidOut (by kernel_rfl) (of_decide_eq_true (by kernel_rfl)) h2 bel lt2) trodAll_mk0))), rfl, bel.frame _, fun h => by cases h⟩

theorem over : Rows.policyReadyRow.holds Try.pinned (OpenSpec.ofChange Rows.policyReadySpec) :=
  OpenClaim.holds_of_wide 12 Try.f12 rfl rfl rfl rfl rfl rfl rfl ⟨rfl, rfl, rfl, rfl, rfl⟩ rfl rfl rfl rfl rfl (by kernel_rfl) Try.func12 (by kernel_rfl)
    (of_decide_eq_true (by kernel_rfl)) (by unfold Func.isWrapper; first | (rw [if_pos (by decide +kernel)]; kernel_rfl) | (rw [if_neg (by decide +kernel)]; exact ⟨rfl, rfl⟩))
    (fun os started H enc _ => lifted os started H enc)

theorem proved : Rows.PolicyReadySaid := over
end Go.Proofs.Ytoamlicfbmhajaa.policyReady
