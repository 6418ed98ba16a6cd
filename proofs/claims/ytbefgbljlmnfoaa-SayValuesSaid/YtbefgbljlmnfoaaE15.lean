/- Tokens' plain facts; the walks of Script, awake; The walk of awake; The walks of the reference's letter, digit, plain, nibble, quote, and of the law's cut; Plain facts of texts: bytes, quotes, blanks, tokens. -/
import Derived.Test.YtbefgbljlmnfoaaE14
namespace Go.Dl
open Go.RowKit
open Go.Proofs
set_option linter.unusedSimpArgs false
set_option linter.unusedVariables false

theorem nextF_some (s : ByteArray) (p : Nat) : ∃ r, nextF s p = some r := by
  unfold nextF
  split
  · exact ⟨_, rfl⟩
  split
  · exact ⟨_, rfl⟩
  split
  · split
    · exact ⟨_, rfl⟩
    · exact ⟨_, rfl⟩
  split
  · split
    · exact ⟨_, rfl⟩
    · exact ⟨_, rfl⟩
  split
  · exact ⟨_, rfl⟩
  · exact ⟨_, rfl⟩
def tokOk (n : Nat) (t : Tok) : Prop := t.2.1.size ≤ n ∧ (t.1 = 1 → 0 < t.2.1.size) ∧ 0 ≤ t.2.2
theorem nextF_ok {s : ByteArray} {p : Nat} (hp : p ≤ s.size) {t : Tok} {e : Int} {r : Nat} (h : nextF s p = some (t, true, e, r)) : e = 0 ∧ tokOk s.size t := by
  have hq := blkF_le s p hp
  unfold nextF at h
  generalize blkF s p = q at h hq
  split at h
  · cases h
  · rename_i hne
    have hqs : q < s.size := by omega
    split at h
    · cases h
      have := runF_le isWordC s q hq.2
      exact ⟨rfl, by simp only [ByteArray.size_extract]; omega, (fun h => by simp at h), Int.natCast_nonneg _⟩
    · split at h
      · split at h
        · cases h
        · cases h
          have := runF_le isDigit s (q + 1) hqs
          exact ⟨rfl, by simp only [ByteArray.size_append, ByteArray.size_extract]; omega, fun _ => by simp only [ByteArray.size_append, ByteArray.size_extract]; omega, Int.natCast_nonneg _⟩
      · split at h
        · split at h
          · cases h
            exact ⟨rfl, quoteF_size s q hqs, (fun h => by simp at h), Int.natCast_nonneg _⟩
          · cases h
        · split at h
          · cases h
            exact ⟨rfl, by simp only [ByteArray.size_extract]; omega, (fun h => by simp at h), Int.natCast_nonneg _⟩
          · cases h
theorem nextF_err {s : ByteArray} {p : Nat} {t : Tok} {e : Int} {r : Nat} (h : nextF s p = some (t, false, e, r)) : (e = 0 ∨ e = 4) ∧ 0 ≤ t.2.2 := by
  unfold nextF at h
  generalize blkF s p = q at h
  split at h
  · cases h; exact ⟨.inl rfl, Int.le_refl _⟩
  split at h
  · cases h
  split at h
  · split at h
    · cases h; exact ⟨.inr rfl, Int.natCast_nonneg _⟩
    · cases h
  split at h
  · split at h
    · cases h
    · cases h; exact ⟨.inr rfl, Int.natCast_nonneg _⟩
  split at h
  · cases h
  · cases h; exact ⟨.inr rfl, Int.natCast_nonneg _⟩
theorem toksN_ok : ∀ (n : Nat) (s : ByteArray) (p : Nat) (acc : List Tok), p ≤ s.size → s.size - p < n → (∀ t ∈ acc, tokOk s.size t) → ∃ r, toksN n s p acc = some r ∧ r.1.length ≤ acc.length + (s.size - p) ∧ (∀ t ∈ r.1, tokOk s.size t)
  | 0, s, p, acc, hp, hn, ha => by omega
  | n + 1, s, p, acc, hp, hn, ha => by
    obtain ⟨⟨t, m, e, r⟩, hr⟩ := nextF_some s p
    simp only [toksN, hr, Z8]
    by_cases he : e = 0
    · rw [if_neg (by simp [he])]
      cases m with
      | false => exact ⟨_, rfl, by show acc.length ≤ _; omega, ha⟩
      | true =>
        rw [if_neg (by simp)]
        obtain ⟨g1, g2⟩ := nextF_le hp hr
        have g3 := g2 rfl
        obtain ⟨q, h1, h2, h3⟩ := toksN_ok n s r (acc ++ [t]) g1 (by omega) (by
          intro x hx
          rcases List.mem_append.1 hx with hx | hx
          · exact ha x hx
          · rw [List.mem_singleton.1 hx]; exact (nextF_ok hp hr).2)
        refine ⟨q, h1, ?_, h3⟩
        rw [List.length_append, List.length_singleton] at h2
        omega
    · rw [if_pos he]
      exact ⟨_, rfl, Nat.zero_le _, by intro t ht; cases ht⟩
theorem toksF_ok (s : ByteArray) : ∃ r, toksF s = some r ∧ r.1.length ≤ s.size ∧ (∀ t ∈ r.1, tokOk s.size t) := by
  unfold toksF
  split
  · exact ⟨_, rfl, Nat.zero_le _, by intro t ht; cases ht⟩
  · obtain ⟨r, h1, h2, h3⟩ := toksN_ok (s.size + 1) s 0 [] (Nat.zero_le _) (by omega) (by intro t ht; cases ht)
    exact ⟨r, h1, by simpa using h2, h3⟩
def toksT (s : ByteArray) : List Tok × Int × Int := (toksF s).getD ([], 0, 0)
theorem toksT_eq (s : ByteArray) : toksF s = some (toksT s) := by
  obtain ⟨r, hr, _⟩ := toksF_ok s
  unfold toksT; rw [hr]; rfl
theorem toksT_ok (s : ByteArray) : (toksT s).1.length ≤ s.size ∧ ∀ t ∈ (toksT s).1, tokOk s.size t := by
  obtain ⟨r, hr, h1, h2⟩ := toksF_ok s
  unfold toksT; rw [hr]; exact ⟨h1, h2⟩
theorem toks_pre {s : ByteArray} (hs : s.size ≤ 1000000) {i : Nat} (hi : i ≤ (toksT s).1.length) : okPre (toksT s).1 i s.size := by
  obtain ⟨h1, h2⟩ := toksT_ok s
  exact ⟨⟨by omega, hi, fun t ht => Nat.le_trans (h2 t ht).1 hs⟩, fun t ht hk => (h2 t ht).2.1 hk, Int.natCast_nonneg _, fun t ht => (h2 t ht).2.2⟩

noncomputable def pToksZ : List D → Option D := fun a => (pToks a).map D.frzT
theorem meets11Z : Meets Try.prog 11 (pureS pToksZ) := meets_frzTP meets11
theorem toks_at (s : ByteArray) (hs : s.size ≤ 1000000) : pToksZ [.c (.v (.string s))] = some (.t [.c (.s false 3 ((toksT s).1.map tokC)), .c (.v (.int .i64 (toksT s).2.1)), .c (.v (.int .i64 (toksT s).2.2))]) := by
  unfold pToksZ
  simp only [pToks, if_pos hs, toksT_eq, Z4, D.frzT, Z24, Z13, D.frz, if_pos (toks_cps _)]

theorem step_at {l : List Tok} (i : Nat) (e bad : Int) (h : okPre l i e) : oStep [.c (.p 0 0 0)] [⟨4, [[.s false 3 (l.map tokC), .v (.int .i64 i), .v (.int .i64 e), .v (.int .i64 bad)]]⟩] =
    some (.agg (actC false (stepF l i e bad).1), [⟨4, [[.s false 3 (l.map tokC), .v (.int .i64 (stepF l i e bad).2.1), .v (.int .i64 e), .v (.int .i64 (stepF l i e bad).2.2)]]⟩]) :=
  famO_at (fun x y h => pa_inj4 x y h) (l, i, e, bad) h rfl
theorem form_no : formIx noText 16 0 = none := by kernel_rfl
theorem stepF_in {l : List Tok} {i : Nat} {e bad : Int} (h : okPre l i e) : (i ≤ (stepF l i e bad).2.1 ∧ (stepF l i e bad).2.1 ≤ l.length) ∧ ((stepF l i e bad).2.2 < 0 → i < (stepF l i e bad).2.1) := by
  have hw : (stepW l i e bad).2.1 = i + 1 ∨ (stepW l i e bad).1 = noText := by
    unfold stepW takeF
    split
    · exact .inr rfl
    · split
      · split
        · exact .inl rfl
        · exact .inr rfl
      · exact .inr rfl
  have hj : (stepW l i e bad).2.1 ≤ l.length := takeF_le h.1.2.1
  cases hf : formIx (stepW l i e bad).1 16 0 with
  | none =>
    rw [stepF_none hf]
    have := fail_pos h.2.2 i (stepW l i e bad).2.2
    exact ⟨⟨Nat.le_refl i, h.1.2.1⟩, fun hb => by dsimp only at hb; omega⟩
  | some k =>
    have hw1 : (stepW l i e bad).2.1 = i + 1 := by
      rcases hw with hw | hw
      · exact hw
      · rw [hw, form_no] at hf; cases hf
    obtain ⟨r, hr⟩ : ∃ r, stepA l i e bad k = r := ⟨_, rfl⟩
    rw [stepF_some hf hr]
    have hA := argsGo_in (argsK k) (act0 k) (stepW l i e bad).2.1 (stepW l i e bad).2.2 (h.at hj)
    rw [show argsGo l e (argsK k) (act0 k) (stepW l i e bad).2.1 (stepW l i e bad).2.2 = r from hr] at hA
    have hm := markF_ge l r.2.1 e r.2.2 semi
    have hm2 : (markF l r.2.1 e r.2.2 semi).1 ≤ l.length := markF_le hA.2
    exact ⟨⟨by dsimp only; omega, hm2⟩, fun _ => by dsimp only; omega⟩

/-- The steps of tokens. -/
def scriptN (l : List Tok) (e : Int) : Nat → Nat → Int → List ActM → List ActM × Nat × Int
  | 0, i, bad, acc => (acc, i, bad)
  | n + 1, i, bad, acc => if bad < 0 then (if (i : Int) < (l.length : Int) then scriptN l e n (stepF l i e bad).2.1 (stepF l i e bad).2.2 (acc ++ [(stepF l i e bad).1]) else (acc, i, bad)) else (acc, i, bad)
def scriptP (l : List Tok) (e : Int) : List ActM × Nat × Int := scriptN l e (l.length + 2) 0 (-1) []
/-- The steps of a text, at which byte the first error is, and its number. -/
def scriptF (s : ByteArray) : Option (List ActM) × Int × Int :=
  if ¬ (toksT s).2.2 = 0 then (none, (toksT s).2.1, (toksT s).2.2)
  else if 0 ≤ (scriptP (toksT s).1 s.size).2.2 then (none, (scriptP (toksT s).1 s.size).2.2, 4)
  else (some (scriptP (toksT s).1 s.size).1, 0, 0)
def actsC (l : Option (List ActM)) : C := .s true (l.elim 0 fun _ => 12) (l.elim [] fun l => l.map (actC false))
theorem act_nb (l : List ActM) : rowsNB (l.map (actC false)) = true := nb_map (fun _ => rfl)
theorem act_settle (H : List (Option Root)) (a : ActM) : settleCs H (actC false a) = (actC false a, H) := rfl
theorem act_dat2 (a : ActM) : (actC false a).all C.dat = true := rfl
theorem act_drop (a : ActM) : (actC false a).drop 12 = [] := rfl
theorem act_kill (r : Nat) (a : ActM) : (actC false a).map (C.kill r) = actC false a := rfl
theorem act_nos (r : Nat) (a : ActM) : C.nos r (actC false a) = true := rfl
theorem script_ne {s : ByteArray} (h : ¬ (toksT s).2.2 = 0) : scriptF s = (none, (toksT s).2.1, (toksT s).2.2) := by unfold scriptF; rw [if_pos h]
theorem script_bad {s : ByteArray} (h : (toksT s).2.2 = 0) {r : List ActM × Nat × Int} (hr : scriptP (toksT s).1 s.size = r) (hb : 0 ≤ r.2.2) : scriptF s = (none, r.2.2, 4) := by
  unfold scriptF; rw [if_neg (by simp [h]), hr, if_pos hb]
theorem script_ok {s : ByteArray} (h : (toksT s).2.2 = 0) {r : List ActM × Nat × Int} (hr : scriptP (toksT s).1 s.size = r) (hb : ¬ 0 ≤ r.2.2) : scriptF s = (some r.1, 0, 0) := by
  unfold scriptF; rw [if_neg (by simp [h]), hr, if_neg hb]

noncomputable def FsS2 : Fs := { pure := fun k => if k = 11 then some pToksZ else none, objs := fun k => if k = 47 then some oStep else none }
theorem okS2 : FsOK Try.prog FsS2 := by
  refine ⟨fun k f h => ?_, fun k f h => ?_⟩
  · simp only [FsS2] at h
    split at h
    · rename_i hk; subst hk; cases h; exact ⟨by kernel_rfl, meets11Z⟩
    · cases h
  · simp only [FsS2] at h
    split at h
    · rename_i hk; subst hk; cases h; exact ⟨by kernel_rfl, meets47⟩
    · cases h
noncomputable def pScript : List D → Option D := famP (fun s : ByteArray => s.size ≤ 1000000) (fun s => [.c (.v (.string s))]) (fun s => .t [.c (actsC (scriptF s).1), .c (.v (.int .i64 (scriptF s).2.1)), .c (.v (.int .i64 (scriptF s).2.2))])
set_option maxHeartbeats 2000000 in
theorem meets22 : Meets Try.prog 22 (pureS pScript) := by
  refine meets_famP (show Try.prog.funcs[22]? = some Try.f22 by kernel_rfl) rfl (n := 57) rfl (rs := [ResultVar.tmp 2, ResultVar.tmp 3, ResultVar.tmp 4]) rfl ?_
  intro s hs Q hQ
  have hT := toks_at s hs
  have hpre : ∀ i : Nat, i ≤ (toksT s).1.length → okPre (toksT s).1 i s.size := fun i hi => toks_pre hs hi
  have hln : (toksT s).1.length ≤ s.size := (toksT_ok s).1
  have hsm : s.size ≤ maxStr := by unfold maxStr; omega
  obtain ⟨res, hres⟩ : ∃ res, scriptP (toksT s).1 s.size = res := ⟨_, rfl⟩
  have hQ0 : ¬ (toksT s).2.2 = 0 → Q (.t [.c (actsC none), .c (.v (.int .i64 (toksT s).2.1)), .c (.v (.int .i64 (toksT s).2.2))]) [] := fun h => by rw [script_ne h] at hQ; exact hQ
  have hQ1 : ∀ a j b, (a, j, b) = res → (toksT s).2.2 = 0 → 0 ≤ b → Q (.t [.c (actsC none), .c (.v (.int .i64 b)), .c (.v (.int .i64 4))]) [] := fun a j b he h h1 => by
    subst he; rw [script_bad h hres h1] at hQ; exact hQ
  have hQ2 : ∀ a j b, (a, j, b) = res → (toksT s).2.2 = 0 → ¬ 0 ≤ b → Q (.t [.c (actsC (some a)), .c (.v (.int .i64 0)), .c (.v (.int .i64 0))]) [] := fun a j b he h h1 => by
    subst he; rw [script_ok h hres h1] at hQ; exact hQ
  clear hQ
  unfold scriptP at hres
  generalize (toksT s).1 = l at hT hpre hres hln
  generalize (toksT s).2.1 = at0 at hT hQ0
  generalize (toksT s).2.2 = e0 at hT hQ0 hQ1 hQ2
  generalize hk0 : l.length + 2 = k0 at hres
  refine seq_run okS2 rfl (by repeat (first | with_reducible exact runf_nil | refine runf_cons (by simp only [xstep, stepf, stepx, qev, St.ev, St.put, constD, constC, Z5, Z6, List.replicate, Z9, Z10, Z23, Z12, Z4, Nat.reduceSub, Z3, Z14]; rfl) ?_)) ?_
  refine seq_run okS2 rfl (by repeat (first | with_reducible exact runf_nil | refine runf_cons (by simp only [xstep, stepf, stepx, evsA, qev, St.ev, St.put, St.with, C.cpy, qext, C.cp, C.dat, Z1, Z2, Z5, Z6, Z15, Z13, Z8, Z4, if_true, Z3, Z26, Bool.true_or, callP, argDs, argD, argC, settle, settle1, settleC, settleDs, Z25, FsS2, hT]; rfl) ?_)) ?_
  refine seq_in ?_
  refine seq_run okS2 rfl (by repeat (first | with_reducible exact runf_nil | refine runf_cons (by simp only [xstep, stepf, stepx, qev, St.ev, St.put, qint, qshift, isShift, qbin, constD, constC, Z1, Z2, Z5, Z6, Z4, Z11, if_true, if_false, Z3, Z7]; rfl) ?_)) ?_
  refine tri_cond rfl (fun a0 => ?_) (fun a0 => ?_)
  ·
    simp only [decide_eq_false_iff_not, Bool.not_eq_true'] at a0
    refine seq_run okS2 rfl (by repeat (first | with_reducible exact runf_nil | refine runf_cons (by simp only [xstep, stepf, stepx, qev, St.ev, St.put, constD, constC, Z1, Z2, Z5, Z6, Z4, decide_false, Bool.not_false, Z3, a0]; rfl) ?_)) ?_
    refine tri_ret (ends_ret (by simp only [outRes, resDs, resD, outDs, outD, outC, C.dat, Z1, Z2, Z4, if_true, Z3]; rfl) rfl (by simp) (by simp) ?_)
    (exact hQ0 (by omega))
  ·
    simp only [decide_eq_true_eq, Bool.not_eq_false'] at a0
    refine then_skip ?_
    refine seq_run okS2 rfl (by repeat (first | with_reducible exact runf_nil | refine runf_cons (by simp only [xstep, stepf, stepx, qev, St.ev, St.put, St.with, D.cells, boxA, qlen, qbuiltin, C.st, putCells, constD, constC, Z1, Z2, Z5, Z6, Z9, Z10, Z23, Z12, Z15, Z16, Z18, Z17, Z20, Z19, Z21, Z8, Z4, Nat.reduceAdd, if_true, and_self, decide_true, Bool.not_true, Z3, Nat.reduceLeDiff, Nat.le_refl, Nat.reduceBNe, Z14, Z26, buildA, partsA, fillA, placeSt, tk80, tz80, a0, tk9, tsz23, tsz3]; rfl) ?_)) ?_
    refine seq_run okS2 rfl (by repeat (first | with_reducible exact runf_nil | refine runf_cons (by simp only [xstep, stepf, stepx, qev, St.ev, St.put, constD, constC, Z5, Z6, Z4, Z3]; rfl) ?_)) ?_
    refine seq_in (tri_block ?_)
    refine tri_nil 9 12 rfl ?_
    show Tri _ _ _ _
    refine tri_loop_le (fun m A => ∃ (f i : Nat) (bad : Int) (acc : List ActM) (T : List (Option Root)), i ≤ l.length ∧ acc.length ≤ i + 1 ∧ (bad < 0 → acc.length ≤ i) ∧ m = l.length - i + (if bad < 0 then 1 else 0) ∧ m < f ∧ scriptN l s.size f i bad acc = res ∧ A = ⟨[.top, .top, .top, .top, .top, .top, .top, .top, .c (.p 0 0 0), .c (.h 1 0 acc.length), .top, .top, .top, .top, .top, .top, .top, .top, .top, .top, .top, .top, .top, .top, .top, .top, .top, .top, .top, .top, .top, .top, .top, .top, .top, .top, .top, .top, .top, .top, .top, .top, .top, .top, .top, .top, .top, .top, .top, .top, .top, .top, .top, .top, .top, .top, .top], some ⟨false, 4, [[.s false 3 (l.map tokC), .v (.int .i64 i), .v (.int .i64 s.size), .v (.int .i64 bad)]]⟩ :: some ⟨true, 12, acc.map (actC false)⟩ :: T⟩) (l.length + 1) (B := ⟨[.top, .top, .top, .top, .top, .top, .top, .top, .c (.p 0 0 0), .c (.h 1 0 0), .top, .top, .top, .top, .top, .top, .top, .top, .top, .top, .top, .top, .top, .top, .top, .top, .top, .top, .top, .top, .top, .top, .top, .top, .top, .top, .top, .top, .top, .top, .top, .top, .top, .top, .top, .top, .top, .top, .top, .top, .top, .top, .top, .top, .top, .top, .top], some ⟨false, 4, [[.s false 3 (l.map tokC), .v (.int .i64 (0 : Nat)), .v (.int .i64 s.size), .v (.int .i64 (-1))]]⟩ :: some ⟨true, 12, []⟩ :: []⟩) ⟨by repeat (first | exact .nil | refine .same ?_ | refine .top ?_), rfl⟩ ⟨k0, 0, -1, [], [], Nat.zero_le _, by simp, by simp, by simp, by omega, hres, rfl⟩ ?_
    rintro m A ⟨f, i, bad, acc, T, hi, hacc, hacc2, hm, hf, hk, rfl⟩
    obtain ⟨f, rfl⟩ : ∃ f2, f = f2 + 1 := ⟨f - 1, by omega⟩
    simp only [scriptN] at hk
    have hS := step_at i s.size bad (hpre i hi)
    have hin := stepF_in (bad := bad) (hpre i hi)
    have hlm : l.length ≤ maxStr := (by unfold maxStr; omega)
    have ht0 : (acc.map (actC false)).take acc.length = acc.map (actC false) := List.take_of_length_le (by simp)
    have hne : ∀ k : Nat, (k + 1 + 1 != 1) = true := (by intro k; simp)
    have hz : (acc.length + 1) * 160 ≤ 140737488355328 := (by omega)
    refine seq_in ?_
    refine seq_anyE mixed okS2 rfl (by kernel_rfl) ?_
    by_cases a1 : (bad < 0)
    ·
      refine ⟨_, (by repeat (first | with_reducible exact runf_nil | refine runf_cons (by simp only [xstep, stepf, stepx, qev, St.ev, St.put, qload, cellsAt, qmk, C.cpy, TK.agg, qnil, qfieldAddr, qpick, qint, qshift, isShift, qbin, qlen, qbuiltin, liveR, C.cp, constD, constC, Z1, Z2, Z5, Z6, Z9, Z10, Z13, Z24, Z16, Z18, Z17, Z20, Z19, Z21, Z8, Z4, Z11, if_true, if_false, and_self, decide_true, cond_true, Z22, Z3, reduceCtorEq, Z7, Nat.add_zero, Z14, Z26, tk80, hlm, List.length_map, tsz23, tsz3, tk3, eq_true a1, tk23]; rfl) ?_)), ?_⟩
      refine tri_cond rfl (fun a2 => ?_) (fun a2 => ?_)
      ·
        simp only [decide_eq_true_eq] at a2
        refine then_skip ?_
        refine tri_block ?_
        refine run_end okS2 rfl (by repeat (first | with_reducible exact runf_nil | refine runf_cons (by simp only [xstep, stepf, stepx, evsA, qev, St.ev, St.put, St.with, D.cells, D.cell, C.dat, putCells, Z1, Z2, Z5, Z6, Z9, Z10, Z23, Z12, Z15, Z13, Z24, Z16, Z18, Z17, Z20, Z19, Z21, Z8, Z4, Bool.and_true, Nat.reduceAdd, Nat.reduceMul, Nat.reduceEqDiff, if_true, if_false, and_self, decide_true, Z3, ne_eq, not_false_eq_true, reduceCtorEq, Nat.reduceLeDiff, Nat.le_refl, Nat.reduceBNe, Z7, Z14, bne_self_eq_false, beq_self_eq_true, Z26, Bool.true_or, callP, callO, dedup, rootsD, rootsC, List.flatMap_cons, List.flatMap_nil, List.filterMap_cons, List.filterMap_nil, argDs, argD, argC, List.contains_nil, objsAt, objOf, List.idxOf?, List.findIdx?, List.findIdx?.go, setObjs, settle, settle1, Z25, FsS2, partsA, fillA, hS, ht0, hne, hz, act_nb, act_settle, act_take, act_cp, act_len, act_st, act_dat2, act_nos, last_get, buildSliceA, partsA, fillA, reps, chop, tkApp, appendA, srcRows, srcOther, D.kill, D.no, C.no, C.kill, killH, Root.kill, a2, tk45, tz50, tsz50, bo50]; rfl) ?_)) ?_
        simp only []
        (simp only [reduceIte, ↓reduceIte, eq_true a1, a2] at hk; exact ⟨l.length - (stepF l i s.size bad).2.1 + (if (stepF l i s.size bad).2.2 < 0 then 1 else 0), (by rw [if_pos (by omega)] at hm; split <;> omega), ⟨[.top, .top, .top, .top, .top, .top, .top, .top, .c (.p 0 0 0), .c (.h 1 0 (acc ++ [(stepF l i s.size bad).1]).length), .top, .top, .top, .top, .top, .top, .top, .top, .top, .top, .top, .top, .top, .top, .top, .top, .top, .top, .top, .top, .top, .top, .top, .top, .top, .top, .top, .top, .top, .top, .top, .top, .top, .top, .top, .top, .top, .top, .top, .top, .top, .top, .top, .top, .top, .top, .top], some ⟨false, 4, [[.s false 3 (l.map tokC), .v (.int .i64 (stepF l i s.size bad).2.1), .v (.int .i64 s.size), .v (.int .i64 (stepF l i s.size bad).2.2)]]⟩ :: some ⟨true, 12, (acc ++ [(stepF l i s.size bad).1]).map (actC false)⟩ :: List.map (fun o => Option.map (Root.kill 1) o) (T ++ [some ⟨true, 12, [actC false (stepF l i s.size bad).1]⟩])⟩, ⟨(by rw [show (acc ++ [(stepF l i s.size bad).1]).length = acc.length + 1 from by simp]; repeat (first | exact .nil | refine .same ?_ | refine .top ?_)), (by rw [show (acc ++ [(stepF l i s.size bad).1]).map (actC false) = acc.map (actC false) ++ [actC false (stepF l i s.size bad).1] from List.map_append, show (acc ++ [(stepF l i s.size bad).1]).length = acc.length + 1 from by simp]; try rfl)⟩, f, (stepF l i s.size bad).2.1, (stepF l i s.size bad).2.2, (acc ++ [(stepF l i s.size bad).1]), _, hin.1.2, (by rw [List.length_append, List.length_singleton]; omega), (by intro hb; have := hin.2 hb; rw [List.length_append, List.length_singleton]; omega), rfl, (by rw [if_pos (by omega)] at hm; split <;> omega), hk, rfl⟩)
      ·
        simp only [decide_eq_false_iff_not] at a2
        refine tri_exit ?_
        show Tri _ _ _ _
        refine seq_in ?_
        refine seq_run okS2 rfl (by repeat (first | with_reducible exact runf_nil | refine runf_cons (by simp only [xstep, stepf, stepx, qev, St.ev, St.put, qload, cellsAt, qmk, C.cpy, TK.agg, qnil, qfieldAddr, qint, qshift, isShift, qbin, liveR, C.cp, constD, constC, Z1, Z2, Z5, Z6, Z9, Z10, Z13, Z24, Z16, Z18, Z17, Z20, Z19, Z21, Z8, Z4, Z11, if_true, if_false, and_self, decide_false, Z3, reduceCtorEq, Z7, Z14, Z26, tk80, tsz3, tk3, a2]; rfl) ?_)) ?_
        refine tri_cond rfl (fun a3 => ?_) (fun a3 => ?_)
        ·
          simp only [decide_eq_true_eq] at a3
          (exfalso; omega)
        ·
          simp only [decide_eq_false_iff_not] at a3
          refine then_skip ?_
          refine seq_run okS2 rfl (by repeat (first | with_reducible exact runf_nil | refine runf_cons (by simp only [xstep, stepf, stepx, qev, St.ev, St.put, constD, constC, Z1, Z2, Z5, Z6, Z4, decide_false, Z3, a3]; rfl) ?_)) ?_
          refine tri_ret (ends_ret (by simp only [outRes, resDs, resD, outDs, outD, outC, C.dat, Z1, Z2, Z4, if_true, and_self, Z3, ne_eq, not_false_eq_true, reduceCtorEq, List.length_map]; rfl) rfl (by simp) (by simp) ?_)
          (simp only [reduceIte, ↓reduceIte, eq_true a1, a2] at hk; exact hQ2 _ _ _ hk (by omega) (by omega))
    ·
      refine ⟨_, (by repeat (first | with_reducible exact runf_nil | refine runf_cons (by simp only [xstep, stepf, stepx, qev, St.ev, St.put, qload, cellsAt, qmk, C.cpy, TK.agg, qnil, qfieldAddr, qpick, qint, qshift, isEq, isShift, qbin, qlen, qbuiltin, liveR, C.cp, constD, constC, Z1, Z2, Z5, Z6, Z9, Z10, Z13, Z24, Z16, Z18, Z17, Z20, Z19, Z21, Z8, Option.bind_none, Z4, Z11, if_true, if_false, and_self, decide_false, cond_false, Z22, Z3, reduceCtorEq, Z7, Z14, Z26, tk80, tsz23, tsz3, tk3, eq_false a1]; rfl) ?_)), ?_⟩
      refine tri_cond (b := false) rfl (fun h => by cases h) (fun _ => ?_)
      refine tri_exit ?_
      show Tri _ _ _ _
      refine seq_in ?_
      refine seq_run okS2 rfl (by repeat (first | with_reducible exact runf_nil | refine runf_cons (by simp only [xstep, stepf, stepx, qev, St.ev, St.put, qload, cellsAt, qmk, C.cpy, TK.agg, qnil, qfieldAddr, qint, qshift, isShift, qbin, liveR, C.cp, constD, constC, Z1, Z2, Z5, Z6, Z9, Z10, Z13, Z24, Z16, Z18, Z17, Z20, Z19, Z21, Z8, Z4, Z11, if_true, if_false, and_self, Z3, reduceCtorEq, Z7, Z14, Z26, tk80, tsz3, tk3]; rfl) ?_)) ?_
      refine tri_cond rfl (fun a4 => ?_) (fun a4 => ?_)
      ·
        simp only [decide_eq_true_eq] at a4
        refine seq_anyE mixed okS2 rfl (by kernel_rfl) ?_
        refine ⟨_, (by repeat (first | with_reducible exact runf_nil | refine runf_cons (by simp only [xstep, stepf, stepx, qev, St.ev, St.put, qload, cellsAt, qmk, C.cpy, TK.agg, qnil, qfieldAddr, liveR, C.cp, constD, constC, Z1, Z2, Z5, Z6, Z9, Z10, Z13, Z24, Z16, Z18, Z17, Z20, Z19, Z21, Z8, Z4, if_true, if_false, and_self, decide_true, Z3, reduceCtorEq, Z7, Z14, Z26, tk80, tsz3, tk3, a4]; rfl) ?_)), ?_⟩
        refine tri_ret (ends_ret (by simp only [outRes, resDs, resD, outDs, outD, outC, C.dat, Z1, Z2, Z4, if_true, Z3]; rfl) rfl (by simp) (by simp) ?_)
        (simp only [reduceIte, ↓reduceIte, eq_false a1] at hk; exact hQ1 _ _ _ hk (by omega) (by omega))
      ·
        simp only [decide_eq_false_iff_not] at a4
        (exfalso; omega)
end Go.Dl

namespace Go.Dl
open Go.RowKit
open Go.Proofs
set_option linter.unusedSimpArgs false
set_option linter.unusedVariables false

theorem tick5 : scriptF ⟨#[116, 105, 99, 107, 32, 53, 59]⟩ = (some [{ act0 8 with n := 5 }], 0, 0) := by kernel_rfl
theorem tick0 : scriptF ⟨#[116, 105, 99, 107, 32, 45, 48, 59]⟩ = (none, 5, 4) := by kernel_rfl
theorem script_at (s : ByteArray) (hs : s.size ≤ 1000000) : pScript [.c (.v (.string s))] = some (.t [.c (actsC (scriptF s).1), .c (.v (.int .i64 (scriptF s).2.1)), .c (.v (.int .i64 (scriptF s).2.2))]) :=
  famP_at (by
    intro a b h
    simp only [List.cons.injEq, D.c.injEq, C.v.injEq, Value.string.injEq, and_true] at h
    subst h; rfl) s hs rfl
theorem acts_cp (l : List ActM) : ((l.map (actC false)).all fun row => row.all C.cp) = true := by
  rw [List.all_eq_true]
  intro row h
  obtain ⟨x, _, rfl⟩ := List.mem_map.1 h
  exact act_cp x
noncomputable def pScriptZ : List D → Option D := fun a => (pScript a).map D.frzT
theorem meets22Z : Meets Try.prog 22 (pureS pScriptZ) := meets_frzTP meets22
def actsZ (l : Option (List ActM)) : C := .s false (l.elim 0 fun _ => 12) (l.elim [] fun l => l.map (actC false))
theorem scriptZ_at (s : ByteArray) (hs : s.size ≤ 1000000) : pScriptZ [.c (.v (.string s))] = some (.t [.c (actsZ (scriptF s).1), .c (.v (.int .i64 (scriptF s).2.1)), .c (.v (.int .i64 (scriptF s).2.2))]) := by
  unfold pScriptZ
  rw [script_at s hs, Option.map_some]
  have hz : D.frz (.c (actsC (scriptF s).1)) = .c (actsZ (scriptF s).1) := by
    cases (scriptF s).1 with
    | none => rfl
    | some l =>
      exact if_pos (acts_cp l)
  show some (D.t [D.frz _, _, _]) = _
  rw [hz]; rfl
def FsN1 : Fs → Fs := fun f => f
noncomputable def FsW : Fs := { Fs.none with pure := fun k => if k = 22 then some pScriptZ else none }
theorem okW : FsOK Try.prog FsW := by
  refine ⟨fun k f h => ?_, fun _ _ h => (by cases h)⟩
  simp only [FsW] at h
  split at h
  · rename_i hk; subst hk; cases h; exact ⟨by kernel_rfl, meets22Z⟩
  · cases h
def pAwake : List D → Option D
  | [] => some (dB true)
  | _ => none
theorem meets13 : Meets Try.prog 13 (pureS pAwake) := by
  refine meets_of_tri (show Try.prog.funcs[13]? = some Try.f13 by kernel_rfl) rfl (n := 46) rfl (rs := [ResultVar.tmp 0]) rfl ?_
  rintro args objs Q ⟨rfl, d, hd, hQ⟩
  unfold pAwake at hd
  split at hd
  · cases hd
    have h5 := scriptZ_at ⟨#[116, 105, 99, 107, 32, 53, 59]⟩ (by decide)
    have h0 := scriptZ_at ⟨#[116, 105, 99, 107, 32, 45, 48, 59]⟩ (by decide)
    rw [tick5] at h5
    rw [tick0] at h0
    replace h5 : pScriptZ [.c (.v (.string ⟨#[116, 105, 99, 107, 32, 53, 59]⟩))] = some (.t [.c (.s false 12 [[.v (.int .i64 8), .v (.string ⟨#[]⟩), .v (.int .i64 0), .s false 0 [], .v (.string ⟨#[]⟩), .v (.string ⟨#[]⟩), .s false 0 [], .v (.string ⟨#[]⟩), .v (.int .i64 5), .v (.int .i64 0), .v (.int .u64 0), .v (.int .i64 0)]]), .c (.v (.int .i64 0)), .c (.v (.int .i64 0))]) := h5
    replace h0 : pScriptZ [.c (.v (.string ⟨#[116, 105, 99, 107, 32, 45, 48, 59]⟩))] = some (.t [.c (.s false 0 []), .c (.v (.int .i64 5)), .c (.v (.int .i64 4))]) := h0
    have hl1 : (1 : Nat) ≤ maxStr := by decide
    have hc1 : ((1 : Nat) : Int) = 1 := rfl
    have hc0 : ((0 : Nat) : Int) = 0 := rfl
    refine seq_run okW rfl (by repeat (first | with_reducible exact runf_nil | refine runf_cons (by simp only [xstep, stepf, stepx, qev, St.ev, St.put, constD, constC, List.set_cons_zero, List.replicate, List.length_nil, List.nil_append, List.map_nil, Option.map_some, Nat.reduceSub, Option.some.injEq]; rfl) ?_)) ?_
    refine seq_run okW rfl (by repeat (first | with_reducible exact runf_nil | refine runf_cons (by simp only [xstep, stepf, stepx, evsA, qev, St.ev, St.put, St.with, C.cpy, qext, C.cp, C.dat, constD, constC, List.getElem?_cons_zero, List.getElem?_cons_succ, List.set_cons_zero, List.set_cons_succ, List.append_nil, List.map_nil, List.all_cons, List.all_nil, Option.bind_some, Option.map_some, Bool.and_true, if_true, Option.some.injEq, Bool.and_self, Bool.or_false, callP, Fs.none, argDs, argD, argC, D.ni, D.ni1, C.ni, settle, settle1, settleC, settleDs, List.isEmpty_nil, FsW, h5]; rfl) ?_)) ?_
    refine seq_run okW rfl (by repeat (first | with_reducible exact runf_nil | refine runf_cons (by simp only [xstep, stepf, stepx, evsA, qev, St.ev, St.put, St.with, C.cpy, qext, C.cp, C.dat, constD, constC, List.getElem?_cons_zero, List.getElem?_cons_succ, List.set_cons_zero, List.set_cons_succ, List.append_nil, List.map_nil, List.all_cons, List.all_nil, Option.bind_some, Option.map_some, if_true, Option.some.injEq, Bool.and_self, Bool.or_true, callP, Fs.none, argDs, argD, argC, D.ni, D.ni1, C.ni, settle, settle1, settleC, settleDs, List.isEmpty_nil, FsW, h0]; rfl) ?_)) ?_
    refine seq_run okW rfl (by repeat (first | with_reducible exact runf_nil | refine runf_cons (by simp only [xstep, stepf, stepx, qev, St.ev, St.put, D.int, qload, cellsAt, qmk, C.cpy, TK.agg, qfieldAddr, qindexAddr, qpick, qint, qshift, isShift, qbin, qlen, qbuiltin, C.cp, constD, constC, List.getElem?_cons_zero, List.getElem?_cons_succ, List.set_cons_zero, List.set_cons_succ, List.length_cons, List.length_nil, List.map_nil, List.map_cons, List.all_cons, List.all_nil, List.take_succ_cons, List.take_zero, List.drop_succ_cons, List.drop_zero, Option.bind_some, Option.map_some, Option.map_none, if_true, if_false, and_self, decide_true, cond_true, List.getElem?_toArray, Option.some.injEq, ne_eq, not_false_eq_true, reduceCtorEq, Int.reduceLT, Int.reduceLE, Bool.false_eq_true, Nat.zero_add, Bool.and_self, hl1, hc1, tk50, tsz50, tk45, Int.toNat_zero, tsz3, tk3]; rfl) ?_)) ?_
    refine tri_ret (ends_ret (by simp only [outRes, resDs, resD, outD, outC, C.dat, List.getElem?_cons_zero, Option.map_some, if_true, Option.some.injEq]; rfl) rfl (by simp) (by simp) ?_)
    exact hQ
  · cases hd
end Go.Dl

namespace Go.Dl
open Go.RowKit
open Go.Proofs
set_option linter.unusedSimpArgs false
set_option linter.unusedVariables false

theorem meets29 : Meets Try.prog 29 (pureS (pU8 isLetter)) := by
  refine meets_of_tri (show Try.prog.funcs[29]? = some Try.f29 by kernel_rfl) rfl (n := 21) rfl (rs := [ResultVar.tmp 2]) rfl ?_
  rintro args objs Q ⟨rfl, d, hd, hQ⟩
  unfold pU8 at hd
  split at hd
  · rename_i c
    cases hd
    refine seq_run ok0 rfl (by repeat (first | with_reducible exact runf_nil | refine runf_cons (by simp only [xstep, stepf, stepx, qev, St.ev, St.put, constD, constC, Z5, Z6, List.replicate, Z9, Z10, Z23, Z12, Z13, Z4, Nat.reduceSub, Z3, Z14]; rfl) ?_)) ?_
    by_cases a0 : (97 ≤ c)
    ·
      by_cases a1 : (c ≤ 122)
      ·
        refine seq_run ok0 rfl (by repeat (first | with_reducible exact runf_nil | refine runf_cons (by simp only [xstep, stepf, stepx, qev, St.ev, St.put, qpick, qint, qshift, isEq, qeq, isShift, qbin, constD, constC, Z1, Z2, Z5, Z6, Z8, Z4, Z11, if_true, if_false, decide_true, cond_true, Z22, Z3, reduceCtorEq, Z7, eq_true a0, eq_true a1]; rfl) ?_)) ?_
        refine tri_ret (ends_ret (by simp only [outRes, resDs, resD, outD, outC, C.dat, Z1, Z2, Z4, if_true, Z3]; rfl) rfl (by simp) (by simp) ?_)
        (simp only [decide_true, Bool.and_true, Bool.true_or, isLetter, dB, eq_true a0, eq_true a1] at hQ; with_reducible exact hQ)
      ·
        refine seq_run ok0 rfl (by repeat (first | with_reducible exact runf_nil | refine runf_cons (by simp only [xstep, stepf, stepx, qev, St.ev, St.put, qpick, qint, qshift, isShift, qbin, constD, constC, Z1, Z2, Z5, Z6, Z8, Z4, Z11, if_true, if_false, decide_true, decide_false, cond_true, cond_false, Z22, Z3, Z7, eq_true a0, eq_false a1, show (65 ≤ c) = True from eq_true (by omega), show (c ≤ 90) = False from eq_false (by omega)]; rfl) ?_)) ?_
        refine tri_ret (ends_ret (by simp only [outRes, resDs, resD, outD, outC, C.dat, Z1, Z2, Z4, if_true, Z3]; rfl) rfl (by simp) (by simp) ?_)
        (simp only [isLetter, dB] at hQ; rw [show (decide (97 ≤ c) && decide (c ≤ 122) || decide (65 ≤ c) && decide (c ≤ 90) || decide (c = 95)) = decide (c = 95) from by rw [Bool.eq_iff_iff]; simp; omega] at hQ; exact hQ)
    ·
      by_cases a2 : (65 ≤ c)
      ·
        by_cases a3 : (c ≤ 90)
        ·
          refine seq_run ok0 rfl (by repeat (first | with_reducible exact runf_nil | refine runf_cons (by simp only [xstep, stepf, stepx, qev, St.ev, St.put, qpick, qint, qshift, isEq, qeq, isShift, qbin, constD, constC, Z1, Z2, Z5, Z6, Z8, Z4, Z11, if_true, if_false, decide_true, decide_false, cond_true, cond_false, Z22, Z3, reduceCtorEq, Z7, eq_false a0, eq_true a2, eq_true a3]; rfl) ?_)) ?_
          refine tri_ret (ends_ret (by simp only [outRes, resDs, resD, outD, outC, C.dat, Z1, Z2, Z4, if_true, Z3]; rfl) rfl (by simp) (by simp) ?_)
          (simp only [decide_true, decide_false, Bool.and_true, Bool.false_and, Bool.or_true, Bool.true_or, isLetter, dB, eq_false a0, eq_true a2, eq_true a3] at hQ; with_reducible exact hQ)
        ·
          refine seq_run ok0 rfl (by repeat (first | with_reducible exact runf_nil | refine runf_cons (by simp only [xstep, stepf, stepx, qev, St.ev, St.put, qpick, qint, qshift, isEq, isShift, qbin, constD, constC, Z1, Z2, Z5, Z6, Z8, Z4, Z11, if_true, if_false, decide_true, decide_false, cond_true, cond_false, Z22, Z3, Z7, eq_false a0, eq_true a2, eq_false a3]; rfl) ?_)) ?_
          refine tri_ret (ends_ret (by simp only [outRes, resDs, resD, outD, outC, C.dat, Z1, Z2, Z4, if_true, Z3]; rfl) rfl (by simp) (by simp) ?_)
          (simp only [decide_true, decide_false, Bool.false_and, Bool.and_false, Bool.false_or, Bool.or_false, isLetter, dB, eq_false a0, eq_true a2, eq_false a3] at hQ; with_reducible exact hQ)
      ·
        refine seq_run ok0 rfl (by repeat (first | with_reducible exact runf_nil | refine runf_cons (by simp only [xstep, stepf, stepx, qev, St.ev, St.put, qpick, qint, qshift, isEq, isShift, qbin, constD, constC, Z1, Z2, Z5, Z6, Z8, Z4, Z11, if_true, if_false, decide_false, cond_false, Z22, Z3, Z7, eq_false a0, eq_false a2]; rfl) ?_)) ?_
        refine tri_ret (ends_ret (by simp only [outRes, resDs, resD, outD, outC, C.dat, Z1, Z2, Z4, if_true, Z3]; rfl) rfl (by simp) (by simp) ?_)
        (simp only [decide_false, Bool.false_and, Bool.false_or, Bool.or_false, isLetter, dB, eq_false a0, eq_false a2] at hQ; with_reducible exact hQ)
  · cases hd
theorem meets30 : Meets Try.prog 30 (pureS (pU8 isDigit)) := by
  refine meets_of_tri (show Try.prog.funcs[30]? = some Try.f30 by kernel_rfl) rfl (n := 9) rfl (rs := [ResultVar.tmp 2]) rfl ?_
  rintro args objs Q ⟨rfl, d, hd, hQ⟩
  unfold pU8 at hd
  split at hd
  · rename_i c
    cases hd
    refine seq_run ok0 rfl (by repeat (first | with_reducible exact runf_nil | refine runf_cons (by simp only [xstep, stepf, stepx, qev, St.ev, St.put, constD, constC, Z5, Z6, List.replicate, Z9, Z10, Z23, Z12, Z13, Z4, Nat.reduceSub, Z3, Z14]; rfl) ?_)) ?_
    by_cases a0 : (48 ≤ c)
    ·
      refine seq_run ok0 rfl (by repeat (first | with_reducible exact runf_nil | refine runf_cons (by simp only [xstep, stepf, stepx, qev, St.ev, St.put, qpick, qint, qshift, isShift, qbin, constD, constC, Z1, Z2, Z5, Z6, Z8, Z4, Z11, if_true, if_false, decide_true, cond_true, Z22, Z3, Z7, eq_true a0]; rfl) ?_)) ?_
      refine tri_ret (ends_ret (by simp only [outRes, resDs, resD, outD, outC, C.dat, Z1, Z2, Z4, if_true, Z3]; rfl) rfl (by simp) (by simp) ?_)
      (simp only [decide_true, Bool.true_and, isDigit, dB, eq_true a0] at hQ; with_reducible exact hQ)
    ·
      refine seq_run ok0 rfl (by repeat (first | with_reducible exact runf_nil | refine runf_cons (by simp only [xstep, stepf, stepx, qev, St.ev, St.put, qpick, qint, qshift, isEq, isShift, qbin, constD, constC, Z1, Z2, Z5, Z6, Z8, Z4, Z11, if_true, if_false, decide_false, cond_false, Z22, Z3, Z7, eq_false a0]; rfl) ?_)) ?_
      refine tri_ret (ends_ret (by simp only [outRes, resDs, resD, outD, outC, C.dat, Z1, Z2, Z4, if_true, Z3]; rfl) rfl (by simp) (by simp) ?_)
      (simp only [decide_false, Bool.false_and, isDigit, dB, eq_false a0] at hQ; with_reducible exact hQ)
  · cases hd
def isPlainR (c : Int) : Bool := decide (32 ≤ c) && decide (c ≤ 126) && !decide (c = 34) && !decide (c = 92)
theorem plainR_eq (c : Int) : isPlainR c = isPlain c := by
  unfold isPlainR isPlain
  rw [show decide (c ≤ 126) = decide (c < 127) from by rw [decide_eq_decide]; omega]
theorem meets36 : Meets Try.prog 36 (pureS (pU8 isPlainR)) := by
  refine meets_of_tri (show Try.prog.funcs[36]? = some Try.f36 by kernel_rfl) rfl (n := 17) rfl (rs := [ResultVar.tmp 2]) rfl ?_
  rintro args objs Q ⟨rfl, d, hd, hQ⟩
  unfold pU8 at hd
  split at hd
  · rename_i c
    cases hd
    refine seq_run ok0 rfl (by repeat (first | with_reducible exact runf_nil | refine runf_cons (by simp only [xstep, stepf, stepx, qev, St.ev, St.put, constD, constC, Z5, Z6, List.replicate, Z9, Z10, Z23, Z12, Z13, Z4, Nat.reduceSub, Z3, Z14]; rfl) ?_)) ?_
    by_cases a0 : (32 ≤ c)
    ·
      by_cases a1 : (c ≤ 126)
      ·
        by_cases a2 : (c = 34)
        ·
          refine seq_run ok0 rfl (by repeat (first | with_reducible exact runf_nil | refine runf_cons (by simp only [xstep, stepf, stepx, qev, St.ev, St.put, qpick, qint, qshift, isEq, qeq, isShift, qbin, constD, constC, Z1, Z2, Z5, Z6, Z8, Z4, Z11, if_true, if_false, decide_true, Bool.not_true, cond_true, cond_false, Z22, Z3, Z7, eq_true a0, eq_true a1, eq_true a2]; rfl) ?_)) ?_
          refine tri_ret (ends_ret (by simp only [outRes, resDs, resD, outD, outC, C.dat, Z1, Z2, Z4, if_true, Z3]; rfl) rfl (by simp) (by simp) ?_)
          (simp only [decide_true, Bool.and_true, Bool.false_and, Bool.and_false, Bool.not_true, isPlainR, dB, eq_true a0, eq_true a1, eq_true a2] at hQ; with_reducible exact hQ)
        ·
          refine seq_run ok0 rfl (by repeat (first | with_reducible exact runf_nil | refine runf_cons (by simp only [xstep, stepf, stepx, qev, St.ev, St.put, qpick, qint, qshift, isShift, qbin, constD, constC, Z1, Z2, Z5, Z6, Z8, Z4, Z11, if_true, if_false, decide_true, decide_false, Bool.not_false, cond_true, Z22, Z3, Z7, eq_true a0, eq_true a1, eq_false a2]; rfl) ?_)) ?_
          refine tri_ret (ends_ret (by simp only [outRes, resDs, resD, outD, outC, C.dat, Z1, Z2, Z4, if_true, Z3]; rfl) rfl (by simp) (by simp) ?_)
          (simp only [decide_true, decide_false, Bool.and_true, Bool.true_and, Bool.not_false, isPlainR, dB, eq_true a0, eq_true a1, eq_false a2] at hQ; with_reducible exact hQ)
      ·
        refine seq_run ok0 rfl (by repeat (first | with_reducible exact runf_nil | refine runf_cons (by simp only [xstep, stepf, stepx, qev, St.ev, St.put, qpick, qint, qshift, isEq, qeq, isShift, qbin, constD, constC, Z1, Z2, Z5, Z6, Z8, Z4, Z11, if_true, if_false, decide_true, decide_false, cond_true, cond_false, Z22, Z3, Z7, eq_true a0, eq_false a1]; rfl) ?_)) ?_
        refine tri_ret (ends_ret (by simp only [outRes, resDs, resD, outD, outC, C.dat, Z1, Z2, Z4, if_true, Z3]; rfl) rfl (by simp) (by simp) ?_)
        (simp only [decide_true, decide_false, Bool.false_and, Bool.and_false, isPlainR, dB, eq_true a0, eq_false a1] at hQ; with_reducible exact hQ)
    ·
      refine seq_run ok0 rfl (by repeat (first | with_reducible exact runf_nil | refine runf_cons (by simp only [xstep, stepf, stepx, qev, St.ev, St.put, qpick, qint, qshift, isEq, qeq, isShift, qbin, constD, constC, Z1, Z2, Z5, Z6, Z8, Z4, Z11, if_true, if_false, decide_false, cond_false, Z22, Z3, Z7, eq_false a0]; rfl) ?_)) ?_
      refine tri_ret (ends_ret (by simp only [outRes, resDs, resD, outD, outC, C.dat, Z1, Z2, Z4, if_true, Z3]; rfl) rfl (by simp) (by simp) ?_)
      (simp only [decide_false, Bool.false_and, isPlainR, dB, eq_false a0] at hQ; with_reducible exact hQ)
  · cases hd
noncomputable def FsT1 : Fs := { Fs.none with pure := fun k => if k = 30 then some (pU8 isDigit) else none }
theorem okT1 : FsOK Try.prog FsT1 := by
  refine ⟨fun k f h => ?_, fun _ _ h => (by cases h)⟩
  simp only [FsT1] at h
  split at h
  · rename_i hk; subst hk; cases h; exact ⟨by kernel_rfl, meets30⟩
  · cases h
/-- A sign's worth, for the reference. -/
def nibR (c : Int) : Int := if isDigit c = true then c - 48 else if 97 ≤ c then (if c ≤ 102 then c - 87 else -1) else -1
noncomputable def pNibR : List D → Option D := famP (fun x : UInt8 => True) (fun x => [.c (.v (.int .u8 x.toNat))]) (fun x => dI (nibR x.toNat))
theorem meets59 : Meets Try.prog 59 (pureS pNibR) := by
  refine meets_famP (show Try.prog.funcs[59]? = some Try.f59 by kernel_rfl) rfl (n := 17) rfl (rs := [ResultVar.tmp 2]) rfl ?_
  intro x _ Q hQ
  have hx := x.toNat_lt
  generalize hc : ((x.toNat : Nat) : Int) = c at hQ ⊢
  have h0 : 0 ≤ c := by omega
  have h1 : c ≤ 255 := by omega
  have hd : isDigit c = true → 48 ≤ c ∧ c ≤ 57 := by simp [isDigit]
  by_cases hdg : isDigit c = true
  · obtain ⟨d1, d2⟩ := hd hdg
    refine seq_run okT1 rfl (by repeat (first | with_reducible exact runf_nil | refine runf_cons (by simp only [xstep, stepf, stepx, qev, St.ev, St.put, constD, constC, Z5, Z6, List.replicate, Z9, Z10, Z23, Z12, Z4, Nat.reduceSub, Z3, Z14]; rfl) ?_)) ?_
    refine seq_in ?_
    refine seq_run okT1 rfl (by repeat (first | with_reducible exact runf_nil | refine runf_cons (by simp only [xstep, stepf, stepx, evsA, qev, St.ev, St.put, St.with, C.cpy, C.cp, C.dat, Z1, Z2, Z5, Z6, Z15, Z13, Z4, if_true, Z3, Z26, Bool.or_true, callP, Fs.none, argDs, argD, argC, D.ni, D.ni1, C.ni, settle, settle1, settleC, Z25, FsT1, digit_at, hdg]; rfl) ?_)) ?_
    refine tri_cond (b := true) rfl (fun _ => ?_) (fun h => by cases h)
    refine seq_run okT1 rfl (by repeat (first | with_reducible exact runf_nil | refine runf_cons (by simp only [xstep, stepf, stepx, qev, St.ev, St.put, qint, qshift, isShift, qbin, qconv, constD, constC, Z1, Z2, Z5, Z6, Z8, Z4, Z11, if_true, if_false, Z3, Z7, tk3, tk5, show IntKind.i64.wrap c = _ from wrap_i64 _ (by omega) (by omega), show IntKind.i64.wrap (c - 48) = _ from wrap_i64 _ (by omega) (by omega)]; rfl) ?_)) ?_
    refine tri_ret (ends_ret (by simp only [outRes, resDs, resD, outD, outC, C.dat, Z1, Z2, Z4, if_true, Z3]; rfl) rfl (by simp) (by simp) ?_)
    (simp only [reduceIte, ↓reduceIte, nibR, dI, hdg] at hQ; with_reducible exact hQ)
  · have hdf : isDigit c = false := by simpa using hdg
    refine seq_run okT1 rfl (by repeat (first | with_reducible exact runf_nil | refine runf_cons (by simp only [xstep, stepf, stepx, qev, St.ev, St.put, constD, constC, Z5, Z6, List.replicate, Z9, Z10, Z23, Z12, Z4, Nat.reduceSub, Z3, Z14]; rfl) ?_)) ?_
    refine seq_in ?_
    refine seq_run okT1 rfl (by repeat (first | with_reducible exact runf_nil | refine runf_cons (by simp only [xstep, stepf, stepx, evsA, qev, St.ev, St.put, St.with, C.cpy, C.cp, C.dat, Z1, Z2, Z5, Z6, Z15, Z13, Z4, if_true, Z3, Z26, Bool.or_true, callP, Fs.none, argDs, argD, argC, D.ni, D.ni1, C.ni, settle, settle1, settleC, Z25, FsT1, digit_at, hdf]; rfl) ?_)) ?_
    refine tri_cond (b := false) rfl (fun h => by cases h) (fun _ => ?_)
    refine then_skip ?_
    refine seq_in ?_
    by_cases a0 : (97 ≤ c)
    ·
      refine seq_run okT1 rfl (by repeat (first | with_reducible exact runf_nil | refine runf_cons (by simp only [xstep, stepf, stepx, qev, St.ev, St.put, qpick, qint, qshift, isShift, qbin, constD, constC, Z1, Z2, Z5, Z6, Z8, Z4, Z11, if_true, if_false, decide_true, cond_true, Z22, Z3, Z7, eq_true a0]; rfl) ?_)) ?_
      refine tri_cond rfl (fun a1 => ?_) (fun a1 => ?_)
      ·
        simp only [decide_eq_true_eq] at a1
        refine seq_run okT1 rfl (by repeat (first | with_reducible exact runf_nil | refine runf_cons (by simp only [xstep, stepf, stepx, qev, St.ev, St.put, qint, qshift, isShift, qbin, qconv, constD, constC, Z1, Z2, Z5, Z6, Z8, Z4, Z11, if_true, if_false, decide_true, Z3, Z7, a1, tk3, tk5, show IntKind.i64.wrap c = _ from wrap_i64 _ (by omega) (by omega), show IntKind.i64.wrap (c - 87) = _ from wrap_i64 _ (by omega) (by omega)]; rfl) ?_)) ?_
        refine tri_ret (ends_ret (by simp only [outRes, resDs, resD, outD, outC, C.dat, Z1, Z2, Z4, if_true, Z3]; rfl) rfl (by simp) (by simp) ?_)
        (simp only [reduceIte, Z7, ↓reduceIte, nibR, dI, hdf, eq_true a0, a1] at hQ; with_reducible exact hQ)
      ·
        simp only [decide_eq_false_iff_not] at a1
        refine then_skip ?_
        refine seq_run okT1 rfl (by repeat (first | with_reducible exact runf_nil | refine runf_cons (by simp only [xstep, stepf, stepx, qev, St.ev, St.put, constD, constC, Z5, Z6, Z4, decide_false, Z3, a1]; rfl) ?_)) ?_
        refine tri_ret (ends_ret (by simp only [outRes, resDs, resD, outD, outC, C.dat, Z1, Z2, Z4, if_true, Z3]; rfl) rfl (by simp) (by simp) ?_)
        (simp only [reduceIte, Z7, ↓reduceIte, Int.reduceNeg, nibR, dI, hdf, eq_true a0, a1] at hQ; with_reducible exact hQ)
    ·
      refine seq_run okT1 rfl (by repeat (first | with_reducible exact runf_nil | refine runf_cons (by simp only [xstep, stepf, stepx, qev, St.ev, St.put, qpick, qint, qshift, isEq, isShift, qbin, constD, constC, Z1, Z2, Z5, Z6, Z8, Z4, Z11, if_true, if_false, decide_false, cond_false, Z22, Z3, Z7, eq_false a0]; rfl) ?_)) ?_
      refine tri_cond (b := false) rfl (fun h => by cases h) (fun _ => ?_)
      refine then_skip ?_
      refine seq_run okT1 rfl (by repeat (first | with_reducible exact runf_nil | refine runf_cons (by simp only [xstep, stepf, stepx, qev, St.ev, St.put, constD, constC, Z5, Z6, Z4, Z3]; rfl) ?_)) ?_
      refine tri_ret (ends_ret (by simp only [outRes, resDs, resD, outD, outC, C.dat, Z1, Z2, Z4, if_true, Z3]; rfl) rfl (by simp) (by simp) ?_)
      (simp only [reduceIte, Z7, ↓reduceIte, Int.reduceNeg, nibR, dI, hdf, eq_false a0] at hQ; with_reducible exact hQ)
theorem nibR_at (x : UInt8) : pNibR [.c (.v (.int .u8 x.toNat))] = some (dI (nibR x.toNat)) :=
  famP_at (fun a b h => by
    simp only [List.cons.injEq, D.c.injEq, C.v.injEq, Value.int.injEq, and_true, true_and] at h
    rw [show ((a.toNat : Nat) : Int) = b.toNat from h]) x trivial rfl

def pCut : List D → Option D
  | [.c (.v (.string s))] => if s.size ≤ maxStr then some (.c (.v (.string (if 500 < (s.size : Int) then s.extract 0 500 else s)))) else none
  | _ => none
theorem meets10 : Meets Try.prog 10 (pureS pCut) := by
  refine meets_of_tri (show Try.prog.funcs[10]? = some Try.f10 by kernel_rfl) rfl (n := 9) rfl (rs := [ResultVar.tmp 2]) rfl ?_
  rintro args objs Q ⟨rfl, d, hd, hQ⟩
  unfold pCut at hd
  split at hd
  · rename_i s
    split at hd
    · rename_i hs
      cases hd
      refine seq_run ok0 rfl (by repeat (first | with_reducible exact runf_nil | refine runf_cons (by simp only [xstep, stepf, stepx, qev, St.ev, St.put, constD, constC, Z5, Z6, List.replicate, Z9, Z10, Z23, Z12, Z13, Z4, Nat.reduceSub, Z3, Z14]; rfl) ?_)) ?_
      refine seq_in ?_
      refine seq_run ok0 rfl (by repeat (first | with_reducible exact runf_nil | refine runf_cons (by simp only [xstep, stepf, stepx, qev, St.ev, St.put, qint, qshift, isShift, qbin, qlen, qbuiltin, constD, constC, Z1, Z2, Z5, Z6, Z8, Z4, Z11, if_true, if_false, Z3, Z7, tk9]; rfl) ?_)) ?_
      refine tri_cond rfl (fun a0 => ?_) (fun a0 => ?_)
      ·
        simp only [decide_eq_true_eq] at a0
        refine seq_run ok0 rfl (by repeat (first | with_reducible exact runf_nil | refine runf_cons (by simp only [xstep, stepf, stepx, qev, St.ev, St.put, D.int, qbounds, qslice, omap, constD, constC, Z1, Z2, Z5, Z6, Z8, Z4, if_true, and_self, decide_true, Z3, Int.reduceLE, Int.reduceToNat, tk9, a0, show (500 ≤ (↑s.size : Int)) = True from eq_true (by omega)]; rfl) ?_)) ?_
        refine tri_ret (ends_ret (by simp only [outRes, resDs, resD, outD, outC, C.dat, Z1, Z2, Z4, if_true, Z3]; rfl) rfl (by simp) (by simp) ?_)
        (simp only [reduceIte, ↓reduceIte, a0] at hQ; with_reducible exact hQ)
      ·
        simp only [decide_eq_false_iff_not] at a0
        refine then_skip ?_
        refine seq_run ok0 rfl (by repeat (first | with_reducible exact runf_nil | refine runf_cons (by simp only [xstep, stepf, stepx, qev, St.ev, St.put, Z1, Z2, Z5, Z6, Z4, decide_false, Z3, a0]; rfl) ?_)) ?_
        refine tri_ret (ends_ret (by simp only [outRes, resDs, resD, outD, outC, C.dat, Z1, Z2, Z4, if_true, Z3]; rfl) rfl (by simp) (by simp) ?_)
        (simp only [reduceIte, ↓reduceIte, a0] at hQ; with_reducible exact hQ)
    · cases hd
  · cases hd

theorem runN_fuel (f : Int → Bool) : ∀ (n m : Nat) (s : ByteArray) (p : Nat), s.size - p < n → s.size - p < m → runN f n s p = runN f m s p
  | 0, m, s, p, h, _ => by omega
  | n + 1, 0, s, p, _, h => by omega
  | n + 1, m + 1, s, p, hn, hm => by
    simp only [runN]
    split
    · rename_i h
      exact runN_fuel f n m s (p + 1) (by omega) (by omega)
    · rfl
theorem runF_go {f : Int → Bool} {s : ByteArray} {p : Nat} (h : p < s.size) (hf : f (byt s p) = true) : runF f s p = runF f s (p + 1) := by
  unfold runF
  rw [show runN f (s.size + 1) s p = runN f s.size s (p + 1) from by simp only [runN]; rw [if_pos ⟨h, hf⟩]]
  exact runN_fuel f _ _ s (p + 1) (by omega) (by omega)
theorem runF_stop {f : Int → Bool} {s : ByteArray} {p : Nat} (h : p < s.size → f (byt s p) = false) : runF f s p = p := by
  unfold runF
  simp only [runN]
  rw [if_neg]
  rintro ⟨h1, h2⟩
  rw [h h1] at h2; cases h2

/-- A quote's text, for the reference, and where it ends; below 0: it is none. -/
def quoteR : Nat → ByteArray → Nat → ByteArray → ByteArray × Int
  | 0, _, _, _ => (noText, -1)
  | n + 1, s, i, acc => if (i : Int) < (s.size : Int) then
      (if ((byU s i).toNat : Int) = 34 then (acc, ((i + 1 : Nat) : Int))
      else if isPlainR (byU s i).toNat = true then quoteR n s (i + 1) (acc ++ s.extract i (i + 1))
      else if ((byU s i).toNat : Int) = 92 then
        (if (s.size : Int) ≤ ((i + 3 : Nat) : Int) then (noText, -1)
        else if ((byU s (i + 1)).toNat : Int) = 120 then
          (if nibR (byU s (i + 2)).toNat < 0 then (noText, -1)
          else if nibR (byU s (i + 3)).toNat < 0 then (noText, -1)
          else if isPlainR (16 * nibR (byU s (i + 2)).toNat + nibR (byU s (i + 3)).toNat) = true then (noText, -1)
          else quoteR n s (i + 4) (acc ++ ⟨#[UInt8.ofNat (16 * nibR (byU s (i + 2)).toNat + nibR (byU s (i + 3)).toNat).toNat]⟩))
        else (noText, -1))
      else (noText, -1))
    else (noText, -1)
def quoteRF (s : ByteArray) (p : Nat) : ByteArray × Int := quoteR (s.size + 1) s (p + 1) noText
theorem nibR_in (x : UInt8) : -1 ≤ nibR x.toNat ∧ nibR x.toNat ≤ 15 := by
  have hx := x.toNat_lt
  unfold nibR
  split
  · rename_i h
    simp [isDigit] at h
    omega
  · split
    · split <;> omega
    · omega
theorem plainR_at (c : Int) : pU8 isPlainR [.c (.v (.int .u8 c))] = some (dB (isPlainR c)) := rfl
noncomputable def FsT2 : Fs := { Fs.none with pure := fun k => if k = 36 then some (pU8 isPlainR) else if k = 59 then some pNibR else none }
theorem okT2 : FsOK Try.prog FsT2 := by
  refine ⟨fun k f h => ?_, fun _ _ h => (by cases h)⟩
  simp only [FsT2] at h
  split at h
  · rename_i hk; subst hk; cases h; exact ⟨by kernel_rfl, meets36⟩
  split at h
  · rename_i hk; subst hk; cases h; exact ⟨by kernel_rfl, meets59⟩
  · cases h
noncomputable def pQuoteR : List D → Option D := famP (fun x : ByteArray × Nat => x.1.size ≤ 1000000 ∧ x.2 < x.1.size) (fun x => [.c (.v (.string x.1)), .c (.v (.int .i64 x.2))]) (fun x => .t [.c (.v (.string (quoteRF x.1 x.2).1)), .c (.v (.int .i64 (quoteRF x.1 x.2).2))])
set_option maxHeartbeats 2000000 in
theorem meets31 : Meets Try.prog 31 (pureS pQuoteR) := by
  refine meets_famP (show Try.prog.funcs[31]? = some Try.f31 by kernel_rfl) rfl (n := 91) rfl (rs := [ResultVar.tmp 4, ResultVar.tmp 5]) rfl ?_
  rintro ⟨s, p⟩ ⟨hs, hp⟩ Q hQ
  dsimp only at hs hp hQ
  have hsm : s.size ≤ maxStr := by unfold maxStr; omega
  have hq0 : (p : Int) + 1 = ((p + 1 : Nat) : Int) := by omega
  obtain ⟨res, hres⟩ : ∃ res, quoteR (s.size + 1) s (p + 1) noText = res := ⟨_, rfl⟩
  unfold quoteRF at hQ
  rw [hres] at hQ
  have hQ2 : ∀ a b, (a, b) = res → Q (.t [.c (.v (.string a)), .c (.v (.int .i64 b))]) [] := by
    intro a b h; subst h; exact hQ
  clear hQ
  refine seq_run okT2 rfl (by repeat (first | with_reducible exact runf_nil | refine runf_cons (by simp only [xstep, stepf, stepx, qev, St.ev, St.put, constD, constC, Z5, Z6, List.replicate, Z9, Z10, Z23, Z12, Z4, Nat.reduceAdd, Nat.reduceSub, Z3, Z14]; rfl) ?_)) ?_
  refine seq_run okT2 rfl (by repeat (first | with_reducible exact runf_nil | refine runf_cons (by simp only [xstep, stepf, stepx, qev, St.ev, St.put, constD, constC, Z5, Z6, Z4, Z3]; rfl) ?_)) ?_
  refine seq_run okT2 rfl (by repeat (first | with_reducible exact runf_nil | refine runf_cons (by simp only [xstep, stepf, stepx, qev, St.ev, St.put, qint, qshift, isShift, qbin, constD, constC, Z1, Z2, Z5, Z6, Z4, Z11, if_true, if_false, Z3, Z7, hq0, show IntKind.i64.wrap (↑(p + 1) : Int) = _ from wrap_i64 _ (by omega) (by omega)]; rfl) ?_)) ?_
  refine seq_in (tri_block ?_)
  refine tri_loop_le (fun m A => ∃ (f i : Nat) (acc : ByteArray) (T : List (Option Root)), i ≤ s.size ∧ acc.size ≤ i ∧ m = s.size - i ∧ m < f ∧ quoteR f s i acc = res ∧ A = ⟨[.c (.v (.string s)), .c (.v (.int .i64 p)), .top, .top, .c (.v (.string ⟨#[]⟩)), .c (.v (.int .i64 0)), .c (.v (.string acc)), .c (.v (.int .i64 i)), .top, .top, .top, .top, .top, .top, .top, .top, .top, .top, .top, .top, .top, .top, .top, .top, .top, .top, .top, .top, .top, .top, .top, .top, .top, .top, .top, .top, .top, .top, .top, .top, .top, .top, .top, .top, .top, .top, .top, .top, .top, .top, .top, .top, .top, .top, .top, .top, .top, .top, .top, .top, .top, .top, .top, .top, .top, .top, .top, .top, .top, .top, .top, .top, .top, .top, .top, .top, .top, .top, .top, .top, .top, .top, .top, .top, .top, .top, .top, .top, .top, .top, .top], T⟩) (s.size - (p + 1)) (B := ⟨[.c (.v (.string s)), .c (.v (.int .i64 p)), .top, .top, .c (.v (.string ⟨#[]⟩)), .c (.v (.int .i64 0)), .c (.v (.string ⟨#[]⟩)), .c (.v (.int .i64 (p + 1 : Nat))), .top, .top, .top, .top, .top, .top, .top, .top, .top, .top, .top, .top, .top, .top, .top, .top, .top, .top, .top, .top, .top, .top, .top, .top, .top, .top, .top, .top, .top, .top, .top, .top, .top, .top, .top, .top, .top, .top, .top, .top, .top, .top, .top, .top, .top, .top, .top, .top, .top, .top, .top, .top, .top, .top, .top, .top, .top, .top, .top, .top, .top, .top, .top, .top, .top, .top, .top, .top, .top, .top, .top, .top, .top, .top, .top, .top, .top, .top, .top, .top, .top, .top, .top], []⟩) ⟨by repeat (first | exact .nil | refine .same ?_ | refine .top ?_), rfl⟩ ⟨s.size + 1, p + 1, ⟨#[]⟩, [], hp, Nat.zero_le _, rfl, by omega, hres, rfl⟩ ?_
  rintro m A ⟨f, i, acc, T, hi, hacc, hm, hf, hk, rfl⟩
  obtain ⟨f, rfl⟩ : ∃ f2, f = f2 + 1 := ⟨f - 1, by omega⟩
  have hb : ∀ j, s.data.toList.getD j 0 = byU s j := fun _ => rfl
  have hq1 : (i : Int) + 1 = ((i + 1 : Nat) : Int) := by omega
  have hq2 : (i : Int) + 2 = ((i + 2 : Nat) : Int) := by omega
  have hq3 : (i : Int) + 3 = ((i + 3 : Nat) : Int) := by omega
  have hq4 : (i : Int) + 4 = ((i + 4 : Nat) : Int) := by omega
  have hn2 := nibR_in (byU s (i + 2))
  have hn3 := nibR_in (byU s (i + 3))
  have hA1 : acc.size + 1 ≤ maxStr := (by unfold maxStr; omega)
  have hA2 : acc.size + (s.extract i (i + 1)).size ≤ maxStr := (by rw [ByteArray.size_extract]; omega)
  have hA3 : acc.size + ({ data := #[UInt8.ofNat (16 * nibR (byU s (i + 2)).toNat + nibR (byU s (i + 3)).toNat).toNat] } : ByteArray).size ≤ maxStr := hA1
  refine seq_in ?_
  refine seq_run okT2 rfl (by repeat (first | with_reducible exact runf_nil | refine runf_cons (by simp only [xstep, stepf, stepx, qev, St.ev, St.put, qint, qshift, isShift, qbin, qlen, qbuiltin, Z1, Z2, Z5, Z6, Z8, Z4, Z11, if_true, if_false, Z3, Z7, tk9]; rfl) ?_)) ?_
  refine tri_cond rfl (fun a0 => ?_) (fun a0 => ?_)
  ·
    simp only [decide_eq_true_eq] at a0
    refine then_skip ?_
    refine tri_block ?_
    refine seq_in ?_
    refine seq_run okT2 rfl (by repeat (first | with_reducible exact runf_nil | refine runf_cons (by simp only [xstep, stepf, stepx, qev, St.ev, St.put, D.int, qindex, qint, qshift, isShift, qbin, constD, constC, Z1, Z2, Z5, Z6, Z8, Z4, Z11, if_true, if_false, and_self, decide_true, Z3, Z7, Int.toNat_natCast, Int.natCast_nonneg, hb, tk9, a0]; rfl) ?_)) ?_
    refine tri_cond rfl (fun a1 => ?_) (fun a1 => ?_)
    ·
      simp only [decide_eq_true_eq] at a1
      refine seq_run okT2 rfl (by repeat (first | with_reducible exact runf_nil | refine runf_cons (by simp only [xstep, stepf, stepx, qev, St.ev, St.put, qint, qshift, isShift, qbin, constD, constC, Z1, Z2, Z5, Z6, Z4, Z11, if_true, if_false, decide_true, Z3, Z7, hq1, a1, show IntKind.i64.wrap (↑(i + 1) : Int) = _ from wrap_i64 _ (by omega) (by omega)]; rfl) ?_)) ?_
      refine tri_ret (ends_ret (by simp only [outRes, resDs, resD, outDs, outD, outC, C.dat, Z1, Z2, Z4, if_true, Z3]; rfl) rfl (by simp) (by simp) ?_)
      (simp only [quoteR, reduceIte, ↓reduceIte, a0, a1] at hk; exact hQ2 _ _ hk)
    ·
      simp only [decide_eq_false_iff_not] at a1
      refine then_skip ?_
      refine seq_in ?_
      refine seq_run okT2 rfl (by repeat (first | with_reducible exact runf_nil | refine runf_cons (by simp only [xstep, stepf, stepx, evsA, qev, St.ev, St.put, St.with, D.int, C.cpy, qindex, C.cp, C.dat, Z1, Z2, Z5, Z6, Z15, Z13, Z8, Z4, Nat.reduceEqDiff, if_true, if_false, and_self, decide_false, Z3, Z26, Bool.or_true, callP, Fs.none, argDs, argD, argC, D.ni, D.ni1, C.ni, settle, settle1, settleC, Z25, dB, Int.toNat_natCast, Int.natCast_nonneg, FsT2, hb, plainR_at, tk9, a0, a1]; rfl) ?_)) ?_
      refine tri_cond rfl (fun a2 => ?_) (fun a2 => ?_)
      ·
        refine seq_run okT2 rfl (by repeat (first | with_reducible exact runf_nil | refine runf_cons (by simp only [xstep, stepf, stepx, qev, St.ev, St.put, D.int, qint, qshift, qstr, isShift, qbin, qbounds, qslice, omap, constD, constC, Z1, Z2, Z5, Z6, Z8, Z4, Z11, if_true, if_false, and_self, Z3, Z7, Int.toNat_natCast, Int.natCast_nonneg, hA2, hq1, tk9, a2, show IntKind.i64.wrap (↑(i + 1) : Int) = _ from wrap_i64 _ (by omega) (by omega), show ((↑(i + 1) : Int) ≤ (↑s.size : Int)) = True from eq_true (by omega), show ((↑i : Int) ≤ (↑(i + 1) : Int)) = True from eq_true (by omega)]; rfl) ?_)) ?_
        refine seq_run okT2 rfl (by repeat (first | with_reducible exact runf_nil | refine runf_cons (by simp only [xstep, stepf, stepx, qev, St.ev, St.put, qint, qshift, isShift, qbin, constD, constC, Z1, Z2, Z5, Z6, Z4, Z11, if_true, if_false, Z3, Z7, hq1, show IntKind.i64.wrap (↑(i + 1) : Int) = _ from wrap_i64 _ (by omega) (by omega)]; rfl) ?_)) ?_
        refine tri_exit ?_
        simp only []
        (simp only [quoteR, reduceIte, ↓reduceIte, a0, a1, a2] at hk; exact ⟨s.size - (i + 1), by omega, ⟨[.c (.v (.string s)), .c (.v (.int .i64 p)), .top, .top, .c (.v (.string ⟨#[]⟩)), .c (.v (.int .i64 0)), .c (.v (.string (acc ++ s.extract i (i + 1)))), .c (.v (.int .i64 (i + 1 : Nat))), .top, .top, .top, .top, .top, .top, .top, .top, .top, .top, .top, .top, .top, .top, .top, .top, .top, .top, .top, .top, .top, .top, .top, .top, .top, .top, .top, .top, .top, .top, .top, .top, .top, .top, .top, .top, .top, .top, .top, .top, .top, .top, .top, .top, .top, .top, .top, .top, .top, .top, .top, .top, .top, .top, .top, .top, .top, .top, .top, .top, .top, .top, .top, .top, .top, .top, .top, .top, .top, .top, .top, .top, .top, .top, .top, .top, .top, .top, .top, .top, .top, .top, .top], _⟩, ⟨by repeat (first | exact .nil | refine .same ?_ | refine .top ?_), rfl⟩, f, i + 1, acc ++ s.extract i (i + 1), _, by omega, (by rw [ByteArray.size_append, ByteArray.size_extract]; omega), rfl, by omega, hk, rfl⟩)
      ·
        refine then_skip ?_
        refine seq_in ?_
        by_cases a3 : ((↑(byU s i).toNat : Int) = 92)
        ·
          by_cases a4 : ((↑s.size : Int) ≤ (↑(i + 3) : Int))
          ·
            refine seq_run okT2 rfl (by repeat (first | with_reducible exact runf_nil | refine runf_cons (by simp only [xstep, stepf, stepx, evsA, qev, St.ev, St.put, D.int, qindex, qpick, qint, qshift, isEq, qeq, isShift, qbin, qlen, qbuiltin, constD, constC, Z1, Z2, Z5, Z6, Z15, Z13, Z8, Z4, Z11, Nat.reduceEqDiff, if_true, if_false, and_self, decide_true, Bool.not_true, cond_true, cond_false, Z22, Z3, reduceCtorEq, Z7, callP, callO, Fs.none, argDs, argD, Int.toNat_natCast, Int.natCast_nonneg, FsT2, hb, hq3, tk9, a0, a2, eq_true a3, show IntKind.i64.wrap (↑(i + 3) : Int) = _ from wrap_i64 _ (by omega) (by omega), eq_true a4]; rfl) ?_)) ?_
            refine tri_cond (b := true) rfl (fun _ => ?_) (fun h => by cases h)
            refine seq_run okT2 rfl (by repeat (first | with_reducible exact runf_nil | refine runf_cons (by simp only [xstep, stepf, stepx, qev, St.ev, St.put, constD, constC, Z5, Z6, Z4, Z3]; rfl) ?_)) ?_
            refine tri_ret (ends_ret (by simp only [outRes, resDs, resD, outDs, outD, outC, C.dat, Z1, Z2, Z4, if_true, Z3]; rfl) rfl (by simp) (by simp) ?_)
            (simp only [quoteR, noText, reduceIte, Z7, ↓reduceIte, Int.reduceNeg, noText, a0, a1, a2, eq_true a3, eq_true a4] at hk; exact hQ2 _ _ hk)
          ·
            by_cases a5 : ((↑(byU s (i + 1)).toNat : Int) = 120)
            ·
              by_cases a6 : (nibR (↑(byU s (i + 2)).toNat : Int) < 0)
              ·
                refine seq_run okT2 rfl (by repeat (first | with_reducible exact runf_nil | refine runf_cons (by simp only [xstep, stepf, stepx, evsA, qev, St.ev, St.put, St.with, D.int, C.cpy, qindex, qpick, qint, qshift, isEq, isShift, qbin, qlen, qbuiltin, C.cp, C.dat, constD, constC, Z1, Z2, Z5, Z6, Z15, Z13, Z8, Z4, Z11, Nat.reduceEqDiff, if_true, if_false, and_self, decide_true, decide_false, Bool.not_true, cond_true, cond_false, Z22, Z3, reduceCtorEq, Z7, Z26, Bool.or_true, callP, callO, Fs.none, argDs, argD, argC, D.ni, D.ni1, C.ni, settle, settle1, settleC, Z25, dI, Int.toNat_natCast, Int.natCast_nonneg, FsT2, hb, hq1, hq2, hq3, nibR_at, tk9, a0, a2, eq_true a3, show IntKind.i64.wrap (↑(i + 3) : Int) = _ from wrap_i64 _ (by omega) (by omega), eq_false a4, show IntKind.i64.wrap (↑(i + 1) : Int) = _ from wrap_i64 _ (by omega) (by omega), show ((↑(i + 1) : Int) < (↑s.size : Int)) = True from eq_true (by omega), eq_true a5, show IntKind.i64.wrap (↑(i + 2) : Int) = _ from wrap_i64 _ (by omega) (by omega), show ((↑(i + 2) : Int) < (↑s.size : Int)) = True from eq_true (by omega), eq_true a6]; rfl) ?_)) ?_
                refine tri_cond (b := true) rfl (fun _ => ?_) (fun h => by cases h)
                refine seq_run okT2 rfl (by repeat (first | with_reducible exact runf_nil | refine runf_cons (by simp only [xstep, stepf, stepx, qev, St.ev, St.put, constD, constC, Z5, Z6, Z4, Z3]; rfl) ?_)) ?_
                refine tri_ret (ends_ret (by simp only [outRes, resDs, resD, outDs, outD, outC, C.dat, Z1, Z2, Z4, if_true, Z3]; rfl) rfl (by simp) (by simp) ?_)
                (simp only [quoteR, noText, reduceIte, Z7, ↓reduceIte, Int.reduceNeg, noText, a0, a1, a2, eq_true a3, eq_false a4, eq_true a5, eq_true a6] at hk; exact hQ2 _ _ hk)
              ·
                refine seq_run okT2 rfl (by repeat (first | with_reducible exact runf_nil | refine runf_cons (by simp only [xstep, stepf, stepx, evsA, qev, St.ev, St.put, St.with, D.int, C.cpy, qindex, qpick, qint, qshift, isShift, qbin, qlen, qbuiltin, C.cp, C.dat, constD, constC, Z1, Z2, Z5, Z6, Z15, Z13, Z8, Z4, Z11, Nat.reduceEqDiff, if_true, if_false, and_self, decide_true, decide_false, Bool.not_true, cond_false, Z22, Z3, Z7, Z26, Bool.or_true, callP, Fs.none, argDs, argD, argC, D.ni, D.ni1, C.ni, settle, settle1, settleC, Z25, dI, Int.toNat_natCast, Int.natCast_nonneg, FsT2, hb, hq1, hq2, hq3, nibR_at, tk9, a0, a2, eq_true a3, show IntKind.i64.wrap (↑(i + 3) : Int) = _ from wrap_i64 _ (by omega) (by omega), eq_false a4, show IntKind.i64.wrap (↑(i + 1) : Int) = _ from wrap_i64 _ (by omega) (by omega), show ((↑(i + 1) : Int) < (↑s.size : Int)) = True from eq_true (by omega), eq_true a5, show IntKind.i64.wrap (↑(i + 2) : Int) = _ from wrap_i64 _ (by omega) (by omega), show ((↑(i + 2) : Int) < (↑s.size : Int)) = True from eq_true (by omega), eq_false a6, show ((↑(i + 3) : Int) < (↑s.size : Int)) = True from eq_true (by omega)]; rfl) ?_)) ?_
                refine tri_cond rfl (fun a7 => ?_) (fun a7 => ?_)
                ·
                  simp only [decide_eq_true_eq] at a7
                  refine seq_run okT2 rfl (by repeat (first | with_reducible exact runf_nil | refine runf_cons (by simp only [xstep, stepf, stepx, qev, St.ev, St.put, constD, constC, Z5, Z6, Z4, decide_true, Z3, a7]; rfl) ?_)) ?_
                  refine tri_ret (ends_ret (by simp only [outRes, resDs, resD, outDs, outD, outC, C.dat, Z1, Z2, Z4, if_true, Z3]; rfl) rfl (by simp) (by simp) ?_)
                  (simp only [quoteR, noText, reduceIte, Z7, ↓reduceIte, Int.reduceNeg, noText, a0, a1, a2, eq_true a3, eq_false a4, eq_true a5, eq_false a6, a7] at hk; exact hQ2 _ _ hk)
                ·
                  simp only [decide_eq_false_iff_not] at a7
                  refine then_skip ?_
                  refine seq_anyE mixed okT2 rfl (by kernel_rfl) ?_
                  refine ⟨_, (by repeat (first | with_reducible exact runf_nil | refine runf_cons (by simp only [xstep, stepf, stepx, evsA, qev, St.ev, St.put, St.with, D.int, C.cpy, qindex, qint, qshift, isShift, qbin, qconv, C.cp, C.dat, constD, constC, Z1, Z2, Z5, Z6, Z15, Z13, Z8, Z4, Z11, Nat.reduceEqDiff, if_true, if_false, and_self, decide_false, Z3, Z7, Z26, Bool.or_true, callP, Fs.none, argDs, argD, argC, D.ni, D.ni1, C.ni, settle, settle1, settleC, Z25, dI, Int.toNat_natCast, Int.natCast_nonneg, FsT2, hb, hq2, hq3, nibR_at, tk9, a7, show IntKind.i64.wrap (↑(i + 2) : Int) = _ from wrap_i64 _ (by omega) (by omega), show ((↑(i + 2) : Int) < (↑s.size : Int)) = True from eq_true (by omega), show IntKind.i64.wrap (16 * nibR (↑(byU s (i + 2)).toNat : Int)) = _ from wrap_i64 _ (by omega) (by omega), show IntKind.i64.wrap (↑(i + 3) : Int) = _ from wrap_i64 _ (by omega) (by omega), show ((↑(i + 3) : Int) < (↑s.size : Int)) = True from eq_true (by omega), show IntKind.i64.wrap (16 * nibR (↑(byU s (i + 2)).toNat : Int) + nibR (↑(byU s (i + 3)).toNat : Int)) = _ from wrap_i64 _ (by omega) (by omega), tk5, tk3, show IntKind.u8.wrap (16 * nibR (↑(byU s (i + 2)).toNat : Int) + nibR (↑(byU s (i + 3)).toNat : Int)) = _ from wrap_u8 _ (by omega) (by omega)]; rfl) ?_)), ?_⟩
                  refine seq_in ?_
                  refine seq_run okT2 rfl (by repeat (first | with_reducible exact runf_nil | refine runf_cons (by simp only [xstep, stepf, stepx, evsA, qev, St.ev, St.put, St.with, C.cpy, C.cp, C.dat, Z1, Z2, Z5, Z6, Z15, Z13, Z4, Nat.reduceEqDiff, if_true, if_false, Z3, Z26, Bool.or_true, callP, Fs.none, argDs, argD, argC, D.ni, D.ni1, C.ni, settle, settle1, settleC, Z25, dB, FsT2, plainR_at]; rfl) ?_)) ?_
                  refine tri_cond rfl (fun a8 => ?_) (fun a8 => ?_)
                  ·
                    refine seq_run okT2 rfl (by repeat (first | with_reducible exact runf_nil | refine runf_cons (by simp only [xstep, stepf, stepx, qev, St.ev, St.put, constD, constC, Z5, Z6, Z4, Z3, a8]; rfl) ?_)) ?_
                    refine tri_ret (ends_ret (by simp only [outRes, resDs, resD, outDs, outD, outC, C.dat, Z1, Z2, Z4, if_true, Z3]; rfl) rfl (by simp) (by simp) ?_)
                    (simp only [quoteR, noText, reduceIte, Z7, ↓reduceIte, Int.reduceNeg, noText, a0, a1, a2, eq_true a3, eq_false a4, eq_true a5, eq_false a6, a7, a8] at hk; exact hQ2 _ _ hk)
                  ·
                    refine then_skip ?_
                    refine seq_run okT2 rfl (by repeat (first | with_reducible exact runf_nil | refine runf_cons (by simp only [xstep, stepf, stepx, qev, St.ev, St.put, St.with, D.cells, qstr, qbin, qconv, C.st, C.dat, putCells, Z1, Z2, Z5, Z6, Z9, Z10, Z12, Z15, Z13, Z24, Z16, Z18, Z17, Z20, Z19, Z21, Z8, Z4, Nat.reduceMul, if_true, and_self, Z3, ne_eq, not_false_eq_true, reduceCtorEq, Nat.reduceLeDiff, Nat.le_refl, Z14, Z26, buildSliceA, partsA, fillA, reps, chop, bytesStr, rowsOf, isByteRow, rowByte, hA3, last_get, tk9, tk5, a8, tk35, tz5, tsz5, show (1 ≤ maxStr) = True from eq_true (by omega)]; rfl) ?_)) ?_
                    refine run_end okT2 rfl (by repeat (first | with_reducible exact runf_nil | refine runf_cons (by simp only [xstep, stepf, stepx, qev, St.ev, St.put, qint, qshift, isShift, qbin, constD, constC, Z1, Z2, Z5, Z6, Z4, Z11, if_true, if_false, Z3, Z7, hq4, show IntKind.i64.wrap (↑(i + 4) : Int) = _ from wrap_i64 _ (by omega) (by omega)]; rfl) ?_)) ?_
                    simp only []
                    (simp only [quoteR, reduceIte, Z7, ↓reduceIte, a0, a1, a2, eq_true a3, eq_false a4, eq_true a5, eq_false a6, a7, a8] at hk; exact ⟨s.size - (i + 4), by omega, ⟨[.c (.v (.string s)), .c (.v (.int .i64 p)), .top, .top, .c (.v (.string ⟨#[]⟩)), .c (.v (.int .i64 0)), .c (.v (.string (acc ++ ⟨#[UInt8.ofNat (16 * nibR (byU s (i + 2)).toNat + nibR (byU s (i + 3)).toNat).toNat]⟩))), .c (.v (.int .i64 (i + 4 : Nat))), .top, .top, .top, .top, .top, .top, .top, .top, .top, .top, .top, .top, .top, .top, .top, .top, .top, .top, .top, .top, .top, .top, .top, .top, .top, .top, .top, .top, .top, .top, .top, .top, .top, .top, .top, .top, .top, .top, .top, .top, .top, .top, .top, .top, .top, .top, .top, .top, .top, .top, .top, .top, .top, .top, .top, .top, .top, .top, .top, .top, .top, .top, .top, .top, .top, .top, .top, .top, .top, .top, .top, .top, .top, .top, .top, .top, .top, .top, .top, .top, .top, .top, .top], _⟩, ⟨by repeat (first | exact .nil | refine .same ?_ | refine .top ?_), rfl⟩, f, i + 4, acc ++ ⟨#[UInt8.ofNat (16 * nibR (byU s (i + 2)).toNat + nibR (byU s (i + 3)).toNat).toNat]⟩, _, by omega, (by rw [ByteArray.size_append]; show acc.size + 1 ≤ i + 4; omega), rfl, by omega, hk, rfl⟩)
            ·
              refine seq_run okT2 rfl (by repeat (first | with_reducible exact runf_nil | refine runf_cons (by simp only [xstep, stepf, stepx, evsA, qev, St.ev, St.put, D.int, qindex, qpick, qint, qshift, isEq, isShift, qbin, qlen, qbuiltin, constD, constC, Z1, Z2, Z5, Z6, Z15, Z13, Z8, Z4, Z11, Nat.reduceEqDiff, if_true, if_false, and_self, decide_true, decide_false, Bool.not_true, Bool.not_false, cond_true, cond_false, Z22, Z3, reduceCtorEq, Z7, callP, callO, Fs.none, argDs, argD, Int.toNat_natCast, Int.natCast_nonneg, FsT2, hb, hq1, hq3, tk9, a0, a2, eq_true a3, show IntKind.i64.wrap (↑(i + 3) : Int) = _ from wrap_i64 _ (by omega) (by omega), eq_false a4, show IntKind.i64.wrap (↑(i + 1) : Int) = _ from wrap_i64 _ (by omega) (by omega), show ((↑(i + 1) : Int) < (↑s.size : Int)) = True from eq_true (by omega), eq_false a5]; rfl) ?_)) ?_
              refine tri_cond (b := true) rfl (fun _ => ?_) (fun h => by cases h)
              refine seq_run okT2 rfl (by repeat (first | with_reducible exact runf_nil | refine runf_cons (by simp only [xstep, stepf, stepx, qev, St.ev, St.put, constD, constC, Z5, Z6, Z4, Z3]; rfl) ?_)) ?_
              refine tri_ret (ends_ret (by simp only [outRes, resDs, resD, outDs, outD, outC, C.dat, Z1, Z2, Z4, if_true, Z3]; rfl) rfl (by simp) (by simp) ?_)
              (simp only [quoteR, noText, reduceIte, Z7, ↓reduceIte, Int.reduceNeg, noText, a0, a1, a2, eq_true a3, eq_false a4, eq_false a5] at hk; exact hQ2 _ _ hk)
        ·
          refine seq_run okT2 rfl (by repeat (first | with_reducible exact runf_nil | refine runf_cons (by simp only [xstep, stepf, stepx, evsA, qev, St.ev, St.put, D.int, qindex, qpick, qint, qshift, isEq, qeq, isShift, qbin, qlen, qbuiltin, constD, constC, Z1, Z2, Z5, Z6, Z15, Z13, Z8, Z4, Z11, Nat.reduceEqDiff, if_true, if_false, and_self, decide_false, Bool.not_false, cond_true, Z22, Z3, reduceCtorEq, Z7, callP, callO, Fs.none, argDs, argD, Int.toNat_natCast, Int.natCast_nonneg, FsT2, hb, tk9, a0, a2, eq_false a3]; rfl) ?_)) ?_
          refine tri_cond (b := true) rfl (fun _ => ?_) (fun h => by cases h)
          refine seq_run okT2 rfl (by repeat (first | with_reducible exact runf_nil | refine runf_cons (by simp only [xstep, stepf, stepx, qev, St.ev, St.put, constD, constC, Z5, Z6, Z4, Z3]; rfl) ?_)) ?_
          refine tri_ret (ends_ret (by simp only [outRes, resDs, resD, outDs, outD, outC, C.dat, Z1, Z2, Z4, if_true, Z3]; rfl) rfl (by simp) (by simp) ?_)
          (simp only [quoteR, noText, reduceIte, Z7, ↓reduceIte, Int.reduceNeg, noText, a0, a1, a2, eq_false a3] at hk; exact hQ2 _ _ hk)
  ·
    simp only [decide_eq_false_iff_not] at a0
    refine tri_exit ?_
    show Tri _ _ _ _
    refine seq_run okT2 rfl (by repeat (first | with_reducible exact runf_nil | refine runf_cons (by simp only [xstep, stepf, stepx, qev, St.ev, St.put, constD, constC, Z5, Z6, Z4, decide_false, Z3, a0]; rfl) ?_)) ?_
    refine tri_ret (ends_ret (by simp only [outRes, resDs, resD, outDs, outD, outC, C.dat, Z1, Z2, Z4, if_true, Z3]; rfl) rfl (by simp) (by simp) ?_)
    (simp only [quoteR, noText, reduceIte, ↓reduceIte, Int.reduceNeg, noText, a0] at hk; exact hQ2 _ _ hk)
end Go.Dl

namespace Go.Dl
open Go.RowKit
open Go.Proofs
set_option linter.unusedVariables false

theorem notNL_t {c : Int} (h : ¬ c = 10) : notNL c = true := by simp [notNL, h]
theorem notNL_f {c : Int} (h : c = 10) : notNL c = false := by simp [notNL, h]
theorem word_l {c : Int} (h : isLetter c = true) : isWordC c = true := by simp [isWordC, h]
theorem word_d {c : Int} (h : isDigit c = true) : isWordC c = true := by simp [isWordC, h]
theorem word_f {c : Int} (h : isLetter c = false) (h2 : isDigit c = false) : isWordC c = false := by simp [isWordC, h, h2]
theorem letter_at (c : Int) : pU8 isLetter [.c (.v (.int .u8 c))] = some (dB (isLetter c)) := rfl
theorem tab_nib : ∀ n : Fin 256, idxB hexT ((n.val : Nat) : Int) = nibR ((n.val : Nat) : Int) := by decide +kernel
theorem idx_nib (x : UInt8) : idxB hexT x.toNat = nibR x.toNat := tab_nib ⟨x.toNat, x.toNat_lt⟩
theorem tab_esc : ∀ a b : Fin 16, escV ((a.val : Nat) : Int) ((b.val : Nat) : Int) = 16 * ((a.val : Nat) : Int) + ((b.val : Nat) : Int) := by decide +kernel
theorem esc_sum {a b : Int} (ha : 0 ≤ a) (ha2 : a ≤ 15) (hb : 0 ≤ b) (hb2 : b ≤ 15) : escV a b = 16 * a + b := by
  obtain ⟨n, rfl⟩ : ∃ n : Nat, a = n := ⟨a.toNat, by omega⟩
  obtain ⟨m, rfl⟩ : ∃ m : Nat, b = m := ⟨b.toNat, by omega⟩
  exact tab_esc ⟨n, by omega⟩ ⟨m, by omega⟩
theorem tab_mark : ∀ n : Fin 256, decide (0 ≤ idxB marks ((n.val : Nat) : Int)) = (decide (n.val = 61) || decide (n.val = 44) || decide (n.val = 40) || decide (n.val = 41) || decide (n.val = 91) || decide (n.val = 93) || decide (n.val = 59)) := by decide +kernel

theorem byU_ext {s : ByteArray} {p j : Nat} (h : p + j < s.size) : (s.extract p s.size).data.toList.getD j 0 = byU s (p + j) := by
  unfold byU
  rw [ByteArray.data_extract, Array.toList_extract, List.extract_eq_take_drop]
  have h' : p + j < s.data.toList.length := by simpa using h
  have h2 : s.data.toList.length = s.size := by simp
  rw [List.getD_eq_getElem?_getD, List.getD_eq_getElem?_getD, List.getElem?_take_of_lt (by omega), List.getElem?_drop]
theorem ext1 {s : ByteArray} {i : Nat} (h : i < s.size) : s.extract i (i + 1) = ⟨#[byU s i]⟩ := by
  apply ByteArray.ext
  rw [ByteArray.data_extract]
  apply Array.ext'
  rw [Array.toList_extract, List.extract_eq_take_drop]
  have h' : i < s.data.toList.length := by simpa using h
  rw [List.drop_eq_getElem_cons h', show i + 1 - i = 1 from by omega]
  have hz : i < s.data.size := h'
  simp only [Z17, Z20, byU, List.getD_eq_getElem?_getD, List.getElem?_eq_getElem h', Option.getD_some]
theorem app1 (acc : List UInt8) (x : UInt8) : (⟨acc.toArray⟩ : ByteArray) ++ ⟨#[x]⟩ = ⟨(acc ++ [x]).toArray⟩ := by
  apply ByteArray.ext
  rw [ByteArray.data_append]
  simp

theorem esc_ok {s : ByteArray} {p : Nat} (h : p + 3 < s.size) : escF (s.extract (p + 2) s.size) = (escV (nibR (byU s (p + 2)).toNat) (nibR (byU s (p + 3)).toNat), decide (0 ≤ nibR (byU s (p + 2)).toNat) && decide (0 ≤ nibR (byU s (p + 3)).toNat)) := by
  have h0 : (s.extract (p + 2) s.size).data.toList.getD 0 0 = byU s (p + 2) := byU_ext (j := 0) (by omega)
  have h1 : (s.extract (p + 2) s.size).data.toList.getD 1 0 = byU s (p + 3) := byU_ext (j := 1) (by omega)
  unfold escF
  rw [if_neg (by rw [ByteArray.size_extract]; omega), h0, h1, idx_nib, idx_nib]
theorem esc_no {s : ByteArray} {p : Nat} (h : s.size ≤ p + 3) : (escF (s.extract (p + 2) s.size)).2 = false := by
  unfold escF
  rw [if_pos (by rw [ByteArray.size_extract]; omega)]
theorem escB_sum {s : ByteArray} {p : Nat} (h : p + 3 < s.size) (h2 : 0 ≤ nibR (byU s (p + 2)).toNat) (h3 : 0 ≤ nibR (byU s (p + 3)).toNat) :
    escB (s.extract (p + 2) s.size) = UInt8.ofNat (16 * nibR (byU s (p + 2)).toNat + nibR (byU s (p + 3)).toNat).toNat ∧ ((escB (s.extract (p + 2) s.size)).toNat : Int) = 16 * nibR (byU s (p + 2)).toNat + nibR (byU s (p + 3)).toNat := by
  have b2 := nibR_in (byU s (p + 2))
  have b3 := nibR_in (byU s (p + 3))
  have he : escB (s.extract (p + 2) s.size) = UInt8.ofNat (16 * nibR (byU s (p + 2)).toNat + nibR (byU s (p + 3)).toNat).toNat := by
    unfold escB; rw [esc_ok h]; dsimp only; rw [esc_sum h2 b2.2 h3 b3.2]
  refine ⟨he, ?_⟩
  rw [he, UInt8.toNat_ofNat']
  omega

/-- What the reference answers where the program answers so. -/
def qConv (r : ByteArray × Bool × Nat) : ByteArray × Int := if r.2.1 = true then (r.1, (r.2.2 : Int)) else (noText, -1)
theorem quote_eq : ∀ (n : Nat) (s : ByteArray) (p : Nat) (acc : List UInt8), quoteR n s p ⟨acc.toArray⟩ = qConv (quoteN n s p acc)
  | 0, s, p, acc => rfl
  | n + 1, s, p, acc => by
    simp only [quoteR, quoteN]
    by_cases h0 : (p : Int) < (s.size : Int)
    · rw [if_pos h0, if_pos h0]
      by_cases h1 : ((byU s p).toNat : Int) = 34
      · rw [if_pos h1, if_pos h1]; rfl
      · rw [if_neg h1, if_neg h1]
        by_cases h2 : ((byU s p).toNat : Int) = 92
        · rw [if_neg (by rw [plainR_eq, h2]; decide), if_pos h2, if_pos h2]
          by_cases h3 : (s.size : Int) ≤ ((p + 3 : Nat) : Int)
          · rw [if_pos h3]
            split
            · rfl
            · split
              · rw [if_neg (by rw [esc_no (by omega)]; simp)]; rfl
              · rfl
          · rw [if_neg h3, if_neg (show ¬ (s.size : Int) ≤ ((p + 1 : Nat) : Int) by omega)]
            split
            · rw [esc_ok (by omega)]
              by_cases h4 : nibR (byU s (p + 2)).toNat < 0
              · rw [if_pos h4, if_neg (by dsimp only; rw [Bool.and_eq_true, decide_eq_true_eq, decide_eq_true_eq]; omega)]; rfl
              · rw [if_neg h4]
                by_cases h5 : nibR (byU s (p + 3)).toNat < 0
                · rw [if_pos h5, if_neg (by dsimp only; rw [Bool.and_eq_true, decide_eq_true_eq, decide_eq_true_eq]; omega)]; rfl
                · rw [if_neg h5, if_pos (show ((escV (nibR (byU s (p + 2)).toNat) (nibR (byU s (p + 3)).toNat), decide (0 ≤ nibR (byU s (p + 2)).toNat) && decide (0 ≤ nibR (byU s (p + 3)).toNat)) : Int × Bool).2 = true from by dsimp only; rw [Bool.and_eq_true, decide_eq_true_eq, decide_eq_true_eq]; omega)]
                  obtain ⟨e1, e2⟩ := escB_sum (s := s) (p := p) (by omega) (by omega) (by omega)
                  rw [e2, plainR_eq]
                  split
                  · rfl
                  · rw [e1, app1]
                    exact quote_eq n s (p + 4) _
            · rfl
        · rw [if_neg h2, if_neg h2, plainR_eq]
          split
          · rw [ext1 (by omega), app1]
            exact quote_eq n s (p + 1) _
          · rfl
    · rw [if_neg h0, if_neg h0]; rfl
theorem quoteF_eq (s : ByteArray) (p : Nat) : quoteRF s p = qConv (quoteF s p) := quote_eq (s.size + 1) s (p + 1) []

theorem byt_byU (s : ByteArray) (p : Nat) : byt s p = ((byU s p).toNat : Int) := rfl
theorem mark_iff (s : ByteArray) (p : Nat) : 0 ≤ idxB marks (byt s p) ↔ (byt s p = 61 ∨ byt s p = 44 ∨ byt s p = 40 ∨ byt s p = 41 ∨ byt s p = 91 ∨ byt s p = 93 ∨ byt s p = 59) := by
  have h := tab_mark ⟨(byU s p).toNat, (byU s p).toNat_lt⟩
  rw [byt_byU]
  dsimp only at h
  rw [Bool.eq_iff_iff] at h
  simp only [Bool.or_eq_true, decide_eq_true_eq] at h
  rw [h]
  omega

theorem blkN_fuel : ∀ (n m : Nat) (s : ByteArray) (p : Nat), p ≤ s.size → s.size - p < n → s.size - p < m → blkN n s p = blkN m s p
  | 0, m, s, p, hp, h, _ => by omega
  | n + 1, 0, s, p, hp, _, h => by omega
  | n + 1, m + 1, s, p, hp, hn, hm => by
    simp only [blkN]
    split
    · rename_i h
      split
      · exact blkN_fuel n m s (p + 1) (by omega) (by omega) (by omega)
      · split
        · rename_i h35
          have h1 := runF_le notNL s p hp
          have h2 : p < runF notNL s p := runF_gt h (notNL_t (by omega))
          exact blkN_fuel n m s _ h1.2 (by omega) (by omega)
        · rfl
    · rfl
theorem blkF_blank {s : ByteArray} {p : Nat} (h : p < s.size) (hb : isBlank (byt s p) = true) : blkF s p = blkF s (p + 1) := by
  unfold blkF
  rw [show blkN (s.size + 1) s p = blkN s.size s (p + 1) from by simp only [blkN]; rw [if_pos h, if_pos hb]]
  exact blkN_fuel _ _ s (p + 1) h (by omega) (by omega)
theorem blkF_rem {s : ByteArray} {p : Nat} (h : p < s.size) (hb : byt s p = 35) : blkF s p = blkF s (runF notNL s p) := by
  have h1 := runF_le notNL s p (by omega)
  have h2 : p < runF notNL s p := runF_gt h (notNL_t (by omega))
  unfold blkF
  rw [show blkN (s.size + 1) s p = blkN s.size s (runF notNL s p) from by simp only [blkN]; rw [if_pos h, if_neg (by rw [hb]; decide), if_pos hb]]
  exact blkN_fuel _ _ s _ h1.2 (by omega) (by omega)
theorem blkF_stop {s : ByteArray} {p : Nat} (h : p < s.size → isBlank (byt s p) = false ∧ ¬ byt s p = 35) : blkF s p = p := by
  unfold blkF
  simp only [blkN]
  split
  · rename_i h0
    rw [if_neg (by rw [(h h0).1]; simp), if_neg (h h0).2]
  · rfl
theorem blank_iff (c : Int) : isBlank c = true ↔ (c = 32 ∨ c = 10 ∨ c = 9) := by simp [isBlank, or_assoc]

theorem toksN_cases : ∀ (n : Nat) (s : ByteArray) (p : Nat) (acc : List Tok) (r : List Tok × Int × Int), p ≤ s.size → toksN n s p acc = some r → r.2 = (0, 0) ∨ (r.1 = [] ∧ 0 ≤ r.2.1 ∧ r.2.2 = 4)
  | 0, s, p, acc, r, hp, h => by cases h
  | n + 1, s, p, acc, r, hp, h => by
    obtain ⟨⟨t, m, e, q⟩, hr⟩ := nextF_some s p
    simp only [toksN, hr, Z8] at h
    by_cases he : e = 0
    · rw [if_neg (by simp [he])] at h
      cases m with
      | false => rw [if_pos rfl] at h; cases h; exact .inl rfl
      | true =>
        rw [if_neg (by simp)] at h
        exact toksN_cases n s q _ r (nextF_le hp hr).1 h
    · rw [if_pos he] at h
      cases h
      cases m with
      | false =>
        have := nextF_err hr
        exact .inr ⟨rfl, this.2, by rcases this.1 with h | h; exact absurd h he; exact h⟩
      | true => exact absurd (nextF_ok hp hr).1 he
theorem toksT_cases {s : ByteArray} (h : s.size ≤ 65536) : (∃ l, toksT s = (l, 0, 0)) ∨ ∃ a, 0 ≤ a ∧ toksT s = ([], a, 4) := by
  have h3 := toksT_eq s
  unfold toksF at h3
  rw [if_neg (by omega)] at h3
  generalize toksT s = r at h3 ⊢
  obtain ⟨l, a, e⟩ := r
  rcases toksN_cases _ s 0 [] _ (Nat.zero_le _) h3 with h1 | ⟨h1, h2, h4⟩
  · left
    cases h1
    exact ⟨l, rfl⟩
  · right
    cases h1; cases h4
    exact ⟨a, h2, rfl⟩
theorem strEq_same (a : ByteArray) : strEq a a = true := by
  unfold strEq
  simp
theorem cut_at (s : ByteArray) (hs : s.size ≤ maxStr) : pCut [.c (.v (.string s))] = some (.c (.v (.string (if 500 < (s.size : Int) then s.extract 0 500 else s)))) := if_pos hs
def pSayText : List D → Option D
  | [.c (.v (.string s))] => if s.size ≤ maxStr then some (dB true) else none
  | _ => none
end Go.Dl
