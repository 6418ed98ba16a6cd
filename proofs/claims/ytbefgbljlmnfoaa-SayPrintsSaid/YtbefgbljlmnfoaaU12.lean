/- The walk of step; Tokens' plain facts; the walks of Script, awake; The walk of awake; The walks of the reference's letter, digit, plain, nibble, quote, and of the law's cut; Plain facts of texts: bytes, quotes, blanks, tokens. -/
import Derived.Test.YtbefgbljlmnfoaaU11
set_option linter.all false
namespace Go.Dl
open Go.RowKit
open Go.Proofs
set_option linter.unusedSimpArgs false
set_option linter.unusedVariables false
/-- Which form a word is. -/
def formIx (w : ByteArray) : Nat → Nat → Option Nat
 | 0, _ => none
 | n + 1, k => if strEq (formB k) w = true then (if strEq (formB k) noText = true then formIx w n (k + 1) else some k) else formIx w n (k + 1)
def argsGo (l : List Tok) (e : Int) : List Int → ActM → Nat → Int → ActM × Nat × Int
 | [], a, i, bad => (a, i, bad)
 | x :: xs, a, i, bad => argsGo l e xs (argT l e x a i bad).1 (argT l e x a i bad).2.1 (argT l e x a i bad).2.2
theorem argsGo_in {l : List Tok} {e : Int} : ∀ (xs : List Int) (a : ActM) (i : Nat) (bad : Int), okPre l i e → i ≤ (argsGo l e xs a i bad).2.1 ∧ (argsGo l e xs a i bad).2.1 ≤ l.length
 | [], a, i, bad, h => ⟨Nat.le_refl i, h.1.2.1⟩
 | x :: xs, a, i, bad, h => by
  have h1 := argT_in (k := x) (a := a) (bad := bad) h
  have h2 := argsGo_in xs (argT l e x a i bad).1 (argT l e x a i bad).2.1 (argT l e x a i bad).2.2 (h.at h1.2)
  exact ⟨Nat.le_trans h1.1 h2.1, h2.2⟩
def semi : ByteArray := ⟨#[59]⟩
def stepW (l : List Tok) (i : Nat) (e bad : Int) : ByteArray × Nat × Int := takeF l i e bad 0
def stepA (l : List Tok) (i : Nat) (e bad : Int) (k : Nat) : ActM × Nat × Int := argsGo l e (argsK k) (act0 k) (stepW l i e bad).2.1 (stepW l i e bad).2.2
def stepF (l : List Tok) (i : Nat) (e bad : Int) : ActM × Nat × Int :=
 match formIx (stepW l i e bad).1 16 0 with
 | some k => ((stepA l i e bad k).1, markF l (stepA l i e bad k).2.1 e (stepA l i e bad k).2.2 semi)
 | none => (act0 0, i, failF l i e (stepW l i e bad).2.2)
theorem stepF_some {l : List Tok} {i : Nat} {e bad : Int} {k : Nat} {r : ActM × Nat × Int} (h : formIx (stepW l i e bad).1 16 0 = some k) (hr : stepA l i e bad k = r) : stepF l i e bad = (r.1, markF l r.2.1 e r.2.2 semi) := by
 unfold stepF; rw [h]; subst hr; rfl
theorem stepF_none {l : List Tok} {i : Nat} {e bad : Int} (h : formIx (stepW l i e bad).1 16 0 = none) : stepF l i e bad = (act0 0, i, failF l i e (stepW l i e bad).2.2) := by
 unfold stepF; rw [h]
theorem form_get {k : Nat} (h : k < 16) : formsC[k]? = some (.v (.string (formB k))) := by
 match k, h with
 | 0, _ => rfl
 | 1, _ => rfl
 | 2, _ => rfl
 | 3, _ => rfl
 | 4, _ => rfl
 | 5, _ => rfl
 | 6, _ => rfl
 | 7, _ => rfl
 | 8, _ => rfl
 | 9, _ => rfl
 | 10, _ => rfl
 | 11, _ => rfl
 | 12, _ => rfl
 | 13, _ => rfl
 | 14, _ => rfl
 | 15, _ => rfl
 | k + 16, h => exact absurd h (by omega)
theorem drop_at {α : Type} (d : α) {l : List α} {j : Nat} (h : j < l.length) : l.drop j = l.getD j d :: l.drop (j + 1) := by
 rw [List.drop_eq_getElem_cons h]
 congr 1
 simp [h]
theorem get_at {α : Type} (d : α) {l : List α} {j : Nat} (h : j < l.length) : l[j]? = some (l.getD j d) := by
 simp [h]
theorem argsE_one {k : Int} (h : 0 < (argsK k).length) : argsE k = 1 := by
 unfold argsK at h
 unfold argsE
 (repeat' split at h) <;> first | (simp [*]; done) | (exfalso; simp at h; done) | skip
theorem act_dat (a : ActM) : (actC true a).all C.dat = true := rfl
theorem act_take (z : Bool) (a : ActM) : (actC z a).take 12 = actC z a := rfl
theorem act_cpy (a : ActM) : (actC true a).map C.cpy = actC false a := by
 obtain ⟨a1, a2, a3, a4, a5, a6, a7, a8, a9, a10, a11, a12⟩ := a
 cases a4 <;> cases a7 <;> rfl
theorem act_cpy2 (a : ActM) : (actC false a).map C.cpy = actC false a := by
 obtain ⟨a1, a2, a3, a4, a5, a6, a7, a8, a9, a10, a11, a12⟩ := a
 cases a4 <;> cases a7 <;> rfl
theorem act_len (z : Bool) (a : ActM) : (actC z a).length = 12 := rfl
theorem act_cp (a : ActM) : (actC false a).all C.cp = true := by
 obtain ⟨a1, a2, a3, a4, a5, a6, a7, a8, a9, a10, a11, a12⟩ := a
 cases a4 <;> cases a7 <;> rfl
theorem act_st (H : List (Option Root)) (z : Bool) (a : ActM) : (actC z a).all (C.st H) = true := rfl
theorem act_out (H : List (Option Root)) (a : ActM) : outCs H (actC false a) = some (actC false a, []) := rfl
noncomputable def FsS1 : Fs := { pure := fun k => if k = 43 then some pForms else if k = 44 then some pArgsZ else none, objs := fun k => if k = 68 then some oTakeP else if k = 62 then some oFail else if k = 69 then some oArgA else if k = 70 then some oMark else none }
theorem okS1 : FsOK Try.prog FsS1 := by
 refine ⟨fun k f h => ?_, fun k f h => ?_⟩
 · simp only [FsS1] at h
   split at h
   · rename_i hk; subst hk; cases h; exact ⟨by kernel_rfl, meets43⟩
   split at h
   · rename_i hk; subst hk; cases h; exact ⟨by kernel_rfl, meets44Z⟩
   · cases h
 · simp only [FsS1] at h
   split at h
   · rename_i hk; subst hk; cases h; exact ⟨by kernel_rfl, meets68⟩
   split at h
   · rename_i hk; subst hk; cases h; exact ⟨by kernel_rfl, meets62⟩
   split at h
   · rename_i hk; subst hk; cases h; exact ⟨by kernel_rfl, meets69⟩
   split at h
   · rename_i hk; subst hk; cases h; exact ⟨by kernel_rfl, meets70⟩
   · cases h
noncomputable def oStep := famO (fun x : List Tok × Nat × Int × Int => okPre x.1 x.2.1 x.2.2.1) (fun x => ([.c (.p 0 0 0)], [paObj x.1 x.2.1 x.2.2.1 x.2.2.2]))
 (fun x => (.agg (actC false (stepF x.1 x.2.1 x.2.2.1 x.2.2.2).1), [paObj x.1 (stepF x.1 x.2.1 x.2.2.1 x.2.2.2).2.1 x.2.2.1 (stepF x.1 x.2.1 x.2.2.1 x.2.2.2).2.2]))
set_option maxHeartbeats 2000000 in
theorem meets47 : Meets Try.prog 47 (detS oStep) := by
 refine meets_famO (show Try.prog.funcs[47]? = some Try.f47 by kernel_rfl) rfl (n := 52) rfl (rs := [ResultVar.cell 2 50]) rfl ?_
 rintro ⟨l, i0, e, bad0⟩ hpre Q hQ
 dsimp only at hpre hQ
 simp only [paObj] at hQ
 have hl : l.length ≤ 1000000 := hpre.1.1
 have hi0 : i0 ≤ l.length := hpre.1.2.1
 have hT0 : oTakeP [.c (.p 0 0 0), .c (.v (.int .i64 0))] [⟨4, [[.s false 3 (l.map tokC), .v (.int .i64 i0), .v (.int .i64 e), .v (.int .i64 bad0)]]⟩] =
  some (.c (.v (.string (stepW l i0 e bad0).1)), [⟨4, [[.s false 3 (l.map tokC), .v (.int .i64 (stepW l i0 e bad0).2.1), .v (.int .i64 e), .v (.int .i64 (stepW l i0 e bad0).2.2)]]⟩]) := take_at hl i0 e bad0 0 hi0
 have hj0 : (stepW l i0 e bad0).2.1 ≤ l.length := takeF_le hi0
 have hF0 := fail_at hl i0 e (stepW l i0 e bad0).2.2 hi0
 obtain ⟨res, hres⟩ : ∃ res, formIx (stepW l i0 e bad0).1 16 0 = res := ⟨_, rfl⟩
 have hQs : ∀ k : Nat, some k = res → ∀ r, stepA l i0 e bad0 k = r → Q (.agg (actC false r.1)) [⟨4, [[.s false 3 (l.map tokC), .v (.int .i64 (markF l r.2.1 e r.2.2 semi).1), .v (.int .i64 e), .v (.int .i64 (markF l r.2.1 e r.2.2 semi).2)]]⟩] := by
  intro k hk r hr
  rw [stepF_some (hres.trans hk.symm) hr] at hQ
  exact hQ
 have hQn : none = res → Q (.agg (actC false (act0 0))) [⟨4, [[.s false 3 (l.map tokC), .v (.int .i64 i0), .v (.int .i64 e), .v (.int .i64 (failF l i0 e (stepW l i0 e bad0).2.2))]]⟩] := by
  intro hk
  rw [stepF_none (hres.trans hk.symm)] at hQ
  exact hQ
 clear hQ
 unfold stepA at hQs
 generalize (stepW l i0 e bad0).1 = w at hT0 hres
 generalize (stepW l i0 e bad0).2.1 = i1 at hT0 hQs hj0
 generalize (stepW l i0 e bad0).2.2 = bad1 at hT0 hQs hQn hF0
 refine Y3 okS1 rfl (by repeat first | with_reducible exact Y2 | refine Y1 (by simp only [Y5, Y4, Y6, St.put, St.with, boxA, C.st, List.replicate, Nat.reduceAdd, Nat.reduceSub, if_true, paObj, tz50, ZA]; rfl) ?_) ?_
 refine Y3 okS1 rfl (by repeat first | with_reducible exact Y2 | refine Y1 (by simp only [Y5, Y4, Y6, qev, St.ev, St.put, qload, Y9, qmk, C.cpy, TK.agg, qnil, Yb, liveR, C.cp, if_true, if_false, reduceCtorEq, tk80, tsz3, tk3, ZA]; rfl) ?_) ?_
 refine Y3 okS1 rfl (by repeat first | with_reducible exact Y2 | refine Y1 (by simp only [Y5, Y4, Y6, evsA, qev, St.ev, St.put, St.with, D.cell, C.cpy, C.cp, C.dat, Y8, Y7, Bool.and_true, Nat.reduceEqDiff, if_true, if_false, beq_self_eq_true, Bool.true_or, callP, callO, dedup, rootsD, rootsC, List.flatMap_cons, List.flatMap_nil, List.filterMap_cons, List.filterMap_nil, Yg, argD, argC, List.contains_nil, objsAt, objOf, List.idxOf?, List.findIdx?, List.findIdx?.go, setObjs, settle, settle1, settleC, FsS1, hT0, ZA]; rfl) ?_) ?_
 refine seq_in ?_
 refine Y3 okS1 rfl (by repeat first | with_reducible exact Y2 | refine Y1 (by simp only [Y5, Y4, Y6, evsA, qev, St.ev, St.put, St.with, Y8, Y7, Nat.reduceEqDiff, if_true, if_false, Bool.true_or, callP, Yg, settle, settle1, FsS1, pForms, ZA]; rfl) ?_) ?_
 refine tri_block ?_
 refine tri_loop_le (fun m A => ∃ (k : Nat), m + k = 16 ∧ formIx w m k = res ∧ A = ⟨[.c (.p 0 0 0), .o, .c (.p 1 0 0), .c (.v (.int .i64 i0)), .c (.v (.string w)), .o, .o, .o, .o, .o, .o, .o, .o, .o, .o, .o, .agg formsC, .c (.v (.int .i64 (k : Nat))), .o, .o, .o, .o, .o, .o, .o, .o, .o, .o, .o, .o, .o, .o, .o, .o, .o, .o, .o, .o, .o, .o, .o, .o, .o, .o, .o, .o, .o, .o, .o, .o, .o, .o], [some ⟨false, 4, [[.s false 3 (l.map tokC), .v (.int .i64 i1), .v (.int .i64 e), .v (.int .i64 bad1)]]⟩, some ⟨false, 12, [[.v (.int .i64 0), .v (.string ⟨#[]⟩), .v (.int .i64 0), .s true 0 [], .v (.string ⟨#[]⟩), .v (.string ⟨#[]⟩), .s true 0 [], .v (.string ⟨#[]⟩), .v (.int .i64 0), .v (.int .i64 0), .v (.int .u64 0), .v (.int .i64 0)]]⟩]⟩) 16 (B := ⟨[.c (.p 0 0 0), .o, .c (.p 1 0 0), .c (.v (.int .i64 i0)), .c (.v (.string w)), .o, .o, .o, .o, .o, .o, .o, .o, .o, .o, .o, .agg formsC, .c (.v (.int .i64 (0 : Nat))), .o, .o, .o, .o, .o, .o, .o, .o, .o, .o, .o, .o, .o, .o, .o, .o, .o, .o, .o, .o, .o, .o, .o, .o, .o, .o, .o, .o, .o, .o, .o, .o, .o, .o], [some ⟨false, 4, [[.s false 3 (l.map tokC), .v (.int .i64 i1), .v (.int .i64 e), .v (.int .i64 bad1)]]⟩, some ⟨false, 12, [[.v (.int .i64 0), .v (.string ⟨#[]⟩), .v (.int .i64 0), .s true 0 [], .v (.string ⟨#[]⟩), .v (.string ⟨#[]⟩), .s true 0 [], .v (.string ⟨#[]⟩), .v (.int .i64 0), .v (.int .i64 0), .v (.int .u64 0), .v (.int .i64 0)]]⟩]⟩) ⟨by repeat (first | exact .nil | refine .same ?_ | refine .o ?_), rfl⟩ ⟨0, rfl, hres, rfl⟩ ?_
 rintro m A ⟨k, hmk, hk, rfl⟩
 have hk16 : k ≤ 16 := by omega
 have hq1 : (k : Int) + 1 = ((k + 1 : Nat) : Int) := by omega
 have hfg : ((k : Nat) : Int) < 16 → formsC[k]? = some (.v (.string (formB k))) := fun h => form_get (by omega)
 have hm1 : ((k : Nat) : Int) < 16 → ∃ m2, m = m2 + 1 := fun h => ⟨m - 1, by omega⟩
 have hm0 : ¬ ((k : Nat) : Int) < 16 → m = 0 := (by intro h; omega)
 have hA := args_at (k : Int)
 have h16 : ((16 : Nat) : Int) = 16 := rfl
 obtain ⟨ar, har⟩ : ∃ ar, argsK (k : Int) = ar := ⟨_, rfl⟩
 obtain ⟨r, hr⟩ : ∃ r, argsGo l e (argsK (k : Int)) (act0 (k : Int)) i1 bad1 = r := ⟨_, rfl⟩
 have hQs1 := fun h => hQs k h r hr
 rw [har] at hA hr
 have hE1 : 0 < ar.length → argsE (k : Int) = 1 := fun h => argsE_one (by rw [har]; exact h)
 have harl : ar.length ≤ 3 := (by rw [← har]; unfold argsK; (repeat' split) <;> decide)
 have hlmi : (ints ar).length ≤ maxStr := (by unfold maxStr; rw [List.length_map]; omega)
 have hlma : ar.length ≤ maxStr := (by unfold maxStr; omega)
 refine Y3 okS1 rfl (by repeat first | with_reducible exact Y2 | refine Y1 (by simp only [Y5, Y4, Y6, qev, St.ev, St.put, qint, Yc, Ya, qbin, Y8, Y7, if_true, if_false, ZA]; rfl) ?_) ?_
 refine seq_in (Yf rfl (fun a0 => ?_) (fun a0 => ?_))
 ·
  simp only [decide_eq_true_eq] at a0
  refine Ye ?_
  refine seq_in (tri_block ?_)
  refine Y3 okS1 rfl (by repeat first | with_reducible exact Y2 | refine Y1 (by simp only [Y5, Y4, Y6, qev, St.ev, St.put, D.int, TK.agg, qpart, qindex, if_true, if_false, decide_true, ne_eq, reduceCtorEq, tk84, Int.toNat_natCast, Int.natCast_nonneg, h16, hfg, Nat.mul_one, tk9, tsz9, a0, ZA]; rfl) ?_) ?_
  refine seq_in ?_
  by_cases a1 : ((strEq (formB k) w) = true)
  ·
   refine Y3 okS1 rfl (by repeat first | with_reducible exact Y2 | refine Y1 (by simp only [Y5, Y4, Y6, qev, St.ev, St.put, qpick, qstr, qbin, Y8, Y7, if_true, Bool.not_true, cond_false, a1, ZA]; rfl) ?_) ?_
   refine Yf rfl (fun a2 => ?_) (fun a2 => ?_)
   ·
    refine tri_exit ?_
    show Tri _ _ _ _
    refine Yk okS1 rfl (by repeat first | with_reducible exact Y2 | refine Y1 (by simp only [Y5, Y4, Y6, qev, St.ev, St.put, qint, Yc, Ya, qbin, Y8, Y7, if_true, if_false, hq1, a2, show IntKind.i64.wrap (↑(k + 1) : Int) = _ from wrap_i64 _ (by omega) (by omega), ZA]; rfl) ?_) ?_
    simp only []
    (obtain ⟨m3, rfl⟩ := hm1 (by omega); simp only [formIx, reduceIte, ↓reduceIte, noText, a1, a2] at hk; exact ⟨m3, by omega, ⟨[.c (.p 0 0 0), .o, .c (.p 1 0 0), .c (.v (.int .i64 i0)), .c (.v (.string w)), .o, .o, .o, .o, .o, .o, .o, .o, .o, .o, .o, .agg formsC, .c (.v (.int .i64 (k + 1 : Nat))), .o, .o, .o, .o, .o, .o, .o, .o, .o, .o, .o, .o, .o, .o, .o, .o, .o, .o, .o, .o, .o, .o, .o, .o, .o, .o, .o, .o, .o, .o, .o, .o, .o, .o], [some ⟨false, 4, [[.s false 3 (l.map tokC), .v (.int .i64 i1), .v (.int .i64 e), .v (.int .i64 bad1)]]⟩, some ⟨false, 12, [[.v (.int .i64 0), .v (.string ⟨#[]⟩), .v (.int .i64 0), .s true 0 [], .v (.string ⟨#[]⟩), .v (.string ⟨#[]⟩), .s true 0 [], .v (.string ⟨#[]⟩), .v (.int .i64 0), .v (.int .i64 0), .v (.int .u64 0), .v (.int .i64 0)]]⟩]⟩, ⟨by repeat (first | exact .nil | refine .same ?_ | refine .o ?_), rfl⟩, k + 1, by omega, hk, rfl⟩)
   ·
    refine Ye ?_
    refine Y3 okS1 rfl (by repeat first | with_reducible exact Y2 | refine Y1 (by simp only [Y5, Y4, Y6, qev, St.ev, St.put, St.with, D.cells, boxA, C.st, C.dat, storeA, putCells, Nat.reduceAdd, if_true, ne_eq, reduceCtorEq, Nat.reduceLeDiff, Nat.le_refl, Nat.reduceBNe, implies_true, buildA, partsA, fillA, placeSt, tk50, tsz50, tz50, tsz9, tsz3, a2, tsz48, tsz28, tsz37, ZA]; rfl) ?_) ?_
    refine seq_in ?_
    refine Y3 okS1 rfl (by repeat first | with_reducible exact Y2 | refine Y1 (by simp only [Y5, Y4, Y6, evsA, qev, St.ev, St.put, St.with, C.cpy, qlen, qbuiltin, C.cp, C.dat, Y8, Y7, Nat.reduceEqDiff, if_true, if_false, Bool.true_or, callP, Yg, argD, argC, settle, settle1, settleC, FsS1, hlma, List.length_map, hA, tk27, ZA]; rfl) ?_) ?_
    refine tri_block ?_
    refine tri_loop_le (fun m2 A => ∃ (j i : Nat) (bad : Int) (a : ActM), m2 + j = ar.length ∧ i ≤ l.length ∧ argsGo l e (ar.drop j) a i bad = r ∧ A = ⟨[.c (.p 0 0 0), .o, .c (.p 1 0 0), .c (.v (.int .i64 i0)), .c (.v (.string w)), .o, .o, .c (.p 2 0 0), .o, .o, .o, .o, .o, .o, .o, .o, .o, .o, .o, .o, .o, .o, .o, .o, .o, .o, .o, .o, .o, .o, .o, .c (.s false (argsE (k : Int)) (ints ar)), .c (.v (.int .i64 (ar.length : Nat))), .c (.v (.int .i64 (j : Nat))), .o, .o, .o, .o, .o, .o, .o, .o, .o, .o, .o, .o, .o, .o, .o, .o, .o, .o], [some ⟨false, 4, [[.s false 3 (l.map tokC), .v (.int .i64 i), .v (.int .i64 e), .v (.int .i64 bad)]]⟩, some ⟨false, 12, [[.v (.int .i64 0), .v (.string ⟨#[]⟩), .v (.int .i64 0), .s true 0 [], .v (.string ⟨#[]⟩), .v (.string ⟨#[]⟩), .s true 0 [], .v (.string ⟨#[]⟩), .v (.int .i64 0), .v (.int .i64 0), .v (.int .u64 0), .v (.int .i64 0)]]⟩, some ⟨false, 12, [actC true a]⟩]⟩) ar.length (B := ⟨[.c (.p 0 0 0), .o, .c (.p 1 0 0), .c (.v (.int .i64 i0)), .c (.v (.string w)), .o, .o, .c (.p 2 0 0), .o, .o, .o, .o, .o, .o, .o, .o, .o, .o, .o, .o, .o, .o, .o, .o, .o, .o, .o, .o, .o, .o, .o, .c (.s false (argsE (k : Int)) (ints ar)), .c (.v (.int .i64 (ar.length : Nat))), .c (.v (.int .i64 (0 : Nat))), .o, .o, .o, .o, .o, .o, .o, .o, .o, .o, .o, .o, .o, .o, .o, .o, .o, .o], [some ⟨false, 4, [[.s false 3 (l.map tokC), .v (.int .i64 i1), .v (.int .i64 e), .v (.int .i64 bad1)]]⟩, some ⟨false, 12, [[.v (.int .i64 0), .v (.string ⟨#[]⟩), .v (.int .i64 0), .s true 0 [], .v (.string ⟨#[]⟩), .v (.string ⟨#[]⟩), .s true 0 [], .v (.string ⟨#[]⟩), .v (.int .i64 0), .v (.int .i64 0), .v (.int .u64 0), .v (.int .i64 0)]]⟩, some ⟨false, 12, [actC true (act0 (k : Int))]⟩]⟩) ⟨by repeat (first | exact .nil | refine .same ?_ | refine .o ?_), rfl⟩ ⟨0, i1, bad1, act0 (k : Int), rfl, hj0, hr, rfl⟩ ?_
    rintro m2 A ⟨j, i, bad, a, hm2, hi, hg, rfl⟩
    have hq2 : (j : Int) + 1 = ((j + 1 : Nat) : Int) := by omega
    have hlm : ar.length ≤ maxStr := (by unfold maxStr; omega)
    have hga : ((j : Nat) : Int) < ((ar.length : Nat) : Int) → ar[j]? = some (ar.getD j 0) := fun h => get_at 0 (by omega)
    have hdr : ((j : Nat) : Int) < ((ar.length : Nat) : Int) → ar.drop j = ar.getD j 0 :: ar.drop (j + 1) := fun h => drop_at 0 (by omega)
    have hde : ¬ ((j : Nat) : Int) < ((ar.length : Nat) : Int) → ar.drop j = [] := fun h => List.drop_eq_nil_of_le (by omega)
    have hE : ((j : Nat) : Int) < ((ar.length : Nat) : Int) → argsE (k : Int) = 1 := fun h => hE1 (by omega)
    have hAr := arg_at i e bad (ar.getD j 0) a (hpre.at hi)
    have hin := argT_in (k := ar.getD j 0) (a := a) (bad := bad) (hpre.at hi)
    have hM : oMark [.c (.p 0 0 0), .c (.v (.string ⟨#[59]⟩))] _ = _ := mark_at hl i e bad semi hi
    refine Y3 okS1 rfl (by repeat first | with_reducible exact Y2 | refine Y1 (by simp only [Y5, Y4, Y6, qev, St.ev, St.put, qint, Yc, Ya, qbin, if_true, if_false, ZA]; rfl) ?_) ?_
    refine seq_in (Yf rfl (fun a3 => ?_) (fun a3 => ?_))
    ·
     simp only [decide_eq_true_eq] at a3
     refine Ye ?_
     refine seq_in (tri_block ?_)
     refine Y3 okS1 rfl (by repeat first | with_reducible exact Y2 | refine Y1 (by simp only [Y5, Y4, Y6, qev, St.ev, St.put, D.int, qload, Y9, qmk, C.cpy, TK.agg, qindexAddr, C.cp, if_true, if_false, decide_true, ne_eq, reduceCtorEq, Int.toNat_natCast, Int.natCast_nonneg, List.length_map, hE, hga, List.length_map, List.getElem?_map, tsz3, tk3, tk27, a3, ZA]; rfl) ?_) ?_
     refine Yk okS1 rfl (by repeat first | with_reducible exact Y2 | refine Y1 (by simp only [Y5, Y4, Y6, evsA, qev, St.ev, St.put, St.with, D.cell, C.cpy, C.cp, C.dat, Bool.and_true, Nat.reduceAdd, Nat.reduceEqDiff, if_true, if_false, Nat.reduceBEq, beq_self_eq_true, Bool.or_false, Bool.true_or, callP, callO, dedup, rootsD, rootsC, List.flatMap_cons, List.flatMap_nil, List.filterMap_cons, List.filterMap_nil, Yg, argD, argC, List.contains_nil, List.contains_cons, objsAt, objOf, List.idxOf?, List.findIdx?, List.findIdx?.go, setObjs, settle, settleDs, FsS1, hAr, act_dat, ZA]; rfl) ?_) ?_
     show Tri _ _ _ _
     refine Yk okS1 rfl (by repeat first | with_reducible exact Y2 | refine Y1 (by simp only [Y5, Y4, Y6, qev, St.ev, St.put, qint, Yc, Ya, qbin, Y8, Y7, if_true, if_false, hq2, show IntKind.i64.wrap (↑(j + 1) : Int) = _ from wrap_i64 _ (by omega) (by omega), ZA]; rfl) ?_) ?_
     simp only []
     (have hj2 : j < ar.length := (by omega); rw [drop_at 0 hj2] at hg; simp only [argsGo] at hg; exact ⟨m2 - 1, by omega, ⟨[.c (.p 0 0 0), .o, .c (.p 1 0 0), .c (.v (.int .i64 i0)), .c (.v (.string w)), .o, .o, .c (.p 2 0 0), .o, .o, .o, .o, .o, .o, .o, .o, .o, .o, .o, .o, .o, .o, .o, .o, .o, .o, .o, .o, .o, .o, .o, .c (.s false (argsE (k : Int)) (ints ar)), .c (.v (.int .i64 (ar.length : Nat))), .c (.v (.int .i64 (j + 1 : Nat))), .o, .o, .o, .o, .o, .o, .o, .o, .o, .o, .o, .o, .o, .o, .o, .o, .o, .o], [some ⟨false, 4, [[.s false 3 (l.map tokC), .v (.int .i64 (argT l e (ar.getD j 0) a i bad).2.1), .v (.int .i64 e), .v (.int .i64 (argT l e (ar.getD j 0) a i bad).2.2)]]⟩, some ⟨false, 12, [[.v (.int .i64 0), .v (.string ⟨#[]⟩), .v (.int .i64 0), .s true 0 [], .v (.string ⟨#[]⟩), .v (.string ⟨#[]⟩), .s true 0 [], .v (.string ⟨#[]⟩), .v (.int .i64 0), .v (.int .i64 0), .v (.int .u64 0), .v (.int .i64 0)]]⟩, some ⟨false, 12, [actC true (argT l e (ar.getD j 0) a i bad).1]⟩]⟩, ⟨(by rw [hE1 (by omega)]; repeat (first | exact .nil | refine .same ?_ | refine .o ?_)), rfl⟩, j + 1, (argT l e (ar.getD j 0) a i bad).2.1, (argT l e (ar.getD j 0) a i bad).2.2, (argT l e (ar.getD j 0) a i bad).1, by omega, hin.2, hg, rfl⟩)
    ·
     simp only [decide_eq_false_iff_not] at a3
     refine tri_exit ?_
     show Tri _ _ _ _
     refine Y3 okS1 rfl (by repeat first | with_reducible exact Y2 | refine Y1 (by simp only [Y5, Y4, Y6, evsA, qev, St.ev, St.put, St.with, D.cell, C.cpy, C.cp, C.dat, Y8, Y7, Bool.and_true, Nat.reduceEqDiff, if_true, if_false, decide_false, beq_self_eq_true, Bool.true_or, callP, callO, dedup, rootsD, rootsC, List.flatMap_cons, List.flatMap_nil, List.filterMap_cons, List.filterMap_nil, Yg, argD, argC, List.contains_nil, objsAt, objOf, List.idxOf?, List.findIdx?, List.findIdx?.go, setObjs, settle, settleDs, FsS1, hM, a3, ZA]; rfl) ?_) ?_
     refine Y3 okS1 rfl (by repeat first | with_reducible exact Y2 | refine Y1 (by simp only [Y5, Y4, Y6, qev, St.ev, St.put, D.cells, qload, Y9, qmk, C.cpy, TK.agg, C.cp, storeA, putCells, Nat.reduceAdd, if_true, ne_eq, reduceCtorEq, Nat.le_refl, tk50, tsz50, false_implies, act_take, act_cpy, act_len, act_cp, act_st, ZA]; rfl) ?_) ?_
     refine Yo (Yp (by simp only [outRes, Yi, resD, outD, qload, Y9, qmk, C.cpy, TK.agg, C.cp, if_true, tk50, tsz50, act_take, act_cpy2, act_len, act_cp, act_out, ZA]; rfl) rfl (by simp) (by simp) ?_)
     simp only [Z12]
     (obtain ⟨m3, rfl⟩ := hm1 (by omega); simp only [formIx, reduceIte, Z7, ↓reduceIte, noText, a1, a2] at hk; rw [List.drop_eq_nil_of_le (by omega)] at hg; simp only [argsGo] at hg; subst hg; with_reducible exact hQs1 hk)
  ·
   refine Y3 okS1 rfl (by repeat first | with_reducible exact Y2 | refine Y1 (by simp only [Y5, Y4, Y6, qev, St.ev, St.put, qpick, qstr, isEq, qeq, qbin, Y8, Y7, if_true, if_false, Bool.not_false, cond_true, reduceCtorEq, tk9, eq_false_of_ne_true a1, ZA]; rfl) ?_) ?_
   refine Yf (b := true) rfl (fun _ => ?_) (fun h => by cases h)
   refine tri_exit ?_
   show Tri _ _ _ _
   refine Yk okS1 rfl (by repeat first | with_reducible exact Y2 | refine Y1 (by simp only [Y5, Y4, Y6, qev, St.ev, St.put, qint, Yc, Ya, qbin, Y8, Y7, if_true, if_false, hq1, show IntKind.i64.wrap (↑(k + 1) : Int) = _ from wrap_i64 _ (by omega) (by omega), ZA]; rfl) ?_) ?_
   simp only []
   (obtain ⟨m3, rfl⟩ := hm1 (by omega); simp only [formIx, reduceIte, Z7, ↓reduceIte, eq_false_of_ne_true a1] at hk; exact ⟨m3, by omega, ⟨[.c (.p 0 0 0), .o, .c (.p 1 0 0), .c (.v (.int .i64 i0)), .c (.v (.string w)), .o, .o, .o, .o, .o, .o, .o, .o, .o, .o, .o, .agg formsC, .c (.v (.int .i64 (k + 1 : Nat))), .o, .o, .o, .o, .o, .o, .o, .o, .o, .o, .o, .o, .o, .o, .o, .o, .o, .o, .o, .o, .o, .o, .o, .o, .o, .o, .o, .o, .o, .o, .o, .o, .o, .o], [some ⟨false, 4, [[.s false 3 (l.map tokC), .v (.int .i64 i1), .v (.int .i64 e), .v (.int .i64 bad1)]]⟩, some ⟨false, 12, [[.v (.int .i64 0), .v (.string ⟨#[]⟩), .v (.int .i64 0), .s true 0 [], .v (.string ⟨#[]⟩), .v (.string ⟨#[]⟩), .s true 0 [], .v (.string ⟨#[]⟩), .v (.int .i64 0), .v (.int .i64 0), .v (.int .u64 0), .v (.int .i64 0)]]⟩]⟩, ⟨by repeat (first | exact .nil | refine .same ?_ | refine .o ?_), rfl⟩, k + 1, by omega, hk, rfl⟩)
 ·
  simp only [decide_eq_false_iff_not] at a0
  refine tri_exit ?_
  show Tri _ _ _ _
  refine Y3 okS1 rfl (by repeat first | with_reducible exact Y2 | refine Y1 (by simp only [Y5, Y4, Y6, qev, St.ev, St.put, D.cells, qnil, Yb, liveR, C.st, C.dat, storeA, putCells, Nat.reduceAdd, if_true, if_false, decide_false, ne_eq, reduceCtorEq, Nat.reduceLeDiff, implies_true, tk80, tsz3, a0, ZA]; rfl) ?_) ?_
  refine Y3 okS1 rfl (by repeat first | with_reducible exact Y2 | refine Y1 (by simp only [Y5, Y4, Y6, evsA, qev, St.ev, St.put, St.with, D.cell, C.dat, Bool.and_true, Nat.reduceEqDiff, if_true, if_false, beq_self_eq_true, Bool.true_or, callP, callO, dedup, rootsD, rootsC, List.flatMap_cons, List.flatMap_nil, List.filterMap_cons, List.filterMap_nil, Yg, argD, argC, List.contains_nil, objsAt, objOf, List.idxOf?, List.findIdx?, List.findIdx?.go, setObjs, settle, settleDs, FsS1, hF0, ZA]; rfl) ?_) ?_
  refine Y3 okS1 rfl (by repeat first | with_reducible exact Y2 | refine Y1 (by simp only [Y5, Y4, Y6, St.ev, St.put, D.cells, C.st, C.dat, storeA, putCells, Nat.reduceAdd, if_true, ne_eq, reduceCtorEq, Nat.le_refl, Nat.reduceBNe, implies_true, buildA, partsA, fillA, tk50, tsz50, tz50, tsz9, tsz3, tsz48, tsz28, tsz37, ZA]; rfl) ?_) ?_
  refine Yo (Yp (by simp only [outRes, Yi, resD, outD, outC, outCs, qload, Y9, qmk, C.cpy, TK.agg, C.cp, C.dat, Nat.reduceAdd, if_true, tk50, tsz50, ZA]; rfl) rfl (by simp) (by simp) ?_)
  simp only [Z12]
  (obtain rfl := hm0 (by omega); simp only [formIx] at hk; exact hQn hk)
end Go.Dl

namespace Go.Dl
open Go.RowKit
open Go.Proofs
set_option linter.unusedSimpArgs false
set_option linter.unusedVariables false
theorem nextF_some (s : ByteArray) (p : Nat) : ∃ r, nextF s p = some r := by
 unfold nextF
 split
 · exact ⟨_, rfl⟩
 split
 · exact ⟨_, rfl⟩
 split
 · split
   · exact ⟨_, rfl⟩
   · exact ⟨_, rfl⟩
 split
 · split
   · exact ⟨_, rfl⟩
   · exact ⟨_, rfl⟩
 split
 · exact ⟨_, rfl⟩
 · exact ⟨_, rfl⟩
def tokOk (n : Nat) (t : Tok) : Prop := t.2.1.size ≤ n ∧ (t.1 = 1 → 0 < t.2.1.size) ∧ 0 ≤ t.2.2
theorem nextF_ok {s : ByteArray} {p : Nat} (hp : p ≤ s.size) {t : Tok} {e : Int} {r : Nat} (h : nextF s p = some (t, true, e, r)) : e = 0 ∧ tokOk s.size t := by
 have hq := blkF_le s p hp
 unfold nextF at h
 generalize blkF s p = q at h hq
 split at h
 · cases h
 · rename_i hne
   have hqs : q < s.size := by omega
   split at h
   · cases h
     have := runF_le isWordC s q hq.2
     exact ⟨rfl, by simp only [ByteArray.size_extract]; omega, (fun h => by simp at h), Int.natCast_nonneg _⟩
   · split at h
     · split at h
       · cases h
       · cases h
         have := runF_le isDigit s (q + 1) hqs
         exact ⟨rfl, by simp only [ByteArray.size_append, ByteArray.size_extract]; omega, fun _ => by simp only [ByteArray.size_append, ByteArray.size_extract]; omega, Int.natCast_nonneg _⟩
     · split at h
       · split at h
         · cases h
           exact ⟨rfl, quoteF_size s q hqs, (fun h => by simp at h), Int.natCast_nonneg _⟩
         · cases h
       · split at h
         · cases h
           exact ⟨rfl, by simp only [ByteArray.size_extract]; omega, (fun h => by simp at h), Int.natCast_nonneg _⟩
         · cases h
theorem toksN_ok : ∀ (n : Nat) (s : ByteArray) (p : Nat) (acc : List Tok), p ≤ s.size → s.size - p < n → (∀ t ∈ acc, tokOk s.size t) → ∃ r, toksN n s p acc = some r ∧ r.1.length ≤ acc.length + (s.size - p) ∧ (∀ t ∈ r.1, tokOk s.size t)
 | 0, s, p, acc, hp, hn, ha => by omega
 | n + 1, s, p, acc, hp, hn, ha => by
  obtain ⟨⟨t, m, e, r⟩, hr⟩ := nextF_some s p
  simp only [toksN, hr, Z8]
  by_cases he : e = 0
  · rw [if_neg (by simp [he])]
    cases m with
    | false => exact ⟨_, rfl, by show acc.length ≤ _; omega, ha⟩
    | true =>
     rw [if_neg (by simp)]
     obtain ⟨g1, g2⟩ := nextF_le hp hr
     have g3 := g2 rfl
     obtain ⟨q, h1, h2, h3⟩ := toksN_ok n s r (acc ++ [t]) g1 (by omega) (by
      intro x hx
      rcases List.mem_append.1 hx with hx | hx
      · exact ha x hx
      · rw [List.mem_singleton.1 hx]; exact (nextF_ok hp hr).2)
     refine ⟨q, h1, ?_, h3⟩
     rw [List.length_append, List.length_singleton] at h2
     omega
  · rw [if_pos he]
    exact ⟨_, rfl, Nat.zero_le _, by intro t ht; cases ht⟩
theorem toksF_ok (s : ByteArray) : ∃ r, toksF s = some r ∧ r.1.length ≤ s.size ∧ (∀ t ∈ r.1, tokOk s.size t) := by
 unfold toksF
 split
 · exact ⟨_, rfl, Nat.zero_le _, by intro t ht; cases ht⟩
 · obtain ⟨r, h1, h2, h3⟩ := toksN_ok (s.size + 1) s 0 [] (Nat.zero_le _) (by omega) (by intro t ht; cases ht)
   exact ⟨r, h1, by simpa using h2, h3⟩
def toksT (s : ByteArray) : List Tok × Int × Int := (toksF s).getD ([], 0, 0)
theorem toksT_eq (s : ByteArray) : toksF s = some (toksT s) := by
 obtain ⟨r, hr, _⟩ := toksF_ok s
 unfold toksT; rw [hr]; rfl
theorem toksT_ok (s : ByteArray) : (toksT s).1.length ≤ s.size ∧ ∀ t ∈ (toksT s).1, tokOk s.size t := by
 obtain ⟨r, hr, h1, h2⟩ := toksF_ok s
 unfold toksT; rw [hr]; exact ⟨h1, h2⟩
theorem toks_pre {s : ByteArray} (hs : s.size ≤ 1000000) {i : Nat} (hi : i ≤ (toksT s).1.length) : okPre (toksT s).1 i s.size := by
 obtain ⟨h1, h2⟩ := toksT_ok s
 exact ⟨⟨by omega, hi, fun t ht => Nat.le_trans (h2 t ht).1 hs⟩, fun t ht hk => (h2 t ht).2.1 hk, Int.natCast_nonneg _, fun t ht => (h2 t ht).2.2⟩
noncomputable def pToksZ : List D → Option D := fun a => (pToks a).map D.frzT
theorem meets11Z : Meets Try.prog 11 (pureS pToksZ) := meets_frzTP meets11
theorem toks_at (s : ByteArray) (hs : s.size ≤ 1000000) : pToksZ [.c (.v (.string s))] = some (.t [.c (.s false 3 ((toksT s).1.map tokC)), .c (.v (.int .i64 (toksT s).2.1)), .c (.v (.int .i64 (toksT s).2.2))]) := by
 unfold pToksZ
 simp only [pToks, if_pos hs, toksT_eq, Z4, D.frzT, Z24, Z13, D.frz, if_pos (toks_cps _)]
theorem step_at {l : List Tok} (i : Nat) (e bad : Int) (h : okPre l i e) : oStep [.c (.p 0 0 0)] [⟨4, [[.s false 3 (l.map tokC), .v (.int .i64 i), .v (.int .i64 e), .v (.int .i64 bad)]]⟩] =
  some (.agg (actC false (stepF l i e bad).1), [⟨4, [[.s false 3 (l.map tokC), .v (.int .i64 (stepF l i e bad).2.1), .v (.int .i64 e), .v (.int .i64 (stepF l i e bad).2.2)]]⟩]) :=
 famO_at (fun x y h => pa_inj4 x y h) (l, i, e, bad) h rfl
theorem form_no : formIx noText 16 0 = none := by kernel_rfl
theorem stepF_in {l : List Tok} {i : Nat} {e bad : Int} (h : okPre l i e) : (i ≤ (stepF l i e bad).2.1 ∧ (stepF l i e bad).2.1 ≤ l.length) ∧ ((stepF l i e bad).2.2 < 0 → i < (stepF l i e bad).2.1) := by
 have hw : (stepW l i e bad).2.1 = i + 1 ∨ (stepW l i e bad).1 = noText := by
  unfold stepW takeF
  split
  · exact .inr rfl
  · split
    · split
      · exact .inl rfl
      · exact .inr rfl
    · exact .inr rfl
 have hj : (stepW l i e bad).2.1 ≤ l.length := takeF_le h.1.2.1
 cases hf : formIx (stepW l i e bad).1 16 0 with
 | none =>
  rw [stepF_none hf]
  have := fail_pos h.2.2 i (stepW l i e bad).2.2
  exact ⟨⟨Nat.le_refl i, h.1.2.1⟩, fun hb => by dsimp only at hb; omega⟩
 | some k =>
  have hw1 : (stepW l i e bad).2.1 = i + 1 := by
   rcases hw with hw | hw
   · exact hw
   · rw [hw, form_no] at hf; cases hf
  obtain ⟨r, hr⟩ : ∃ r, stepA l i e bad k = r := ⟨_, rfl⟩
  rw [stepF_some hf hr]
  have hA := argsGo_in (argsK k) (act0 k) (stepW l i e bad).2.1 (stepW l i e bad).2.2 (h.at hj)
  rw [show argsGo l e (argsK k) (act0 k) (stepW l i e bad).2.1 (stepW l i e bad).2.2 = r from hr] at hA
  have hm := markF_ge l r.2.1 e r.2.2 semi
  have hm2 : (markF l r.2.1 e r.2.2 semi).1 ≤ l.length := markF_le hA.2
  exact ⟨⟨by dsimp only; omega, hm2⟩, fun _ => by dsimp only; omega⟩
/-- The steps of tokens. -/
def scriptN (l : List Tok) (e : Int) : Nat → Nat → Int → List ActM → List ActM × Nat × Int
 | 0, i, bad, acc => (acc, i, bad)
 | n + 1, i, bad, acc => if bad < 0 then (if (i : Int) < (l.length : Int) then scriptN l e n (stepF l i e bad).2.1 (stepF l i e bad).2.2 (acc ++ [(stepF l i e bad).1]) else (acc, i, bad)) else (acc, i, bad)
def scriptP (l : List Tok) (e : Int) : List ActM × Nat × Int := scriptN l e (l.length + 2) 0 (-1) []
/-- The steps of a text, at which byte the first error is, and its number. -/
def scriptF (s : ByteArray) : Option (List ActM) × Int × Int :=
 if ¬ (toksT s).2.2 = 0 then (none, (toksT s).2.1, (toksT s).2.2)
 else if 0 ≤ (scriptP (toksT s).1 s.size).2.2 then (none, (scriptP (toksT s).1 s.size).2.2, 4)
 else (some (scriptP (toksT s).1 s.size).1, 0, 0)
def actsC (l : Option (List ActM)) : C := .s true (l.elim 0 fun _ => 12) (l.elim [] fun l => l.map (actC false))
theorem act_nb (l : List ActM) : rowsNB (l.map (actC false)) = true := nb_map (fun _ => rfl)
theorem act_settle (H : List (Option Root)) (a : ActM) : Yl H (actC false a) = (actC false a, H) := rfl
theorem act_dat2 (a : ActM) : (actC false a).all C.dat = true := rfl
theorem act_nos (r : Nat) (a : ActM) : C.nos r (actC false a) = true := rfl
theorem script_ne {s : ByteArray} (h : ¬ (toksT s).2.2 = 0) : scriptF s = (none, (toksT s).2.1, (toksT s).2.2) := by unfold scriptF; rw [if_pos h]
theorem script_bad {s : ByteArray} (h : (toksT s).2.2 = 0) {r : List ActM × Nat × Int} (hr : scriptP (toksT s).1 s.size = r) (hb : 0 ≤ r.2.2) : scriptF s = (none, r.2.2, 4) := by
 unfold scriptF; rw [if_neg (by simp [h]), hr, if_pos hb]
theorem script_ok {s : ByteArray} (h : (toksT s).2.2 = 0) {r : List ActM × Nat × Int} (hr : scriptP (toksT s).1 s.size = r) (hb : ¬ 0 ≤ r.2.2) : scriptF s = (some r.1, 0, 0) := by
 unfold scriptF; rw [if_neg (by simp [h]), hr, if_neg hb]
noncomputable def FsS2 : Fs := { pure := fun k => if k = 11 then some pToksZ else none, objs := fun k => if k = 47 then some oStep else none }
theorem okS2 : FsOK Try.prog FsS2 := by
 refine ⟨fun k f h => ?_, fun k f h => ?_⟩
 · simp only [FsS2] at h
   split at h
   · rename_i hk; subst hk; cases h; exact ⟨by kernel_rfl, meets11Z⟩
   · cases h
 · simp only [FsS2] at h
   split at h
   · rename_i hk; subst hk; cases h; exact ⟨by kernel_rfl, meets47⟩
   · cases h
noncomputable def pScript : List D → Option D := famP (fun s : ByteArray => s.size ≤ 1000000) (fun s => [.c (.v (.string s))]) (fun s => .t [.c (actsC (scriptF s).1), .c (.v (.int .i64 (scriptF s).2.1)), .c (.v (.int .i64 (scriptF s).2.2))])
set_option maxHeartbeats 2000000 in
theorem meets22 : Meets Try.prog 22 (pureS pScript) := by
 refine Yn (show Try.prog.funcs[22]? = some Try.f22 by kernel_rfl) rfl (n := 57) rfl (rs := [ResultVar.tmp 2, ResultVar.tmp 3, ResultVar.tmp 4]) rfl ?_
 intro s hs Q hQ
 have hT := toks_at s hs
 have hpre : ∀ i : Nat, i ≤ (toksT s).1.length → okPre (toksT s).1 i s.size := fun i hi => toks_pre hs hi
 have hln : (toksT s).1.length ≤ s.size := (toksT_ok s).1
 have hsm : s.size ≤ maxStr := by unfold maxStr; omega
 obtain ⟨res, hres⟩ : ∃ res, scriptP (toksT s).1 s.size = res := ⟨_, rfl⟩
 have hQ0 : ¬ (toksT s).2.2 = 0 → Q (.t [.c (actsC none), .c (.v (.int .i64 (toksT s).2.1)), .c (.v (.int .i64 (toksT s).2.2))]) [] := fun h => by rw [script_ne h] at hQ; exact hQ
 have hQ1 : ∀ a j b, (a, j, b) = res → (toksT s).2.2 = 0 → 0 ≤ b → Q (.t [.c (actsC none), .c (.v (.int .i64 b)), .c (.v (.int .i64 4))]) [] := fun a j b he h h1 => by
  subst he; rw [script_bad h hres h1] at hQ; exact hQ
 have hQ2 : ∀ a j b, (a, j, b) = res → (toksT s).2.2 = 0 → ¬ 0 ≤ b → Q (.t [.c (actsC (some a)), .c (.v (.int .i64 0)), .c (.v (.int .i64 0))]) [] := fun a j b he h h1 => by
  subst he; rw [script_ok h hres h1] at hQ; exact hQ
 clear hQ
 unfold scriptP at hres
 generalize (toksT s).1 = l at hT hpre hres hln
 generalize (toksT s).2.1 = at0 at hT hQ0
 generalize (toksT s).2.2 = e0 at hT hQ0 hQ1 hQ2
 generalize hk0 : l.length + 2 = k0 at hres
 refine Y3 okS2 rfl (by repeat first | with_reducible exact Y2 | refine Y1 (by simp only [Y5, Y4, Y6, qev, St.ev, St.put, Y8, Y7, List.replicate, Nat.reduceSub, ZA]; rfl) ?_) ?_
 refine Y3 okS2 rfl (by repeat first | with_reducible exact Y2 | refine Y1 (by simp only [Y5, Y4, Y6, evsA, qev, St.ev, St.put, St.with, C.cpy, qext, C.cp, C.dat, if_true, Bool.true_or, callP, Yg, argD, argC, settle, settle1, settleC, settleDs, FsS2, hT, ZA]; rfl) ?_) ?_
 refine seq_in ?_
 refine Y3 okS2 rfl (by repeat first | with_reducible exact Y2 | refine Y1 (by simp only [Y5, Y4, Y6, qev, St.ev, St.put, qint, Yc, Ya, qbin, Y8, Y7, if_true, if_false, ZA]; rfl) ?_) ?_
 refine Yf rfl (fun a0 => ?_) (fun a0 => ?_)
 ·
  simp only [decide_eq_false_iff_not, Bool.not_eq_true'] at a0
  refine Y3 okS2 rfl (by repeat first | with_reducible exact Y2 | refine Y1 (by simp only [Y5, Y4, Y6, qev, St.ev, St.put, Y8, Y7, decide_false, Bool.not_false, a0, ZA]; rfl) ?_) ?_
  refine Yo (Yp (by simp only [outRes, Yi, resD, Yh, outD, outC, C.dat, if_true, ZA]; rfl) rfl (by simp) (by simp) ?_)
  (exact hQ0 (by omega))
 ·
  simp only [decide_eq_true_eq, Bool.not_eq_false'] at a0
  refine Ye ?_
  refine Y3 okS2 rfl (by repeat first | with_reducible exact Y2 | refine Y1 (by simp only [Y5, Y4, Y6, qev, St.ev, St.put, St.with, D.cells, boxA, qlen, qbuiltin, C.st, putCells, Y8, Y7, Nat.reduceAdd, if_true, decide_true, Bool.not_true, Nat.reduceLeDiff, Nat.le_refl, Nat.reduceBNe, buildA, partsA, fillA, placeSt, tk80, tz80, a0, tk9, tsz23, tsz3, ZA]; rfl) ?_) ?_
  refine Y3 okS2 rfl (by repeat first | with_reducible exact Y2 | refine Y1 (by simp only [Y5, Y4, Y6, qev, St.ev, St.put, Y8, Y7, ZA]; rfl) ?_) ?_
  refine seq_in (tri_block ?_)
  refine tri_nil 9 12 rfl ?_
  show Tri _ _ _ _
  refine tri_loop_le (fun m A => ∃ (f i : Nat) (bad : Int) (acc : List ActM) (T : List (Option Root)), i ≤ l.length ∧ acc.length ≤ i + 1 ∧ (bad < 0 → acc.length ≤ i) ∧ m = l.length - i + (if bad < 0 then 1 else 0) ∧ m < f ∧ scriptN l s.size f i bad acc = res ∧ A = ⟨[.o, .o, .o, .o, .o, .o, .o, .o, .c (.p 0 0 0), .c (.h 1 0 acc.length), .o, .o, .o, .o, .o, .o, .o, .o, .o, .o, .o, .o, .o, .o, .o, .o, .o, .o, .o, .o, .o, .o, .o, .o, .o, .o, .o, .o, .o, .o, .o, .o, .o, .o, .o, .o, .o, .o, .o, .o, .o, .o, .o, .o, .o, .o, .o], some ⟨false, 4, [[.s false 3 (l.map tokC), .v (.int .i64 i), .v (.int .i64 s.size), .v (.int .i64 bad)]]⟩ :: some ⟨true, 12, acc.map (actC false)⟩ :: T⟩) (l.length + 1) (B := ⟨[.o, .o, .o, .o, .o, .o, .o, .o, .c (.p 0 0 0), .c (.h 1 0 0), .o, .o, .o, .o, .o, .o, .o, .o, .o, .o, .o, .o, .o, .o, .o, .o, .o, .o, .o, .o, .o, .o, .o, .o, .o, .o, .o, .o, .o, .o, .o, .o, .o, .o, .o, .o, .o, .o, .o, .o, .o, .o, .o, .o, .o, .o, .o], some ⟨false, 4, [[.s false 3 (l.map tokC), .v (.int .i64 (0 : Nat)), .v (.int .i64 s.size), .v (.int .i64 (-1))]]⟩ :: some ⟨true, 12, []⟩ :: []⟩) ⟨by repeat (first | exact .nil | refine .same ?_ | refine .o ?_), rfl⟩ ⟨k0, 0, -1, [], [], Nat.zero_le _, by simp, by simp, by simp, by omega, hres, rfl⟩ ?_
  rintro m A ⟨f, i, bad, acc, T, hi, hacc, hacc2, hm, hf, hk, rfl⟩
  obtain ⟨f, rfl⟩ : ∃ f2, f = f2 + 1 := ⟨f - 1, by omega⟩
  simp only [scriptN] at hk
  have hS := step_at i s.size bad (hpre i hi)
  have hin := stepF_in (bad := bad) (hpre i hi)
  have hlm : l.length ≤ maxStr := (by unfold maxStr; omega)
  have ht0 : (acc.map (actC false)).take acc.length = acc.map (actC false) := List.take_of_length_le (by simp)
  have hne : ∀ k : Nat, (k + 1 + 1 != 1) = true := (by intro k; simp)
  have hz : (acc.length + 1) * 160 ≤ 140737488355328 := (by omega)
  refine seq_in ?_
  refine Yj mixed okS2 rfl (by kernel_rfl) ?_
  by_cases a1 : (bad < 0)
  ·
   refine ⟨_, (by repeat first | with_reducible exact Y2 | refine Y1 (by simp only [Y5, Y4, Y6, qev, St.ev, St.put, qload, Y9, qmk, C.cpy, TK.agg, qnil, Yb, qpick, qint, Yc, Ya, qbin, qlen, qbuiltin, liveR, C.cp, Y8, Y7, if_true, if_false, decide_true, cond_true, reduceCtorEq, Nat.add_zero, tk80, hlm, List.length_map, tsz23, tsz3, tk3, eq_true a1, tk23, ZA]; rfl) ?_), ?_⟩
   refine Yf rfl (fun a2 => ?_) (fun a2 => ?_)
   ·
    simp only [decide_eq_true_eq] at a2
    refine Ye ?_
    refine tri_block ?_
    refine Yk okS2 rfl (by repeat first | with_reducible exact Y2 | refine Y1 (by simp only [Y5, Y4, Y6, evsA, qev, St.ev, St.put, St.with, D.cells, D.cell, C.dat, putCells, Bool.and_true, Nat.reduceAdd, Nat.reduceMul, Nat.reduceEqDiff, if_true, if_false, decide_true, ne_eq, reduceCtorEq, Nat.reduceLeDiff, Nat.le_refl, Nat.reduceBNe, bne_self_eq_false, beq_self_eq_true, Bool.true_or, callP, callO, dedup, rootsD, rootsC, List.flatMap_cons, List.flatMap_nil, List.filterMap_cons, List.filterMap_nil, Yg, argD, argC, List.contains_nil, objsAt, objOf, List.idxOf?, List.findIdx?, List.findIdx?.go, setObjs, settle, settle1, FsS2, partsA, fillA, hS, ht0, hne, hz, act_nb, act_settle, act_take, act_cp, act_len, act_st, act_dat2, act_nos, last_get, buildSliceA, partsA, fillA, reps, chop, tkApp, appendA, srcRows, srcOther, D.kill, D.no, C.no, C.kill, killH, Root.kill, a2, tk45, tz50, tsz50, bo50, ZA]; rfl) ?_) ?_
    simp only []
    (simp only [reduceIte, ↓reduceIte, eq_true a1, a2] at hk; exact ⟨l.length - (stepF l i s.size bad).2.1 + (if (stepF l i s.size bad).2.2 < 0 then 1 else 0), (by rw [if_pos (by omega)] at hm; split <;> omega), ⟨[.o, .o, .o, .o, .o, .o, .o, .o, .c (.p 0 0 0), .c (.h 1 0 (acc ++ [(stepF l i s.size bad).1]).length), .o, .o, .o, .o, .o, .o, .o, .o, .o, .o, .o, .o, .o, .o, .o, .o, .o, .o, .o, .o, .o, .o, .o, .o, .o, .o, .o, .o, .o, .o, .o, .o, .o, .o, .o, .o, .o, .o, .o, .o, .o, .o, .o, .o, .o, .o, .o], some ⟨false, 4, [[.s false 3 (l.map tokC), .v (.int .i64 (stepF l i s.size bad).2.1), .v (.int .i64 s.size), .v (.int .i64 (stepF l i s.size bad).2.2)]]⟩ :: some ⟨true, 12, (acc ++ [(stepF l i s.size bad).1]).map (actC false)⟩ :: List.map (fun o => Option.map (Root.kill 1) o) (T ++ [some ⟨true, 12, [actC false (stepF l i s.size bad).1]⟩])⟩, ⟨(by rw [show (acc ++ [(stepF l i s.size bad).1]).length = acc.length + 1 from by simp]; repeat (first | exact .nil | refine .same ?_ | refine .o ?_)), (by rw [show (acc ++ [(stepF l i s.size bad).1]).map (actC false) = acc.map (actC false) ++ [actC false (stepF l i s.size bad).1] from List.map_append, show (acc ++ [(stepF l i s.size bad).1]).length = acc.length + 1 from by simp]; try rfl)⟩, f, (stepF l i s.size bad).2.1, (stepF l i s.size bad).2.2, (acc ++ [(stepF l i s.size bad).1]), _, hin.1.2, (by rw [List.length_append, List.length_singleton]; omega), (by intro hb; have := hin.2 hb; rw [List.length_append, List.length_singleton]; omega), rfl, (by rw [if_pos (by omega)] at hm; split <;> omega), hk, rfl⟩)
   ·
    simp only [decide_eq_false_iff_not] at a2
    refine tri_exit ?_
    show Tri _ _ _ _
    refine seq_in ?_
    refine Y3 okS2 rfl (by repeat first | with_reducible exact Y2 | refine Y1 (by simp only [Y5, Y4, Y6, qev, St.ev, St.put, qload, Y9, qmk, C.cpy, TK.agg, qnil, Yb, qint, Yc, Ya, qbin, liveR, C.cp, Y8, Y7, if_true, if_false, decide_false, reduceCtorEq, tk80, tsz3, tk3, a2, ZA]; rfl) ?_) ?_
    refine Yf rfl (fun a3 => ?_) (fun a3 => ?_)
    ·
     simp only [decide_eq_true_eq] at a3
     (exfalso; omega)
    ·
     simp only [decide_eq_false_iff_not] at a3
     refine Ye ?_
     refine Y3 okS2 rfl (by repeat first | with_reducible exact Y2 | refine Y1 (by simp only [Y5, Y4, Y6, qev, St.ev, St.put, Y8, Y7, decide_false, a3, ZA]; rfl) ?_) ?_
     refine Yo (Yp (by simp only [outRes, Yi, resD, Yh, outD, outC, C.dat, if_true, ne_eq, reduceCtorEq, List.length_map, ZA]; rfl) rfl (by simp) (by simp) ?_)
     (simp only [reduceIte, ↓reduceIte, eq_true a1, a2] at hk; exact hQ2 _ _ _ hk (by omega) (by omega))
  ·
   refine ⟨_, (by repeat first | with_reducible exact Y2 | refine Y1 (by simp only [Y5, Y4, Y6, qev, St.ev, St.put, qload, Y9, qmk, C.cpy, TK.agg, qnil, Yb, qpick, qint, Yc, isEq, Ya, qbin, qlen, qbuiltin, liveR, C.cp, Y8, Y7, Option.bind_none, if_true, if_false, decide_false, cond_false, reduceCtorEq, tk80, tsz23, tsz3, tk3, eq_false a1, ZA]; rfl) ?_), ?_⟩
   refine Yf (b := false) rfl (fun h => by cases h) (fun _ => ?_)
   refine tri_exit ?_
   show Tri _ _ _ _
   refine seq_in ?_
   refine Y3 okS2 rfl (by repeat first | with_reducible exact Y2 | refine Y1 (by simp only [Y5, Y4, Y6, qev, St.ev, St.put, qload, Y9, qmk, C.cpy, TK.agg, qnil, Yb, qint, Yc, Ya, qbin, liveR, C.cp, Y8, Y7, if_true, if_false, reduceCtorEq, tk80, tsz3, tk3, ZA]; rfl) ?_) ?_
   refine Yf rfl (fun a4 => ?_) (fun a4 => ?_)
   ·
    simp only [decide_eq_true_eq] at a4
    refine Yj mixed okS2 rfl (by kernel_rfl) ?_
    refine ⟨_, (by repeat first | with_reducible exact Y2 | refine Y1 (by simp only [Y5, Y4, Y6, qev, St.ev, St.put, qload, Y9, qmk, C.cpy, TK.agg, qnil, Yb, liveR, C.cp, Y8, Y7, if_true, if_false, decide_true, reduceCtorEq, tk80, tsz3, tk3, a4, ZA]; rfl) ?_), ?_⟩
    refine Yo (Yp (by simp only [outRes, Yi, resD, Yh, outD, outC, C.dat, if_true, ZA]; rfl) rfl (by simp) (by simp) ?_)
    (simp only [reduceIte, ↓reduceIte, eq_false a1] at hk; exact hQ1 _ _ _ hk (by omega) (by omega))
   ·
    simp only [decide_eq_false_iff_not] at a4
    (exfalso; omega)
end Go.Dl

namespace Go.Dl
open Go.RowKit
open Go.Proofs
set_option linter.unusedSimpArgs false
set_option linter.unusedVariables false
theorem tick5 : scriptF ⟨#[116, 105, 99, 107, 32, 53, 59]⟩ = (some [{ act0 8 with n := 5 }], 0, 0) := by kernel_rfl
theorem tick0 : scriptF ⟨#[116, 105, 99, 107, 32, 45, 48, 59]⟩ = (none, 5, 4) := by kernel_rfl
theorem script_at (s : ByteArray) (hs : s.size ≤ 1000000) : pScript [.c (.v (.string s))] = some (.t [.c (actsC (scriptF s).1), .c (.v (.int .i64 (scriptF s).2.1)), .c (.v (.int .i64 (scriptF s).2.2))]) :=
 Ym (by
  intro a b h
  simp only [List.cons.injEq, D.c.injEq, C.v.injEq, Value.string.injEq, and_true] at h
  subst h; rfl) s hs rfl
theorem acts_cp (l : List ActM) : ((l.map (actC false)).all fun row => row.all C.cp) = true := by
 rw [List.all_eq_true]
 intro row h
 obtain ⟨x, _, rfl⟩ := List.mem_map.1 h
 exact act_cp x
noncomputable def pScriptZ : List D → Option D := fun a => (pScript a).map D.frzT
theorem meets22Z : Meets Try.prog 22 (pureS pScriptZ) := meets_frzTP meets22
def actsZ (l : Option (List ActM)) : C := .s false (l.elim 0 fun _ => 12) (l.elim [] fun l => l.map (actC false))
theorem scriptZ_at (s : ByteArray) (hs : s.size ≤ 1000000) : pScriptZ [.c (.v (.string s))] = some (.t [.c (actsZ (scriptF s).1), .c (.v (.int .i64 (scriptF s).2.1)), .c (.v (.int .i64 (scriptF s).2.2))]) := by
 unfold pScriptZ
 rw [script_at s hs, Option.map_some]
 have hz : D.frz (.c (actsC (scriptF s).1)) = .c (actsZ (scriptF s).1) := by
  cases (scriptF s).1 with
  | none => rfl
  | some l =>
   exact if_pos (acts_cp l)
 show some (D.t [D.frz _, _, _]) = _
 rw [hz]; rfl
noncomputable def FsW : Fs := { Fs.none with pure := fun k => if k = 22 then some pScriptZ else none }
theorem okW : FsOK Try.prog FsW := by
 refine ⟨fun k f h => ?_, fun _ _ h => (by cases h)⟩
 simp only [FsW] at h
 split at h
 · rename_i hk; subst hk; cases h; exact ⟨by kernel_rfl, meets22Z⟩
 · cases h
def pAwake : List D → Option D
 | [] => some (dB true)
 | _ => none
theorem meets13 : Meets Try.prog 13 (pureS pAwake) := by
 refine meets_of_tri (show Try.prog.funcs[13]? = some Try.f13 by kernel_rfl) rfl (n := 46) rfl (rs := [ResultVar.tmp 0]) rfl ?_
 rintro args objs Q ⟨rfl, d, hd, hQ⟩
 unfold pAwake at hd
 split at hd
 · cases hd
   have h5 := scriptZ_at ⟨#[116, 105, 99, 107, 32, 53, 59]⟩ (by decide)
   have h0 := scriptZ_at ⟨#[116, 105, 99, 107, 32, 45, 48, 59]⟩ (by decide)
   rw [tick5] at h5
   rw [tick0] at h0
   replace h5 : pScriptZ [.c (.v (.string ⟨#[116, 105, 99, 107, 32, 53, 59]⟩))] = some (.t [.c (.s false 12 [[.v (.int .i64 8), .v (.string ⟨#[]⟩), .v (.int .i64 0), .s false 0 [], .v (.string ⟨#[]⟩), .v (.string ⟨#[]⟩), .s false 0 [], .v (.string ⟨#[]⟩), .v (.int .i64 5), .v (.int .i64 0), .v (.int .u64 0), .v (.int .i64 0)]]), .c (.v (.int .i64 0)), .c (.v (.int .i64 0))]) := h5
   replace h0 : pScriptZ [.c (.v (.string ⟨#[116, 105, 99, 107, 32, 45, 48, 59]⟩))] = some (.t [.c (.s false 0 []), .c (.v (.int .i64 5)), .c (.v (.int .i64 4))]) := h0
   have hl1 : (1 : Nat) ≤ maxStr := by decide
   have hc1 : ((1 : Nat) : Int) = 1 := rfl
   have hc0 : ((0 : Nat) : Int) = 0 := rfl
   refine Y3 okW rfl (by repeat first | with_reducible exact Y2 | refine Y1 (by simp only [Y5, Y4, Y6, qev, St.ev, St.put, Y8, Y7, List.set_cons_zero, List.replicate, List.length_nil, List.nil_append, List.map_nil, Option.map_some, Nat.reduceSub, Option.some.injEq]; rfl) ?_) ?_
   refine Y3 okW rfl (by repeat first | with_reducible exact Y2 | refine Y1 (by simp only [Y5, Y4, Y6, evsA, qev, St.ev, St.put, St.with, C.cpy, qext, C.cp, C.dat, Y8, Y7, List.getElem?_cons_zero, List.getElem?_cons_succ, List.set_cons_zero, List.set_cons_succ, List.append_nil, List.map_nil, List.all_cons, List.all_nil, Option.bind_some, Option.map_some, Bool.and_true, if_true, Option.some.injEq, Bool.and_self, Bool.or_false, callP, Fs.none, Yg, argD, argC, D.ni, D.ni1, C.ni, settle, settle1, settleC, settleDs, List.isEmpty_nil, FsW, h5]; rfl) ?_) ?_
   refine Y3 okW rfl (by repeat first | with_reducible exact Y2 | refine Y1 (by simp only [Y5, Y4, Y6, evsA, qev, St.ev, St.put, St.with, C.cpy, qext, C.cp, C.dat, Y8, Y7, List.getElem?_cons_zero, List.getElem?_cons_succ, List.set_cons_zero, List.set_cons_succ, List.append_nil, List.map_nil, List.all_cons, List.all_nil, Option.bind_some, Option.map_some, if_true, Option.some.injEq, Bool.and_self, Bool.or_true, callP, Fs.none, Yg, argD, argC, D.ni, D.ni1, C.ni, settle, settle1, settleC, settleDs, List.isEmpty_nil, FsW, h0]; rfl) ?_) ?_
   refine Y3 okW rfl (by repeat first | with_reducible exact Y2 | refine Y1 (by simp only [Y5, Y4, Y6, qev, St.ev, St.put, D.int, qload, Y9, qmk, C.cpy, TK.agg, Yb, qindexAddr, qpick, qint, Yc, Ya, qbin, qlen, qbuiltin, C.cp, Y8, Y7, List.getElem?_cons_zero, List.getElem?_cons_succ, List.set_cons_zero, List.set_cons_succ, List.length_cons, List.length_nil, List.map_nil, List.map_cons, List.all_cons, List.all_nil, List.take_succ_cons, List.take_zero, List.drop_succ_cons, List.drop_zero, Option.bind_some, Option.map_some, Option.map_none, if_true, if_false, decide_true, cond_true, List.getElem?_toArray, Option.some.injEq, ne_eq, reduceCtorEq, Int.reduceLT, Int.reduceLE, Bool.false_eq_true, Nat.zero_add, Bool.and_self, hl1, hc1, tk50, tsz50, tk45, Int.toNat_zero, tsz3, tk3, ZA]; rfl) ?_) ?_
   refine Yo (Yp (by simp only [outRes, Yi, resD, outD, outC, C.dat, List.getElem?_cons_zero, Option.map_some, if_true, Option.some.injEq]; rfl) rfl (by simp) (by simp) ?_)
   exact hQ
 · cases hd
end Go.Dl

namespace Go.Dl
open Go.RowKit
open Go.Proofs
set_option linter.unusedSimpArgs false
set_option linter.unusedVariables false
def isPlainR (c : Int) : Bool := decide (32 ≤ c) && decide (c ≤ 126) && !decide (c = 34) && !decide (c = 92)
theorem plainR_eq (c : Int) : isPlainR c = isPlain c := by
 unfold isPlainR isPlain
 rw [show decide (c ≤ 126) = decide (c < 127) from by rw [decide_eq_decide]; omega]
theorem meets36 : Meets Try.prog 36 (pureS (pU8 isPlainR)) := by
 refine meets_of_tri (show Try.prog.funcs[36]? = some Try.f36 by kernel_rfl) rfl (n := 17) rfl (rs := [ResultVar.tmp 2]) rfl ?_
 rintro args objs Q ⟨rfl, d, hd, hQ⟩
 unfold pU8 at hd
 split at hd
 · rename_i c
   cases hd
   refine Y3 ok0 rfl (by repeat first | with_reducible exact Y2 | refine Y1 (by simp only [Y5, Y4, Y6, qev, St.ev, St.put, Y8, Y7, List.replicate, Nat.reduceSub, ZA]; rfl) ?_) ?_
   by_cases a0 : (32 ≤ c)
   ·
    by_cases a1 : (c ≤ 126)
    ·
     by_cases a2 : (c = 34)
     ·
      refine Y3 ok0 rfl (by repeat first | with_reducible exact Y2 | refine Y1 (by simp only [Y5, Y4, Y6, qev, St.ev, St.put, qpick, qint, Yc, isEq, qeq, Ya, qbin, Y8, Y7, if_true, if_false, decide_true, Bool.not_true, cond_true, cond_false, eq_true a0, eq_true a1, eq_true a2, ZA]; rfl) ?_) ?_
      refine Yo (Yp (by simp only [outRes, Yi, resD, outD, outC, C.dat, if_true, ZA]; rfl) rfl (by simp) (by simp) ?_)
      (simp only [decide_true, Bool.and_true, Bool.false_and, Bool.and_false, Bool.not_true, isPlainR, dB, eq_true a0, eq_true a1, eq_true a2] at hQ; with_reducible exact hQ)
     ·
      refine Y3 ok0 rfl (by repeat first | with_reducible exact Y2 | refine Y1 (by simp only [Y5, Y4, Y6, qev, St.ev, St.put, qpick, qint, Yc, Ya, qbin, Y8, Y7, if_true, if_false, decide_true, decide_false, Bool.not_false, cond_true, eq_true a0, eq_true a1, eq_false a2, ZA]; rfl) ?_) ?_
      refine Yo (Yp (by simp only [outRes, Yi, resD, outD, outC, C.dat, if_true, ZA]; rfl) rfl (by simp) (by simp) ?_)
      (simp only [decide_true, decide_false, Bool.and_true, Bool.true_and, Bool.not_false, isPlainR, dB, eq_true a0, eq_true a1, eq_false a2] at hQ; with_reducible exact hQ)
    ·
     refine Y3 ok0 rfl (by repeat first | with_reducible exact Y2 | refine Y1 (by simp only [Y5, Y4, Y6, qev, St.ev, St.put, qpick, qint, Yc, isEq, qeq, Ya, qbin, Y8, Y7, if_true, if_false, decide_true, decide_false, cond_true, cond_false, eq_true a0, eq_false a1, ZA]; rfl) ?_) ?_
     refine Yo (Yp (by simp only [outRes, Yi, resD, outD, outC, C.dat, if_true, ZA]; rfl) rfl (by simp) (by simp) ?_)
     (simp only [decide_true, decide_false, Bool.false_and, Bool.and_false, isPlainR, dB, eq_true a0, eq_false a1] at hQ; with_reducible exact hQ)
   ·
    refine Y3 ok0 rfl (by repeat first | with_reducible exact Y2 | refine Y1 (by simp only [Y5, Y4, Y6, qev, St.ev, St.put, qpick, qint, Yc, isEq, qeq, Ya, qbin, Y8, Y7, if_true, if_false, decide_false, cond_false, eq_false a0, ZA]; rfl) ?_) ?_
    refine Yo (Yp (by simp only [outRes, Yi, resD, outD, outC, C.dat, if_true, ZA]; rfl) rfl (by simp) (by simp) ?_)
    (simp only [decide_false, Bool.false_and, isPlainR, dB, eq_false a0] at hQ; with_reducible exact hQ)
 · cases hd
/-- A sign's worth, for the reference. -/
def nibR (c : Int) : Int := if isDigit c = true then c - 48 else if 97 ≤ c then (if c ≤ 102 then c - 87 else -1) else -1
def pCut : List D → Option D
 | [.c (.v (.string s))] => if s.size ≤ maxStr then some (.c (.v (.string (if 500 < (s.size : Int) then s.extract 0 500 else s)))) else none
 | _ => none
theorem meets10 : Meets Try.prog 10 (pureS pCut) := by
 refine meets_of_tri (show Try.prog.funcs[10]? = some Try.f10 by kernel_rfl) rfl (n := 9) rfl (rs := [ResultVar.tmp 2]) rfl ?_
 rintro args objs Q ⟨rfl, d, hd, hQ⟩
 unfold pCut at hd
 split at hd
 · rename_i s
   split at hd
   · rename_i hs
     cases hd
     refine Y3 ok0 rfl (by repeat first | with_reducible exact Y2 | refine Y1 (by simp only [Y5, Y4, Y6, qev, St.ev, St.put, Y8, Y7, List.replicate, Nat.reduceSub, ZA]; rfl) ?_) ?_
     refine seq_in ?_
     refine Y3 ok0 rfl (by repeat first | with_reducible exact Y2 | refine Y1 (by simp only [Y5, Y4, Y6, qev, St.ev, St.put, qint, Yc, Ya, qbin, qlen, qbuiltin, Y8, Y7, if_true, if_false, tk9, ZA]; rfl) ?_) ?_
     refine Yf rfl (fun a0 => ?_) (fun a0 => ?_)
     ·
      simp only [decide_eq_true_eq] at a0
      refine Y3 ok0 rfl (by repeat first | with_reducible exact Y2 | refine Y1 (by simp only [Y5, Y4, Y6, qev, St.ev, St.put, D.int, qbounds, qslice, omap, Y8, Y7, if_true, decide_true, Int.reduceLE, Int.reduceToNat, tk9, a0, show (500 ≤ (↑s.size : Int)) = True from eq_true (by omega), ZA]; rfl) ?_) ?_
      refine Yo (Yp (by simp only [outRes, Yi, resD, outD, outC, C.dat, if_true, ZA]; rfl) rfl (by simp) (by simp) ?_)
      (simp only [reduceIte, ↓reduceIte, a0] at hQ; with_reducible exact hQ)
     ·
      simp only [decide_eq_false_iff_not] at a0
      refine Ye ?_
      refine Y3 ok0 rfl (by repeat first | with_reducible exact Y2 | refine Y1 (by simp only [Y5, Y4, Y6, qev, St.ev, St.put, decide_false, a0, ZA]; rfl) ?_) ?_
      refine Yo (Yp (by simp only [outRes, Yi, resD, outD, outC, C.dat, if_true, ZA]; rfl) rfl (by simp) (by simp) ?_)
      (simp only [reduceIte, ↓reduceIte, a0] at hQ; with_reducible exact hQ)
   · cases hd
 · cases hd
theorem runN_fuel (f : Int → Bool) : ∀ (n m : Nat) (s : ByteArray) (p : Nat), s.size - p < n → s.size - p < m → runN f n s p = runN f m s p
 | 0, m, s, p, h, _ => by omega
 | n + 1, 0, s, p, _, h => by omega
 | n + 1, m + 1, s, p, hn, hm => by
  simp only [runN]
  split
  · rename_i h
    exact runN_fuel f n m s (p + 1) (by omega) (by omega)
  · rfl
theorem runF_go {f : Int → Bool} {s : ByteArray} {p : Nat} (h : p < s.size) (hf : f (byt s p) = true) : runF f s p = runF f s (p + 1) := by
 unfold runF
 rw [show runN f (s.size + 1) s p = runN f s.size s (p + 1) from by simp only [runN]; rw [if_pos ⟨h, hf⟩]]
 exact runN_fuel f _ _ s (p + 1) (by omega) (by omega)
theorem runF_stop {f : Int → Bool} {s : ByteArray} {p : Nat} (h : p < s.size → f (byt s p) = false) : runF f s p = p := by
 unfold runF
 simp only [runN]
 rw [if_neg]
 rintro ⟨h1, h2⟩
 rw [h h1] at h2; cases h2
theorem nibR_in (x : UInt8) : -1 ≤ nibR x.toNat ∧ nibR x.toNat ≤ 15 := by
 have hx := x.toNat_lt
 unfold nibR
 split
 · rename_i h
   simp [isDigit] at h
   omega
 · split
   · split <;> omega
   · omega
theorem plainR_at (c : Int) : pU8 isPlainR [.c (.v (.int .u8 c))] = some (dB (isPlainR c)) := rfl
end Go.Dl

namespace Go.Dl
open Go.RowKit
open Go.Proofs
set_option linter.unusedVariables false
theorem notNL_t {c : Int} (h : ¬ c = 10) : notNL c = true := by simp [notNL, h]
theorem tab_nib : ∀ n : Fin 256, idxB hexT ((n.val : Nat) : Int) = nibR ((n.val : Nat) : Int) := by decide +kernel
theorem idx_nib (x : UInt8) : idxB hexT x.toNat = nibR x.toNat := tab_nib ⟨x.toNat, x.toNat_lt⟩
theorem tab_esc : ∀ a b : Fin 16, escV ((a.val : Nat) : Int) ((b.val : Nat) : Int) = 16 * ((a.val : Nat) : Int) + ((b.val : Nat) : Int) := by decide +kernel
theorem esc_sum {a b : Int} (ha : 0 ≤ a) (ha2 : a ≤ 15) (hb : 0 ≤ b) (hb2 : b ≤ 15) : escV a b = 16 * a + b := by
 obtain ⟨n, rfl⟩ : ∃ n : Nat, a = n := ⟨a.toNat, by omega⟩
 obtain ⟨m, rfl⟩ : ∃ m : Nat, b = m := ⟨b.toNat, by omega⟩
 exact tab_esc ⟨n, by omega⟩ ⟨m, by omega⟩
theorem byU_ext {s : ByteArray} {p j : Nat} (h : p + j < s.size) : (s.extract p s.size).data.toList.getD j 0 = byU s (p + j) := by
 unfold byU
 rw [ByteArray.data_extract, Array.toList_extract, List.extract_eq_take_drop]
 have h' : p + j < s.data.toList.length := by simpa using h
 have h2 : s.data.toList.length = s.size := by simp
 rw [List.getD_eq_getElem?_getD, List.getD_eq_getElem?_getD, List.getElem?_take_of_lt (by omega), List.getElem?_drop]
theorem esc_ok {s : ByteArray} {p : Nat} (h : p + 3 < s.size) : escF (s.extract (p + 2) s.size) = (escV (nibR (byU s (p + 2)).toNat) (nibR (byU s (p + 3)).toNat), decide (0 ≤ nibR (byU s (p + 2)).toNat) && decide (0 ≤ nibR (byU s (p + 3)).toNat)) := by
 have h0 : (s.extract (p + 2) s.size).data.toList.getD 0 0 = byU s (p + 2) := byU_ext (j := 0) (by omega)
 have h1 : (s.extract (p + 2) s.size).data.toList.getD 1 0 = byU s (p + 3) := byU_ext (j := 1) (by omega)
 unfold escF
 rw [if_neg (by rw [ByteArray.size_extract]; omega), h0, h1, idx_nib, idx_nib]
theorem escB_sum {s : ByteArray} {p : Nat} (h : p + 3 < s.size) (h2 : 0 ≤ nibR (byU s (p + 2)).toNat) (h3 : 0 ≤ nibR (byU s (p + 3)).toNat) :
  escB (s.extract (p + 2) s.size) = UInt8.ofNat (16 * nibR (byU s (p + 2)).toNat + nibR (byU s (p + 3)).toNat).toNat ∧ ((escB (s.extract (p + 2) s.size)).toNat : Int) = 16 * nibR (byU s (p + 2)).toNat + nibR (byU s (p + 3)).toNat := by
 have b2 := nibR_in (byU s (p + 2))
 have b3 := nibR_in (byU s (p + 3))
 have he : escB (s.extract (p + 2) s.size) = UInt8.ofNat (16 * nibR (byU s (p + 2)).toNat + nibR (byU s (p + 3)).toNat).toNat := by
  unfold escB; rw [esc_ok h]; dsimp only; rw [esc_sum h2 b2.2 h3 b3.2]
 refine ⟨he, ?_⟩
 rw [he, UInt8.toNat_ofNat']
 omega
theorem byt_byU (s : ByteArray) (p : Nat) : byt s p = ((byU s p).toNat : Int) := rfl
theorem blkN_fuel : ∀ (n m : Nat) (s : ByteArray) (p : Nat), p ≤ s.size → s.size - p < n → s.size - p < m → blkN n s p = blkN m s p
 | 0, m, s, p, hp, h, _ => by omega
 | n + 1, 0, s, p, hp, _, h => by omega
 | n + 1, m + 1, s, p, hp, hn, hm => by
  simp only [blkN]
  split
  · rename_i h
    split
    · exact blkN_fuel n m s (p + 1) (by omega) (by omega) (by omega)
    · split
      · rename_i h35
        have h1 := runF_le notNL s p hp
        have h2 : p < runF notNL s p := runF_gt h (notNL_t (by omega))
        exact blkN_fuel n m s _ h1.2 (by omega) (by omega)
      · rfl
  · rfl
theorem blkF_blank {s : ByteArray} {p : Nat} (h : p < s.size) (hb : isBlank (byt s p) = true) : blkF s p = blkF s (p + 1) := by
 unfold blkF
 rw [show blkN (s.size + 1) s p = blkN s.size s (p + 1) from by simp only [blkN]; rw [if_pos h, if_pos hb]]
 exact blkN_fuel _ _ s (p + 1) h (by omega) (by omega)
theorem blkF_stop {s : ByteArray} {p : Nat} (h : p < s.size → isBlank (byt s p) = false ∧ ¬ byt s p = 35) : blkF s p = p := by
 unfold blkF
 simp only [blkN]
 split
 · rename_i h0
   rw [if_neg (by rw [(h h0).1]; simp), if_neg (h h0).2]
 · rfl
theorem strEq_same (a : ByteArray) : strEq a a = true := by
 unfold strEq
 simp
end Go.Dl
