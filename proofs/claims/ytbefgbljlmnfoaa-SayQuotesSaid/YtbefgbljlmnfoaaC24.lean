/- The walks of the reference's letter, digit, plain, nibble, quote, and of the law's cut. -/
import Derived.Test.YtbefgbljlmnfoaaC22
namespace Go.Dl
open Go.RowKit
open Go.Proofs
set_option linter.unusedSimpArgs false
set_option linter.unusedVariables false

theorem meets29 : Meets Try.prog 29 (pureS (pU8 isLetter)) := by
  refine meets_of_tri (show Try.prog.funcs[29]? = some Try.f29 by kernel_rfl) rfl (n := 21) rfl (rs := [ResultVar.tmp 2]) rfl ?_
  rintro args objs Q ⟨rfl, d, hd, hQ⟩
  unfold pU8 at hd
  split at hd
  · rename_i c
    cases hd
    refine seq_run ok0 rfl (by repeat (first | with_reducible exact runf_nil | refine runf_cons (by simp only [xstep, stepf, stepx, qev, St.ev, St.put, constD, constC, List.set_cons_zero, List.set_cons_succ, List.replicate, List.length_cons, List.length_nil, List.cons_append, List.nil_append, List.map_nil, Option.map_some, Nat.reduceSub, Option.some.injEq, Nat.zero_add]; rfl) ?_)) ?_
    by_cases a0 : (97 ≤ c)
    ·
      by_cases a1 : (c ≤ 122)
      ·
        refine seq_run ok0 rfl (by repeat (first | with_reducible exact runf_nil | refine runf_cons (by simp only [xstep, stepf, stepx, qev, St.ev, St.put, qpick, qint, qshift, isEq, qeq, isShift, qbin, constD, constC, List.getElem?_cons_zero, List.getElem?_cons_succ, List.set_cons_zero, List.set_cons_succ, Option.bind_some, Option.map_some, Option.map_none, if_true, if_false, decide_true, cond_true, List.getElem?_toArray, Option.some.injEq, reduceCtorEq, Bool.false_eq_true, eq_true a0, eq_true a1]; rfl) ?_)) ?_
        refine tri_ret (ends_ret (by simp only [outRes, resDs, resD, outD, outC, C.dat, List.getElem?_cons_zero, List.getElem?_cons_succ, Option.map_some, if_true, Option.some.injEq]; rfl) rfl (by simp) (by simp) ?_)
        (simp only [decide_true, Bool.and_true, Bool.true_or, isLetter, dB, eq_true a0, eq_true a1] at hQ; with_reducible exact hQ)
      ·
        refine seq_run ok0 rfl (by repeat (first | with_reducible exact runf_nil | refine runf_cons (by simp only [xstep, stepf, stepx, qev, St.ev, St.put, qpick, qint, qshift, isShift, qbin, constD, constC, List.getElem?_cons_zero, List.getElem?_cons_succ, List.set_cons_zero, List.set_cons_succ, Option.bind_some, Option.map_some, Option.map_none, if_true, if_false, decide_true, decide_false, cond_true, cond_false, List.getElem?_toArray, Option.some.injEq, Bool.false_eq_true, eq_true a0, eq_false a1, show (65 ≤ c) = True from eq_true (by omega), show (c ≤ 90) = False from eq_false (by omega)]; rfl) ?_)) ?_
        refine tri_ret (ends_ret (by simp only [outRes, resDs, resD, outD, outC, C.dat, List.getElem?_cons_zero, List.getElem?_cons_succ, Option.map_some, if_true, Option.some.injEq]; rfl) rfl (by simp) (by simp) ?_)
        (simp only [isLetter, dB] at hQ; rw [show (decide (97 ≤ c) && decide (c ≤ 122) || decide (65 ≤ c) && decide (c ≤ 90) || decide (c = 95)) = decide (c = 95) from by rw [Bool.eq_iff_iff]; simp; omega] at hQ; exact hQ)
    ·
      by_cases a2 : (65 ≤ c)
      ·
        by_cases a3 : (c ≤ 90)
        ·
          refine seq_run ok0 rfl (by repeat (first | with_reducible exact runf_nil | refine runf_cons (by simp only [xstep, stepf, stepx, qev, St.ev, St.put, qpick, qint, qshift, isEq, qeq, isShift, qbin, constD, constC, List.getElem?_cons_zero, List.getElem?_cons_succ, List.set_cons_zero, List.set_cons_succ, Option.bind_some, Option.map_some, Option.map_none, if_true, if_false, decide_true, decide_false, cond_true, cond_false, List.getElem?_toArray, Option.some.injEq, reduceCtorEq, Bool.false_eq_true, eq_false a0, eq_true a2, eq_true a3]; rfl) ?_)) ?_
          refine tri_ret (ends_ret (by simp only [outRes, resDs, resD, outD, outC, C.dat, List.getElem?_cons_zero, List.getElem?_cons_succ, Option.map_some, if_true, Option.some.injEq]; rfl) rfl (by simp) (by simp) ?_)
          (simp only [decide_true, decide_false, Bool.and_true, Bool.false_and, Bool.or_true, Bool.true_or, isLetter, dB, eq_false a0, eq_true a2, eq_true a3] at hQ; with_reducible exact hQ)
        ·
          refine seq_run ok0 rfl (by repeat (first | with_reducible exact runf_nil | refine runf_cons (by simp only [xstep, stepf, stepx, qev, St.ev, St.put, qpick, qint, qshift, isEq, isShift, qbin, constD, constC, List.getElem?_cons_zero, List.getElem?_cons_succ, List.set_cons_zero, List.set_cons_succ, Option.bind_some, Option.map_some, Option.map_none, if_true, if_false, decide_true, decide_false, cond_true, cond_false, List.getElem?_toArray, Option.some.injEq, Bool.false_eq_true, eq_false a0, eq_true a2, eq_false a3]; rfl) ?_)) ?_
          refine tri_ret (ends_ret (by simp only [outRes, resDs, resD, outD, outC, C.dat, List.getElem?_cons_zero, List.getElem?_cons_succ, Option.map_some, if_true, Option.some.injEq]; rfl) rfl (by simp) (by simp) ?_)
          (simp only [decide_true, decide_false, Bool.false_and, Bool.and_false, Bool.false_or, Bool.or_false, isLetter, dB, eq_false a0, eq_true a2, eq_false a3] at hQ; with_reducible exact hQ)
      ·
        refine seq_run ok0 rfl (by repeat (first | with_reducible exact runf_nil | refine runf_cons (by simp only [xstep, stepf, stepx, qev, St.ev, St.put, qpick, qint, qshift, isEq, isShift, qbin, constD, constC, List.getElem?_cons_zero, List.getElem?_cons_succ, List.set_cons_zero, List.set_cons_succ, Option.bind_some, Option.map_some, Option.map_none, if_true, if_false, decide_false, cond_false, List.getElem?_toArray, Option.some.injEq, Bool.false_eq_true, eq_false a0, eq_false a2]; rfl) ?_)) ?_
        refine tri_ret (ends_ret (by simp only [outRes, resDs, resD, outD, outC, C.dat, List.getElem?_cons_zero, List.getElem?_cons_succ, Option.map_some, if_true, Option.some.injEq]; rfl) rfl (by simp) (by simp) ?_)
        (simp only [decide_false, Bool.false_and, Bool.false_or, Bool.or_false, isLetter, dB, eq_false a0, eq_false a2] at hQ; with_reducible exact hQ)
  · cases hd
theorem meets30 : Meets Try.prog 30 (pureS (pU8 isDigit)) := by
  refine meets_of_tri (show Try.prog.funcs[30]? = some Try.f30 by kernel_rfl) rfl (n := 9) rfl (rs := [ResultVar.tmp 2]) rfl ?_
  rintro args objs Q ⟨rfl, d, hd, hQ⟩
  unfold pU8 at hd
  split at hd
  · rename_i c
    cases hd
    refine seq_run ok0 rfl (by repeat (first | with_reducible exact runf_nil | refine runf_cons (by simp only [xstep, stepf, stepx, qev, St.ev, St.put, constD, constC, List.set_cons_zero, List.set_cons_succ, List.replicate, List.length_cons, List.length_nil, List.cons_append, List.nil_append, List.map_nil, Option.map_some, Nat.reduceSub, Option.some.injEq, Nat.zero_add]; rfl) ?_)) ?_
    by_cases a0 : (48 ≤ c)
    ·
      refine seq_run ok0 rfl (by repeat (first | with_reducible exact runf_nil | refine runf_cons (by simp only [xstep, stepf, stepx, qev, St.ev, St.put, qpick, qint, qshift, isShift, qbin, constD, constC, List.getElem?_cons_zero, List.getElem?_cons_succ, List.set_cons_zero, List.set_cons_succ, Option.bind_some, Option.map_some, Option.map_none, if_true, if_false, decide_true, cond_true, List.getElem?_toArray, Option.some.injEq, Bool.false_eq_true, eq_true a0]; rfl) ?_)) ?_
      refine tri_ret (ends_ret (by simp only [outRes, resDs, resD, outD, outC, C.dat, List.getElem?_cons_zero, List.getElem?_cons_succ, Option.map_some, if_true, Option.some.injEq]; rfl) rfl (by simp) (by simp) ?_)
      (simp only [decide_true, Bool.true_and, isDigit, dB, eq_true a0] at hQ; with_reducible exact hQ)
    ·
      refine seq_run ok0 rfl (by repeat (first | with_reducible exact runf_nil | refine runf_cons (by simp only [xstep, stepf, stepx, qev, St.ev, St.put, qpick, qint, qshift, isEq, isShift, qbin, constD, constC, List.getElem?_cons_zero, List.getElem?_cons_succ, List.set_cons_zero, List.set_cons_succ, Option.bind_some, Option.map_some, Option.map_none, if_true, if_false, decide_false, cond_false, List.getElem?_toArray, Option.some.injEq, Bool.false_eq_true, eq_false a0]; rfl) ?_)) ?_
      refine tri_ret (ends_ret (by simp only [outRes, resDs, resD, outD, outC, C.dat, List.getElem?_cons_zero, List.getElem?_cons_succ, Option.map_some, if_true, Option.some.injEq]; rfl) rfl (by simp) (by simp) ?_)
      (simp only [decide_false, Bool.false_and, isDigit, dB, eq_false a0] at hQ; with_reducible exact hQ)
  · cases hd
def isPlainR (c : Int) : Bool := decide (32 ≤ c) && decide (c ≤ 126) && !decide (c = 34) && !decide (c = 92)
theorem plainR_eq (c : Int) : isPlainR c = isPlain c := by
  unfold isPlainR isPlain
  rw [show decide (c ≤ 126) = decide (c < 127) from by rw [decide_eq_decide]; omega]
theorem meets36 : Meets Try.prog 36 (pureS (pU8 isPlainR)) := by
  refine meets_of_tri (show Try.prog.funcs[36]? = some Try.f36 by kernel_rfl) rfl (n := 17) rfl (rs := [ResultVar.tmp 2]) rfl ?_
  rintro args objs Q ⟨rfl, d, hd, hQ⟩
  unfold pU8 at hd
  split at hd
  · rename_i c
    cases hd
    refine seq_run ok0 rfl (by repeat (first | with_reducible exact runf_nil | refine runf_cons (by simp only [xstep, stepf, stepx, qev, St.ev, St.put, constD, constC, List.set_cons_zero, List.set_cons_succ, List.replicate, List.length_cons, List.length_nil, List.cons_append, List.nil_append, List.map_nil, Option.map_some, Nat.reduceSub, Option.some.injEq, Nat.zero_add]; rfl) ?_)) ?_
    by_cases a0 : (32 ≤ c)
    ·
      by_cases a1 : (c ≤ 126)
      ·
        by_cases a2 : (c = 34)
        ·
          refine seq_run ok0 rfl (by repeat (first | with_reducible exact runf_nil | refine runf_cons (by simp only [xstep, stepf, stepx, qev, St.ev, St.put, qpick, qint, qshift, isEq, qeq, isShift, qbin, constD, constC, List.getElem?_cons_zero, List.getElem?_cons_succ, List.set_cons_zero, List.set_cons_succ, Option.bind_some, Option.map_some, Option.map_none, if_true, if_false, decide_true, Bool.not_true, cond_true, cond_false, List.getElem?_toArray, Option.some.injEq, Bool.false_eq_true, eq_true a0, eq_true a1, eq_true a2]; rfl) ?_)) ?_
          refine tri_ret (ends_ret (by simp only [outRes, resDs, resD, outD, outC, C.dat, List.getElem?_cons_zero, List.getElem?_cons_succ, Option.map_some, if_true, Option.some.injEq]; rfl) rfl (by simp) (by simp) ?_)
          (simp only [decide_true, Bool.and_true, Bool.false_and, Bool.and_false, Bool.not_true, isPlainR, dB, eq_true a0, eq_true a1, eq_true a2] at hQ; with_reducible exact hQ)
        ·
          refine seq_run ok0 rfl (by repeat (first | with_reducible exact runf_nil | refine runf_cons (by simp only [xstep, stepf, stepx, qev, St.ev, St.put, qpick, qint, qshift, isShift, qbin, constD, constC, List.getElem?_cons_zero, List.getElem?_cons_succ, List.set_cons_zero, List.set_cons_succ, Option.bind_some, Option.map_some, Option.map_none, if_true, if_false, decide_true, decide_false, Bool.not_false, cond_true, List.getElem?_toArray, Option.some.injEq, Bool.false_eq_true, eq_true a0, eq_true a1, eq_false a2]; rfl) ?_)) ?_
          refine tri_ret (ends_ret (by simp only [outRes, resDs, resD, outD, outC, C.dat, List.getElem?_cons_zero, List.getElem?_cons_succ, Option.map_some, if_true, Option.some.injEq]; rfl) rfl (by simp) (by simp) ?_)
          (simp only [decide_true, decide_false, Bool.and_true, Bool.true_and, Bool.not_false, isPlainR, dB, eq_true a0, eq_true a1, eq_false a2] at hQ; with_reducible exact hQ)
      ·
        refine seq_run ok0 rfl (by repeat (first | with_reducible exact runf_nil | refine runf_cons (by simp only [xstep, stepf, stepx, qev, St.ev, St.put, qpick, qint, qshift, isEq, qeq, isShift, qbin, constD, constC, List.getElem?_cons_zero, List.getElem?_cons_succ, List.set_cons_zero, List.set_cons_succ, Option.bind_some, Option.map_some, Option.map_none, if_true, if_false, decide_true, decide_false, cond_true, cond_false, List.getElem?_toArray, Option.some.injEq, Bool.false_eq_true, eq_true a0, eq_false a1]; rfl) ?_)) ?_
        refine tri_ret (ends_ret (by simp only [outRes, resDs, resD, outD, outC, C.dat, List.getElem?_cons_zero, List.getElem?_cons_succ, Option.map_some, if_true, Option.some.injEq]; rfl) rfl (by simp) (by simp) ?_)
        (simp only [decide_true, decide_false, Bool.false_and, Bool.and_false, isPlainR, dB, eq_true a0, eq_false a1] at hQ; with_reducible exact hQ)
    ·
      refine seq_run ok0 rfl (by repeat (first | with_reducible exact runf_nil | refine runf_cons (by simp only [xstep, stepf, stepx, qev, St.ev, St.put, qpick, qint, qshift, isEq, qeq, isShift, qbin, constD, constC, List.getElem?_cons_zero, List.getElem?_cons_succ, List.set_cons_zero, List.set_cons_succ, Option.bind_some, Option.map_some, Option.map_none, if_true, if_false, decide_false, cond_false, List.getElem?_toArray, Option.some.injEq, Bool.false_eq_true, eq_false a0]; rfl) ?_)) ?_
      refine tri_ret (ends_ret (by simp only [outRes, resDs, resD, outD, outC, C.dat, List.getElem?_cons_zero, List.getElem?_cons_succ, Option.map_some, if_true, Option.some.injEq]; rfl) rfl (by simp) (by simp) ?_)
      (simp only [decide_false, Bool.false_and, isPlainR, dB, eq_false a0] at hQ; with_reducible exact hQ)
  · cases hd
noncomputable def FsT1 : Fs := { Fs.none with pure := fun k => if k = 30 then some (pU8 isDigit) else none }
theorem okT1 : FsOK Try.prog FsT1 := by
  refine ⟨fun k f h => ?_, fun _ _ h => (by cases h)⟩
  simp only [FsT1] at h
  split at h
  · rename_i hk; subst hk; cases h; exact ⟨by kernel_rfl, meets30⟩
  · cases h
/-- A sign's worth, for the reference. -/
def nibR (c : Int) : Int := if isDigit c = true then c - 48 else if 97 ≤ c then (if c ≤ 102 then c - 87 else -1) else -1
noncomputable def pNibR : List D → Option D := famP (fun x : UInt8 => True) (fun x => [.c (.v (.int .u8 x.toNat))]) (fun x => dI (nibR x.toNat))
theorem meets59 : Meets Try.prog 59 (pureS pNibR) := by
  refine meets_famP (show Try.prog.funcs[59]? = some Try.f59 by kernel_rfl) rfl (n := 17) rfl (rs := [ResultVar.tmp 2]) rfl ?_
  intro x _ Q hQ
  have hx := x.toNat_lt
  generalize hc : ((x.toNat : Nat) : Int) = c at hQ ⊢
  have h0 : 0 ≤ c := by omega
  have h1 : c ≤ 255 := by omega
  have hd : isDigit c = true → 48 ≤ c ∧ c ≤ 57 := by simp [isDigit]
  by_cases hdg : isDigit c = true
  · obtain ⟨d1, d2⟩ := hd hdg
    refine seq_run okT1 rfl (by repeat (first | with_reducible exact runf_nil | refine runf_cons (by simp only [xstep, stepf, stepx, qev, St.ev, St.put, constD, constC, List.set_cons_zero, List.set_cons_succ, List.replicate, List.length_cons, List.length_nil, List.cons_append, List.nil_append, Option.map_some, Nat.reduceSub, Option.some.injEq, Nat.zero_add]; rfl) ?_)) ?_
    refine seq_in ?_
    refine seq_run okT1 rfl (by repeat (first | with_reducible exact runf_nil | refine runf_cons (by simp only [xstep, stepf, stepx, evsA, qev, St.ev, St.put, St.with, C.cpy, C.cp, C.dat, List.getElem?_cons_zero, List.getElem?_cons_succ, List.set_cons_zero, List.set_cons_succ, List.append_nil, List.map_nil, Option.map_some, if_true, Option.some.injEq, Bool.and_self, Bool.or_true, callP, Fs.none, argDs, argD, argC, D.ni, D.ni1, C.ni, settle, settle1, settleC, List.isEmpty_nil, FsT1, digit_at, hdg]; rfl) ?_)) ?_
    refine tri_cond (b := true) rfl (fun _ => ?_) (fun h => by cases h)
    refine seq_run okT1 rfl (by repeat (first | with_reducible exact runf_nil | refine runf_cons (by simp only [xstep, stepf, stepx, qev, St.ev, St.put, qint, qshift, isShift, qbin, qconv, constD, constC, List.getElem?_cons_zero, List.getElem?_cons_succ, List.set_cons_zero, List.set_cons_succ, Option.bind_some, Option.map_some, Option.map_none, if_true, if_false, Option.some.injEq, Bool.false_eq_true, tk3, tk5, show IntKind.i64.wrap c = _ from wrap_i64 _ (by omega) (by omega), show IntKind.i64.wrap (c - 48) = _ from wrap_i64 _ (by omega) (by omega)]; rfl) ?_)) ?_
    refine tri_ret (ends_ret (by simp only [outRes, resDs, resD, outD, outC, C.dat, List.getElem?_cons_zero, List.getElem?_cons_succ, Option.map_some, if_true, Option.some.injEq]; rfl) rfl (by simp) (by simp) ?_)
    (simp only [reduceIte, ↓reduceIte, nibR, dI, hdg] at hQ; with_reducible exact hQ)
  · have hdf : isDigit c = false := by simpa using hdg
    refine seq_run okT1 rfl (by repeat (first | with_reducible exact runf_nil | refine runf_cons (by simp only [xstep, stepf, stepx, qev, St.ev, St.put, constD, constC, List.set_cons_zero, List.set_cons_succ, List.replicate, List.length_cons, List.length_nil, List.cons_append, List.nil_append, Option.map_some, Nat.reduceSub, Option.some.injEq, Nat.zero_add]; rfl) ?_)) ?_
    refine seq_in ?_
    refine seq_run okT1 rfl (by repeat (first | with_reducible exact runf_nil | refine runf_cons (by simp only [xstep, stepf, stepx, evsA, qev, St.ev, St.put, St.with, C.cpy, C.cp, C.dat, List.getElem?_cons_zero, List.getElem?_cons_succ, List.set_cons_zero, List.set_cons_succ, List.append_nil, List.map_nil, Option.map_some, if_true, Option.some.injEq, Bool.and_self, Bool.or_true, callP, Fs.none, argDs, argD, argC, D.ni, D.ni1, C.ni, settle, settle1, settleC, List.isEmpty_nil, FsT1, digit_at, hdf]; rfl) ?_)) ?_
    refine tri_cond (b := false) rfl (fun h => by cases h) (fun _ => ?_)
    refine then_skip ?_
    refine seq_in ?_
    by_cases a0 : (97 ≤ c)
    ·
      refine seq_run okT1 rfl (by repeat (first | with_reducible exact runf_nil | refine runf_cons (by simp only [xstep, stepf, stepx, qev, St.ev, St.put, qpick, qint, qshift, isShift, qbin, constD, constC, List.getElem?_cons_zero, List.getElem?_cons_succ, List.set_cons_zero, List.set_cons_succ, Option.bind_some, Option.map_some, Option.map_none, if_true, if_false, decide_true, cond_true, List.getElem?_toArray, Option.some.injEq, Bool.false_eq_true, eq_true a0]; rfl) ?_)) ?_
      refine tri_cond rfl (fun a1 => ?_) (fun a1 => ?_)
      ·
        simp only [decide_eq_true_eq] at a1
        refine seq_run okT1 rfl (by repeat (first | with_reducible exact runf_nil | refine runf_cons (by simp only [xstep, stepf, stepx, qev, St.ev, St.put, qint, qshift, isShift, qbin, qconv, constD, constC, List.getElem?_cons_zero, List.getElem?_cons_succ, List.set_cons_zero, List.set_cons_succ, Option.bind_some, Option.map_some, Option.map_none, if_true, if_false, decide_true, Option.some.injEq, Bool.false_eq_true, a1, tk3, tk5, show IntKind.i64.wrap c = _ from wrap_i64 _ (by omega) (by omega), show IntKind.i64.wrap (c - 87) = _ from wrap_i64 _ (by omega) (by omega)]; rfl) ?_)) ?_
        refine tri_ret (ends_ret (by simp only [outRes, resDs, resD, outD, outC, C.dat, List.getElem?_cons_zero, List.getElem?_cons_succ, Option.map_some, if_true, Option.some.injEq]; rfl) rfl (by simp) (by simp) ?_)
        (simp only [reduceIte, Bool.false_eq_true, ↓reduceIte, nibR, dI, hdf, eq_true a0, a1] at hQ; with_reducible exact hQ)
      ·
        simp only [decide_eq_false_iff_not] at a1
        refine then_skip ?_
        refine seq_run okT1 rfl (by repeat (first | with_reducible exact runf_nil | refine runf_cons (by simp only [xstep, stepf, stepx, qev, St.ev, St.put, constD, constC, List.set_cons_zero, List.set_cons_succ, Option.map_some, decide_false, Option.some.injEq, a1]; rfl) ?_)) ?_
        refine tri_ret (ends_ret (by simp only [outRes, resDs, resD, outD, outC, C.dat, List.getElem?_cons_zero, List.getElem?_cons_succ, Option.map_some, if_true, Option.some.injEq]; rfl) rfl (by simp) (by simp) ?_)
        (simp only [reduceIte, Bool.false_eq_true, ↓reduceIte, Int.reduceNeg, nibR, dI, hdf, eq_true a0, a1] at hQ; with_reducible exact hQ)
    ·
      refine seq_run okT1 rfl (by repeat (first | with_reducible exact runf_nil | refine runf_cons (by simp only [xstep, stepf, stepx, qev, St.ev, St.put, qpick, qint, qshift, isEq, isShift, qbin, constD, constC, List.getElem?_cons_zero, List.getElem?_cons_succ, List.set_cons_zero, List.set_cons_succ, Option.bind_some, Option.map_some, Option.map_none, if_true, if_false, decide_false, cond_false, List.getElem?_toArray, Option.some.injEq, Bool.false_eq_true, eq_false a0]; rfl) ?_)) ?_
      refine tri_cond (b := false) rfl (fun h => by cases h) (fun _ => ?_)
      refine then_skip ?_
      refine seq_run okT1 rfl (by repeat (first | with_reducible exact runf_nil | refine runf_cons (by simp only [xstep, stepf, stepx, qev, St.ev, St.put, constD, constC, List.set_cons_zero, List.set_cons_succ, Option.map_some, Option.some.injEq]; rfl) ?_)) ?_
      refine tri_ret (ends_ret (by simp only [outRes, resDs, resD, outD, outC, C.dat, List.getElem?_cons_zero, List.getElem?_cons_succ, Option.map_some, if_true, Option.some.injEq]; rfl) rfl (by simp) (by simp) ?_)
      (simp only [reduceIte, Bool.false_eq_true, ↓reduceIte, Int.reduceNeg, nibR, dI, hdf, eq_false a0] at hQ; with_reducible exact hQ)
theorem nibR_at (x : UInt8) : pNibR [.c (.v (.int .u8 x.toNat))] = some (dI (nibR x.toNat)) :=
  famP_at (fun a b h => by
    simp only [List.cons.injEq, D.c.injEq, C.v.injEq, Value.int.injEq, and_true, true_and] at h
    rw [show ((a.toNat : Nat) : Int) = b.toNat from h]) x trivial rfl

def pCut : List D → Option D
  | [.c (.v (.string s))] => if s.size ≤ maxStr then some (.c (.v (.string (if 500 < (s.size : Int) then s.extract 0 500 else s)))) else none
  | _ => none
theorem meets10 : Meets Try.prog 10 (pureS pCut) := by
  refine meets_of_tri (show Try.prog.funcs[10]? = some Try.f10 by kernel_rfl) rfl (n := 9) rfl (rs := [ResultVar.tmp 2]) rfl ?_
  rintro args objs Q ⟨rfl, d, hd, hQ⟩
  unfold pCut at hd
  split at hd
  · rename_i s
    split at hd
    · rename_i hs
      cases hd
      refine seq_run ok0 rfl (by repeat (first | with_reducible exact runf_nil | refine runf_cons (by simp only [xstep, stepf, stepx, qev, St.ev, St.put, constD, constC, List.set_cons_zero, List.set_cons_succ, List.replicate, List.length_cons, List.length_nil, List.cons_append, List.nil_append, List.map_nil, Option.map_some, Nat.reduceSub, Option.some.injEq, Nat.zero_add]; rfl) ?_)) ?_
      refine seq_in ?_
      refine seq_run ok0 rfl (by repeat (first | with_reducible exact runf_nil | refine runf_cons (by simp only [xstep, stepf, stepx, qev, St.ev, St.put, qint, qshift, isShift, qbin, qlen, qbuiltin, constD, constC, List.getElem?_cons_zero, List.getElem?_cons_succ, List.set_cons_zero, List.set_cons_succ, Option.bind_some, Option.map_some, Option.map_none, if_true, if_false, Option.some.injEq, Bool.false_eq_true, tk9]; rfl) ?_)) ?_
      refine tri_cond rfl (fun a0 => ?_) (fun a0 => ?_)
      ·
        simp only [decide_eq_true_eq] at a0
        refine seq_run ok0 rfl (by repeat (first | with_reducible exact runf_nil | refine runf_cons (by simp only [xstep, stepf, stepx, qev, St.ev, St.put, D.int, qbounds, qslice, omap, constD, constC, List.getElem?_cons_zero, List.getElem?_cons_succ, List.set_cons_zero, List.set_cons_succ, Option.bind_some, Option.map_some, if_true, and_self, decide_true, Option.some.injEq, Int.reduceLE, Int.reduceToNat, tk9, a0, show (500 ≤ (↑s.size : Int)) = True from eq_true (by omega)]; rfl) ?_)) ?_
        refine tri_ret (ends_ret (by simp only [outRes, resDs, resD, outD, outC, C.dat, List.getElem?_cons_zero, List.getElem?_cons_succ, Option.map_some, if_true, Option.some.injEq]; rfl) rfl (by simp) (by simp) ?_)
        (simp only [reduceIte, ↓reduceIte, a0] at hQ; with_reducible exact hQ)
      ·
        simp only [decide_eq_false_iff_not] at a0
        refine then_skip ?_
        refine seq_run ok0 rfl (by repeat (first | with_reducible exact runf_nil | refine runf_cons (by simp only [xstep, stepf, stepx, qev, St.ev, St.put, List.getElem?_cons_zero, List.getElem?_cons_succ, List.set_cons_zero, List.set_cons_succ, Option.map_some, decide_false, Option.some.injEq, a0]; rfl) ?_)) ?_
        refine tri_ret (ends_ret (by simp only [outRes, resDs, resD, outD, outC, C.dat, List.getElem?_cons_zero, List.getElem?_cons_succ, Option.map_some, if_true, Option.some.injEq]; rfl) rfl (by simp) (by simp) ?_)
        (simp only [reduceIte, ↓reduceIte, a0] at hQ; with_reducible exact hQ)
    · cases hd
  · cases hd

theorem runN_fuel (f : Int → Bool) : ∀ (n m : Nat) (s : ByteArray) (p : Nat), s.size - p < n → s.size - p < m → runN f n s p = runN f m s p
  | 0, m, s, p, h, _ => by omega
  | n + 1, 0, s, p, _, h => by omega
  | n + 1, m + 1, s, p, hn, hm => by
    simp only [runN]
    split
    · rename_i h
      exact runN_fuel f n m s (p + 1) (by omega) (by omega)
    · rfl
theorem runF_go {f : Int → Bool} {s : ByteArray} {p : Nat} (h : p < s.size) (hf : f (byt s p) = true) : runF f s p = runF f s (p + 1) := by
  unfold runF
  rw [show runN f (s.size + 1) s p = runN f s.size s (p + 1) from by simp only [runN]; rw [if_pos ⟨h, hf⟩]]
  exact runN_fuel f _ _ s (p + 1) (by omega) (by omega)
theorem runF_stop {f : Int → Bool} {s : ByteArray} {p : Nat} (h : p < s.size → f (byt s p) = false) : runF f s p = p := by
  unfold runF
  simp only [runN]
  rw [if_neg]
  rintro ⟨h1, h2⟩
  rw [h h1] at h2; cases h2

/-- A quote's text, for the reference, and where it ends; below 0: it is none. -/
def quoteR : Nat → ByteArray → Nat → ByteArray → ByteArray × Int
  | 0, _, _, _ => (noText, -1)
  | n + 1, s, i, acc => if (i : Int) < (s.size : Int) then
      (if ((byU s i).toNat : Int) = 34 then (acc, ((i + 1 : Nat) : Int))
      else if isPlainR (byU s i).toNat = true then quoteR n s (i + 1) (acc ++ s.extract i (i + 1))
      else if ((byU s i).toNat : Int) = 92 then
        (if (s.size : Int) ≤ ((i + 3 : Nat) : Int) then (noText, -1)
        else if ((byU s (i + 1)).toNat : Int) = 120 then
          (if nibR (byU s (i + 2)).toNat < 0 then (noText, -1)
          else if nibR (byU s (i + 3)).toNat < 0 then (noText, -1)
          else if isPlainR (16 * nibR (byU s (i + 2)).toNat + nibR (byU s (i + 3)).toNat) = true then (noText, -1)
          else quoteR n s (i + 4) (acc ++ ⟨#[UInt8.ofNat (16 * nibR (byU s (i + 2)).toNat + nibR (byU s (i + 3)).toNat).toNat]⟩))
        else (noText, -1))
      else (noText, -1))
    else (noText, -1)
def quoteRF (s : ByteArray) (p : Nat) : ByteArray × Int := quoteR (s.size + 1) s (p + 1) noText
theorem nibR_in (x : UInt8) : -1 ≤ nibR x.toNat ∧ nibR x.toNat ≤ 15 := by
  have hx := x.toNat_lt
  unfold nibR
  split
  · rename_i h
    simp [isDigit] at h
    omega
  · split
    · split <;> omega
    · omega
theorem plainR_at (c : Int) : pU8 isPlainR [.c (.v (.int .u8 c))] = some (dB (isPlainR c)) := rfl
noncomputable def FsT2 : Fs := { Fs.none with pure := fun k => if k = 36 then some (pU8 isPlainR) else if k = 59 then some pNibR else none }
theorem okT2 : FsOK Try.prog FsT2 := by
  refine ⟨fun k f h => ?_, fun _ _ h => (by cases h)⟩
  simp only [FsT2] at h
  split at h
  · rename_i hk; subst hk; cases h; exact ⟨by kernel_rfl, meets36⟩
  split at h
  · rename_i hk; subst hk; cases h; exact ⟨by kernel_rfl, meets59⟩
  · cases h
noncomputable def pQuoteR : List D → Option D := famP (fun x : ByteArray × Nat => x.1.size ≤ 1000000 ∧ x.2 < x.1.size) (fun x => [.c (.v (.string x.1)), .c (.v (.int .i64 x.2))]) (fun x => .t [.c (.v (.string (quoteRF x.1 x.2).1)), .c (.v (.int .i64 (quoteRF x.1 x.2).2))])
set_option maxHeartbeats 2000000 in
theorem meets31 : Meets Try.prog 31 (pureS pQuoteR) := by
  refine meets_famP (show Try.prog.funcs[31]? = some Try.f31 by kernel_rfl) rfl (n := 91) rfl (rs := [ResultVar.tmp 4, ResultVar.tmp 5]) rfl ?_
  rintro ⟨s, p⟩ ⟨hs, hp⟩ Q hQ
  dsimp only at hs hp hQ
  have hsm : s.size ≤ maxStr := by unfold maxStr; omega
  have hq0 : (p : Int) + 1 = ((p + 1 : Nat) : Int) := by omega
  obtain ⟨res, hres⟩ : ∃ res, quoteR (s.size + 1) s (p + 1) noText = res := ⟨_, rfl⟩
  unfold quoteRF at hQ
  rw [hres] at hQ
  have hQ2 : ∀ a b, (a, b) = res → Q (.t [.c (.v (.string a)), .c (.v (.int .i64 b))]) [] := by
    intro a b h; subst h; exact hQ
  clear hQ
  refine seq_run okT2 rfl (by repeat (first | with_reducible exact runf_nil | refine runf_cons (by simp only [xstep, stepf, stepx, qev, St.ev, St.put, constD, constC, List.set_cons_zero, List.set_cons_succ, List.replicate, List.length_cons, List.length_nil, List.cons_append, List.nil_append, Option.map_some, Nat.reduceAdd, Nat.reduceSub, Option.some.injEq, Nat.zero_add]; rfl) ?_)) ?_
  refine seq_run okT2 rfl (by repeat (first | with_reducible exact runf_nil | refine runf_cons (by simp only [xstep, stepf, stepx, qev, St.ev, St.put, constD, constC, List.set_cons_zero, List.set_cons_succ, Option.map_some, Option.some.injEq]; rfl) ?_)) ?_
  refine seq_run okT2 rfl (by repeat (first | with_reducible exact runf_nil | refine runf_cons (by simp only [xstep, stepf, stepx, qev, St.ev, St.put, qint, qshift, isShift, qbin, constD, constC, List.getElem?_cons_zero, List.getElem?_cons_succ, List.set_cons_zero, List.set_cons_succ, Option.map_some, Option.map_none, if_true, if_false, Option.some.injEq, Bool.false_eq_true, hq0, show IntKind.i64.wrap (↑(p + 1) : Int) = _ from wrap_i64 _ (by omega) (by omega)]; rfl) ?_)) ?_
  refine seq_in (tri_block ?_)
  refine tri_loop_le (fun m A => ∃ (f i : Nat) (acc : ByteArray) (T : List (Option Root)), i ≤ s.size ∧ acc.size ≤ i ∧ m = s.size - i ∧ m < f ∧ quoteR f s i acc = res ∧ A = ⟨[.c (.v (.string s)), .c (.v (.int .i64 p)), .top, .top, .c (.v (.string ⟨#[]⟩)), .c (.v (.int .i64 0)), .c (.v (.string acc)), .c (.v (.int .i64 i)), .top, .top, .top, .top, .top, .top, .top, .top, .top, .top, .top, .top, .top, .top, .top, .top, .top, .top, .top, .top, .top, .top, .top, .top, .top, .top, .top, .top, .top, .top, .top, .top, .top, .top, .top, .top, .top, .top, .top, .top, .top, .top, .top, .top, .top, .top, .top, .top, .top, .top, .top, .top, .top, .top, .top, .top, .top, .top, .top, .top, .top, .top, .top, .top, .top, .top, .top, .top, .top, .top, .top, .top, .top, .top, .top, .top, .top, .top, .top, .top, .top, .top, .top], T⟩) (s.size - (p + 1)) (B := ⟨[.c (.v (.string s)), .c (.v (.int .i64 p)), .top, .top, .c (.v (.string ⟨#[]⟩)), .c (.v (.int .i64 0)), .c (.v (.string ⟨#[]⟩)), .c (.v (.int .i64 (p + 1 : Nat))), .top, .top, .top, .top, .top, .top, .top, .top, .top, .top, .top, .top, .top, .top, .top, .top, .top, .top, .top, .top, .top, .top, .top, .top, .top, .top, .top, .top, .top, .top, .top, .top, .top, .top, .top, .top, .top, .top, .top, .top, .top, .top, .top, .top, .top, .top, .top, .top, .top, .top, .top, .top, .top, .top, .top, .top, .top, .top, .top, .top, .top, .top, .top, .top, .top, .top, .top, .top, .top, .top, .top, .top, .top, .top, .top, .top, .top, .top, .top, .top, .top, .top, .top], []⟩) ⟨by repeat (first | exact .nil | refine .same ?_ | refine .top ?_), rfl⟩ ⟨s.size + 1, p + 1, ⟨#[]⟩, [], hp, Nat.zero_le _, rfl, by omega, hres, rfl⟩ ?_
  rintro m A ⟨f, i, acc, T, hi, hacc, hm, hf, hk, rfl⟩
  obtain ⟨f, rfl⟩ : ∃ f2, f = f2 + 1 := ⟨f - 1, by omega⟩
  have hb : ∀ j, s.data.toList.getD j 0 = byU s j := fun _ => rfl
  have hq1 : (i : Int) + 1 = ((i + 1 : Nat) : Int) := by omega
  have hq2 : (i : Int) + 2 = ((i + 2 : Nat) : Int) := by omega
  have hq3 : (i : Int) + 3 = ((i + 3 : Nat) : Int) := by omega
  have hq4 : (i : Int) + 4 = ((i + 4 : Nat) : Int) := by omega
  have hn2 := nibR_in (byU s (i + 2))
  have hn3 := nibR_in (byU s (i + 3))
  have hA1 : acc.size + 1 ≤ maxStr := (by unfold maxStr; omega)
  have hA2 : acc.size + (s.extract i (i + 1)).size ≤ maxStr := (by rw [ByteArray.size_extract]; omega)
  have hA3 : acc.size + ({ data := #[UInt8.ofNat (16 * nibR (byU s (i + 2)).toNat + nibR (byU s (i + 3)).toNat).toNat] } : ByteArray).size ≤ maxStr := hA1
  refine seq_in ?_
  refine seq_run okT2 rfl (by repeat (first | with_reducible exact runf_nil | refine runf_cons (by simp only [xstep, stepf, stepx, qev, St.ev, St.put, qint, qshift, isShift, qbin, qlen, qbuiltin, List.getElem?_cons_zero, List.getElem?_cons_succ, List.set_cons_zero, List.set_cons_succ, Option.bind_some, Option.map_some, Option.map_none, if_true, if_false, Option.some.injEq, Bool.false_eq_true, tk9]; rfl) ?_)) ?_
  refine tri_cond rfl (fun a0 => ?_) (fun a0 => ?_)
  ·
    simp only [decide_eq_true_eq] at a0
    refine then_skip ?_
    refine tri_block ?_
    refine seq_in ?_
    refine seq_run okT2 rfl (by repeat (first | with_reducible exact runf_nil | refine runf_cons (by simp only [xstep, stepf, stepx, qev, St.ev, St.put, D.int, qindex, qint, qshift, isShift, qbin, constD, constC, List.getElem?_cons_zero, List.getElem?_cons_succ, List.set_cons_zero, List.set_cons_succ, Option.bind_some, Option.map_some, Option.map_none, if_true, if_false, and_self, decide_true, Option.some.injEq, Bool.false_eq_true, Int.toNat_natCast, Int.natCast_nonneg, hb, tk9, a0]; rfl) ?_)) ?_
    refine tri_cond rfl (fun a1 => ?_) (fun a1 => ?_)
    ·
      simp only [decide_eq_true_eq] at a1
      refine seq_run okT2 rfl (by repeat (first | with_reducible exact runf_nil | refine runf_cons (by simp only [xstep, stepf, stepx, qev, St.ev, St.put, qint, qshift, isShift, qbin, constD, constC, List.getElem?_cons_zero, List.getElem?_cons_succ, List.set_cons_zero, List.set_cons_succ, Option.map_some, Option.map_none, if_true, if_false, decide_true, Option.some.injEq, Bool.false_eq_true, hq1, a1, show IntKind.i64.wrap (↑(i + 1) : Int) = _ from wrap_i64 _ (by omega) (by omega)]; rfl) ?_)) ?_
      refine tri_ret (ends_ret (by simp only [outRes, resDs, resD, outDs, outD, outC, C.dat, List.getElem?_cons_zero, List.getElem?_cons_succ, Option.map_some, if_true, Option.some.injEq]; rfl) rfl (by simp) (by simp) ?_)
      (simp only [quoteR, reduceIte, ↓reduceIte, a0, a1] at hk; exact hQ2 _ _ hk)
    ·
      simp only [decide_eq_false_iff_not] at a1
      refine then_skip ?_
      refine seq_in ?_
      refine seq_run okT2 rfl (by repeat (first | with_reducible exact runf_nil | refine runf_cons (by simp only [xstep, stepf, stepx, evsA, qev, St.ev, St.put, St.with, D.int, C.cpy, qindex, C.cp, C.dat, List.getElem?_cons_zero, List.getElem?_cons_succ, List.set_cons_zero, List.set_cons_succ, List.append_nil, List.map_nil, Option.bind_some, Option.map_some, Nat.reduceEqDiff, if_true, if_false, and_self, decide_false, Option.some.injEq, Bool.and_self, Bool.or_true, callP, Fs.none, argDs, argD, argC, D.ni, D.ni1, C.ni, settle, settle1, settleC, List.isEmpty_nil, dB, Int.toNat_natCast, Int.natCast_nonneg, FsT2, hb, plainR_at, tk9, a0, a1]; rfl) ?_)) ?_
      refine tri_cond rfl (fun a2 => ?_) (fun a2 => ?_)
      ·
        refine seq_run okT2 rfl (by repeat (first | with_reducible exact runf_nil | refine runf_cons (by simp only [xstep, stepf, stepx, qev, St.ev, St.put, D.int, qint, qshift, qstr, isShift, qbin, qbounds, qslice, omap, constD, constC, List.getElem?_cons_zero, List.getElem?_cons_succ, List.set_cons_zero, List.set_cons_succ, Option.bind_some, Option.map_some, Option.map_none, if_true, if_false, and_self, Option.some.injEq, Bool.false_eq_true, Int.toNat_natCast, Int.natCast_nonneg, hA2, hq1, tk9, a2, show IntKind.i64.wrap (↑(i + 1) : Int) = _ from wrap_i64 _ (by omega) (by omega), show ((↑(i + 1) : Int) ≤ (↑s.size : Int)) = True from eq_true (by omega), show ((↑i : Int) ≤ (↑(i + 1) : Int)) = True from eq_true (by omega)]; rfl) ?_)) ?_
        refine seq_run okT2 rfl (by repeat (first | with_reducible exact runf_nil | refine runf_cons (by simp only [xstep, stepf, stepx, qev, St.ev, St.put, qint, qshift, isShift, qbin, constD, constC, List.getElem?_cons_zero, List.getElem?_cons_succ, List.set_cons_zero, List.set_cons_succ, Option.map_some, Option.map_none, if_true, if_false, Option.some.injEq, Bool.false_eq_true, hq1, show IntKind.i64.wrap (↑(i + 1) : Int) = _ from wrap_i64 _ (by omega) (by omega)]; rfl) ?_)) ?_
        refine tri_exit ?_
        simp only []
        (simp only [quoteR, reduceIte, ↓reduceIte, a0, a1, a2] at hk; exact ⟨s.size - (i + 1), by omega, ⟨[.c (.v (.string s)), .c (.v (.int .i64 p)), .top, .top, .c (.v (.string ⟨#[]⟩)), .c (.v (.int .i64 0)), .c (.v (.string (acc ++ s.extract i (i + 1)))), .c (.v (.int .i64 (i + 1 : Nat))), .top, .top, .top, .top, .top, .top, .top, .top, .top, .top, .top, .top, .top, .top, .top, .top, .top, .top, .top, .top, .top, .top, .top, .top, .top, .top, .top, .top, .top, .top, .top, .top, .top, .top, .top, .top, .top, .top, .top, .top, .top, .top, .top, .top, .top, .top, .top, .top, .top, .top, .top, .top, .top, .top, .top, .top, .top, .top, .top, .top, .top, .top, .top, .top, .top, .top, .top, .top, .top, .top, .top, .top, .top, .top, .top, .top, .top, .top, .top, .top, .top, .top, .top], _⟩, ⟨by repeat (first | exact .nil | refine .same ?_ | refine .top ?_), rfl⟩, f, i + 1, acc ++ s.extract i (i + 1), _, by omega, (by rw [ByteArray.size_append, ByteArray.size_extract]; omega), rfl, by omega, hk, rfl⟩)
      ·
        refine then_skip ?_
        refine seq_in ?_
        by_cases a3 : ((↑(byU s i).toNat : Int) = 92)
        ·
          by_cases a4 : ((↑s.size : Int) ≤ (↑(i + 3) : Int))
          ·
            refine seq_run okT2 rfl (by repeat (first | with_reducible exact runf_nil | refine runf_cons (by simp only [xstep, stepf, stepx, evsA, qev, St.ev, St.put, D.int, qindex, qpick, qint, qshift, isEq, qeq, isShift, qbin, qlen, qbuiltin, constD, constC, List.getElem?_cons_zero, List.getElem?_cons_succ, List.set_cons_zero, List.set_cons_succ, List.append_nil, List.map_nil, Option.bind_some, Option.map_some, Option.map_none, Nat.reduceEqDiff, if_true, if_false, and_self, decide_true, Bool.not_true, cond_true, cond_false, List.getElem?_toArray, Option.some.injEq, reduceCtorEq, Bool.false_eq_true, callP, callO, Fs.none, argDs, argD, Int.toNat_natCast, Int.natCast_nonneg, FsT2, hb, hq3, tk9, a0, a2, eq_true a3, show IntKind.i64.wrap (↑(i + 3) : Int) = _ from wrap_i64 _ (by omega) (by omega), eq_true a4]; rfl) ?_)) ?_
            refine tri_cond (b := true) rfl (fun _ => ?_) (fun h => by cases h)
            refine seq_run okT2 rfl (by repeat (first | with_reducible exact runf_nil | refine runf_cons (by simp only [xstep, stepf, stepx, qev, St.ev, St.put, constD, constC, List.set_cons_zero, List.set_cons_succ, Option.map_some, Option.some.injEq]; rfl) ?_)) ?_
            refine tri_ret (ends_ret (by simp only [outRes, resDs, resD, outDs, outD, outC, C.dat, List.getElem?_cons_zero, List.getElem?_cons_succ, Option.map_some, if_true, Option.some.injEq]; rfl) rfl (by simp) (by simp) ?_)
            (simp only [quoteR, noText, reduceIte, Bool.false_eq_true, ↓reduceIte, Int.reduceNeg, noText, a0, a1, a2, eq_true a3, eq_true a4] at hk; exact hQ2 _ _ hk)
          ·
            by_cases a5 : ((↑(byU s (i + 1)).toNat : Int) = 120)
            ·
              by_cases a6 : (nibR (↑(byU s (i + 2)).toNat : Int) < 0)
              ·
                refine seq_run okT2 rfl (by repeat (first | with_reducible exact runf_nil | refine runf_cons (by simp only [xstep, stepf, stepx, evsA, qev, St.ev, St.put, St.with, D.int, C.cpy, qindex, qpick, qint, qshift, isEq, isShift, qbin, qlen, qbuiltin, C.cp, C.dat, constD, constC, List.getElem?_cons_zero, List.getElem?_cons_succ, List.set_cons_zero, List.set_cons_succ, List.append_nil, List.map_nil, Option.bind_some, Option.map_some, Option.map_none, Nat.reduceEqDiff, if_true, if_false, and_self, decide_true, decide_false, Bool.not_true, cond_true, cond_false, List.getElem?_toArray, Option.some.injEq, reduceCtorEq, Bool.false_eq_true, Bool.and_self, Bool.or_true, callP, callO, Fs.none, argDs, argD, argC, D.ni, D.ni1, C.ni, settle, settle1, settleC, List.isEmpty_nil, dI, Int.toNat_natCast, Int.natCast_nonneg, FsT2, hb, hq1, hq2, hq3, nibR_at, tk9, a0, a2, eq_true a3, show IntKind.i64.wrap (↑(i + 3) : Int) = _ from wrap_i64 _ (by omega) (by omega), eq_false a4, show IntKind.i64.wrap (↑(i + 1) : Int) = _ from wrap_i64 _ (by omega) (by omega), show ((↑(i + 1) : Int) < (↑s.size : Int)) = True from eq_true (by omega), eq_true a5, show IntKind.i64.wrap (↑(i + 2) : Int) = _ from wrap_i64 _ (by omega) (by omega), show ((↑(i + 2) : Int) < (↑s.size : Int)) = True from eq_true (by omega), eq_true a6]; rfl) ?_)) ?_
                refine tri_cond (b := true) rfl (fun _ => ?_) (fun h => by cases h)
                refine seq_run okT2 rfl (by repeat (first | with_reducible exact runf_nil | refine runf_cons (by simp only [xstep, stepf, stepx, qev, St.ev, St.put, constD, constC, List.set_cons_zero, List.set_cons_succ, Option.map_some, Option.some.injEq]; rfl) ?_)) ?_
                refine tri_ret (ends_ret (by simp only [outRes, resDs, resD, outDs, outD, outC, C.dat, List.getElem?_cons_zero, List.getElem?_cons_succ, Option.map_some, if_true, Option.some.injEq]; rfl) rfl (by simp) (by simp) ?_)
                (simp only [quoteR, noText, reduceIte, Bool.false_eq_true, ↓reduceIte, Int.reduceNeg, noText, a0, a1, a2, eq_true a3, eq_false a4, eq_true a5, eq_true a6] at hk; exact hQ2 _ _ hk)
              ·
                refine seq_run okT2 rfl (by repeat (first | with_reducible exact runf_nil | refine runf_cons (by simp only [xstep, stepf, stepx, evsA, qev, St.ev, St.put, St.with, D.int, C.cpy, qindex, qpick, qint, qshift, isShift, qbin, qlen, qbuiltin, C.cp, C.dat, constD, constC, List.getElem?_cons_zero, List.getElem?_cons_succ, List.set_cons_zero, List.set_cons_succ, List.append_nil, List.map_nil, Option.bind_some, Option.map_some, Option.map_none, Nat.reduceEqDiff, if_true, if_false, and_self, decide_true, decide_false, Bool.not_true, cond_false, List.getElem?_toArray, Option.some.injEq, Bool.false_eq_true, Bool.and_self, Bool.or_true, callP, Fs.none, argDs, argD, argC, D.ni, D.ni1, C.ni, settle, settle1, settleC, List.isEmpty_nil, dI, Int.toNat_natCast, Int.natCast_nonneg, FsT2, hb, hq1, hq2, hq3, nibR_at, tk9, a0, a2, eq_true a3, show IntKind.i64.wrap (↑(i + 3) : Int) = _ from wrap_i64 _ (by omega) (by omega), eq_false a4, show IntKind.i64.wrap (↑(i + 1) : Int) = _ from wrap_i64 _ (by omega) (by omega), show ((↑(i + 1) : Int) < (↑s.size : Int)) = True from eq_true (by omega), eq_true a5, show IntKind.i64.wrap (↑(i + 2) : Int) = _ from wrap_i64 _ (by omega) (by omega), show ((↑(i + 2) : Int) < (↑s.size : Int)) = True from eq_true (by omega), eq_false a6, show ((↑(i + 3) : Int) < (↑s.size : Int)) = True from eq_true (by omega)]; rfl) ?_)) ?_
                refine tri_cond rfl (fun a7 => ?_) (fun a7 => ?_)
                ·
                  simp only [decide_eq_true_eq] at a7
                  refine seq_run okT2 rfl (by repeat (first | with_reducible exact runf_nil | refine runf_cons (by simp only [xstep, stepf, stepx, qev, St.ev, St.put, constD, constC, List.set_cons_zero, List.set_cons_succ, Option.map_some, decide_true, Option.some.injEq, a7]; rfl) ?_)) ?_
                  refine tri_ret (ends_ret (by simp only [outRes, resDs, resD, outDs, outD, outC, C.dat, List.getElem?_cons_zero, List.getElem?_cons_succ, Option.map_some, if_true, Option.some.injEq]; rfl) rfl (by simp) (by simp) ?_)
                  (simp only [quoteR, noText, reduceIte, Bool.false_eq_true, ↓reduceIte, Int.reduceNeg, noText, a0, a1, a2, eq_true a3, eq_false a4, eq_true a5, eq_false a6, a7] at hk; exact hQ2 _ _ hk)
                ·
                  simp only [decide_eq_false_iff_not] at a7
                  refine then_skip ?_
                  refine seq_anyE mixed okT2 rfl (by kernel_rfl) ?_
                  refine ⟨_, (by repeat (first | with_reducible exact runf_nil | refine runf_cons (by simp only [xstep, stepf, stepx, evsA, qev, St.ev, St.put, St.with, D.int, C.cpy, qindex, qint, qshift, isShift, qbin, qconv, C.cp, C.dat, constD, constC, List.getElem?_cons_zero, List.getElem?_cons_succ, List.set_cons_zero, List.set_cons_succ, List.append_nil, List.map_nil, Option.bind_some, Option.map_some, Option.map_none, Nat.reduceEqDiff, if_true, if_false, and_self, decide_false, Option.some.injEq, Bool.false_eq_true, Bool.and_self, Bool.or_true, callP, Fs.none, argDs, argD, argC, D.ni, D.ni1, C.ni, settle, settle1, settleC, List.isEmpty_nil, dI, Int.toNat_natCast, Int.natCast_nonneg, FsT2, hb, hq2, hq3, nibR_at, tk9, a7, show IntKind.i64.wrap (↑(i + 2) : Int) = _ from wrap_i64 _ (by omega) (by omega), show ((↑(i + 2) : Int) < (↑s.size : Int)) = True from eq_true (by omega), show IntKind.i64.wrap (16 * nibR (↑(byU s (i + 2)).toNat : Int)) = _ from wrap_i64 _ (by omega) (by omega), show IntKind.i64.wrap (↑(i + 3) : Int) = _ from wrap_i64 _ (by omega) (by omega), show ((↑(i + 3) : Int) < (↑s.size : Int)) = True from eq_true (by omega), show IntKind.i64.wrap (16 * nibR (↑(byU s (i + 2)).toNat : Int) + nibR (↑(byU s (i + 3)).toNat : Int)) = _ from wrap_i64 _ (by omega) (by omega), tk5, tk3, show IntKind.u8.wrap (16 * nibR (↑(byU s (i + 2)).toNat : Int) + nibR (↑(byU s (i + 3)).toNat : Int)) = _ from wrap_u8 _ (by omega) (by omega)]; rfl) ?_)), ?_⟩
                  refine seq_in ?_
                  refine seq_run okT2 rfl (by repeat (first | with_reducible exact runf_nil | refine runf_cons (by simp only [xstep, stepf, stepx, evsA, qev, St.ev, St.put, St.with, C.cpy, C.cp, C.dat, List.getElem?_cons_zero, List.getElem?_cons_succ, List.set_cons_zero, List.set_cons_succ, List.append_nil, List.map_nil, Option.map_some, Nat.reduceEqDiff, if_true, if_false, Option.some.injEq, Bool.and_self, Bool.or_true, callP, Fs.none, argDs, argD, argC, D.ni, D.ni1, C.ni, settle, settle1, settleC, List.isEmpty_nil, dB, FsT2, plainR_at]; rfl) ?_)) ?_
                  refine tri_cond rfl (fun a8 => ?_) (fun a8 => ?_)
                  ·
                    refine seq_run okT2 rfl (by repeat (first | with_reducible exact runf_nil | refine runf_cons (by simp only [xstep, stepf, stepx, qev, St.ev, St.put, constD, constC, List.set_cons_zero, List.set_cons_succ, Option.map_some, Option.some.injEq, a8]; rfl) ?_)) ?_
                    refine tri_ret (ends_ret (by simp only [outRes, resDs, resD, outDs, outD, outC, C.dat, List.getElem?_cons_zero, List.getElem?_cons_succ, Option.map_some, if_true, Option.some.injEq]; rfl) rfl (by simp) (by simp) ?_)
                    (simp only [quoteR, noText, reduceIte, Bool.false_eq_true, ↓reduceIte, Int.reduceNeg, noText, a0, a1, a2, eq_true a3, eq_false a4, eq_true a5, eq_false a6, a7, a8] at hk; exact hQ2 _ _ hk)
                  ·
                    refine then_skip ?_
                    refine seq_run okT2 rfl (by repeat (first | with_reducible exact runf_nil | refine runf_cons (by simp only [xstep, stepf, stepx, qev, St.ev, St.put, St.with, D.cells, qstr, qbin, qconv, C.st, C.dat, putCells, List.getElem?_cons_zero, List.getElem?_cons_succ, List.set_cons_zero, List.set_cons_succ, List.length_cons, List.length_nil, List.nil_append, List.append_nil, List.map_nil, List.map_cons, List.all_cons, List.all_nil, List.take_succ_cons, List.take_zero, List.drop_succ_cons, List.drop_zero, Option.bind_some, Option.map_some, Nat.reduceMul, if_true, and_self, Option.some.injEq, ne_eq, not_false_eq_true, reduceCtorEq, Nat.reduceLeDiff, Nat.le_refl, Nat.zero_add, Bool.and_self, buildSliceA, partsA, fillA, reps, chop, bytesStr, rowsOf, isByteRow, rowByte, hA3, last_get, tk9, tk5, a8, tk35, tz5, tsz5, show (1 ≤ maxStr) = True from eq_true (by omega)]; rfl) ?_)) ?_
                    refine run_end okT2 rfl (by repeat (first | with_reducible exact runf_nil | refine runf_cons (by simp only [xstep, stepf, stepx, qev, St.ev, St.put, qint, qshift, isShift, qbin, constD, constC, List.getElem?_cons_zero, List.getElem?_cons_succ, List.set_cons_zero, List.set_cons_succ, Option.map_some, Option.map_none, if_true, if_false, Option.some.injEq, Bool.false_eq_true, hq4, show IntKind.i64.wrap (↑(i + 4) : Int) = _ from wrap_i64 _ (by omega) (by omega)]; rfl) ?_)) ?_
                    simp only []
                    (simp only [quoteR, reduceIte, Bool.false_eq_true, ↓reduceIte, a0, a1, a2, eq_true a3, eq_false a4, eq_true a5, eq_false a6, a7, a8] at hk; exact ⟨s.size - (i + 4), by omega, ⟨[.c (.v (.string s)), .c (.v (.int .i64 p)), .top, .top, .c (.v (.string ⟨#[]⟩)), .c (.v (.int .i64 0)), .c (.v (.string (acc ++ ⟨#[UInt8.ofNat (16 * nibR (byU s (i + 2)).toNat + nibR (byU s (i + 3)).toNat).toNat]⟩))), .c (.v (.int .i64 (i + 4 : Nat))), .top, .top, .top, .top, .top, .top, .top, .top, .top, .top, .top, .top, .top, .top, .top, .top, .top, .top, .top, .top, .top, .top, .top, .top, .top, .top, .top, .top, .top, .top, .top, .top, .top, .top, .top, .top, .top, .top, .top, .top, .top, .top, .top, .top, .top, .top, .top, .top, .top, .top, .top, .top, .top, .top, .top, .top, .top, .top, .top, .top, .top, .top, .top, .top, .top, .top, .top, .top, .top, .top, .top, .top, .top, .top, .top, .top, .top, .top, .top, .top, .top, .top, .top], _⟩, ⟨by repeat (first | exact .nil | refine .same ?_ | refine .top ?_), rfl⟩, f, i + 4, acc ++ ⟨#[UInt8.ofNat (16 * nibR (byU s (i + 2)).toNat + nibR (byU s (i + 3)).toNat).toNat]⟩, _, by omega, (by rw [ByteArray.size_append]; show acc.size + 1 ≤ i + 4; omega), rfl, by omega, hk, rfl⟩)
            ·
              refine seq_run okT2 rfl (by repeat (first | with_reducible exact runf_nil | refine runf_cons (by simp only [xstep, stepf, stepx, evsA, qev, St.ev, St.put, D.int, qindex, qpick, qint, qshift, isEq, isShift, qbin, qlen, qbuiltin, constD, constC, List.getElem?_cons_zero, List.getElem?_cons_succ, List.set_cons_zero, List.set_cons_succ, List.append_nil, List.map_nil, Option.bind_some, Option.map_some, Option.map_none, Nat.reduceEqDiff, if_true, if_false, and_self, decide_true, decide_false, Bool.not_true, Bool.not_false, cond_true, cond_false, List.getElem?_toArray, Option.some.injEq, reduceCtorEq, Bool.false_eq_true, callP, callO, Fs.none, argDs, argD, Int.toNat_natCast, Int.natCast_nonneg, FsT2, hb, hq1, hq3, tk9, a0, a2, eq_true a3, show IntKind.i64.wrap (↑(i + 3) : Int) = _ from wrap_i64 _ (by omega) (by omega), eq_false a4, show IntKind.i64.wrap (↑(i + 1) : Int) = _ from wrap_i64 _ (by omega) (by omega), show ((↑(i + 1) : Int) < (↑s.size : Int)) = True from eq_true (by omega), eq_false a5]; rfl) ?_)) ?_
              refine tri_cond (b := true) rfl (fun _ => ?_) (fun h => by cases h)
              refine seq_run okT2 rfl (by repeat (first | with_reducible exact runf_nil | refine runf_cons (by simp only [xstep, stepf, stepx, qev, St.ev, St.put, constD, constC, List.set_cons_zero, List.set_cons_succ, Option.map_some, Option.some.injEq]; rfl) ?_)) ?_
              refine tri_ret (ends_ret (by simp only [outRes, resDs, resD, outDs, outD, outC, C.dat, List.getElem?_cons_zero, List.getElem?_cons_succ, Option.map_some, if_true, Option.some.injEq]; rfl) rfl (by simp) (by simp) ?_)
              (simp only [quoteR, noText, reduceIte, Bool.false_eq_true, ↓reduceIte, Int.reduceNeg, noText, a0, a1, a2, eq_true a3, eq_false a4, eq_false a5] at hk; exact hQ2 _ _ hk)
        ·
          refine seq_run okT2 rfl (by repeat (first | with_reducible exact runf_nil | refine runf_cons (by simp only [xstep, stepf, stepx, evsA, qev, St.ev, St.put, D.int, qindex, qpick, qint, qshift, isEq, qeq, isShift, qbin, qlen, qbuiltin, constD, constC, List.getElem?_cons_zero, List.getElem?_cons_succ, List.set_cons_zero, List.set_cons_succ, List.append_nil, List.map_nil, Option.bind_some, Option.map_some, Option.map_none, Nat.reduceEqDiff, if_true, if_false, and_self, decide_false, Bool.not_false, cond_true, List.getElem?_toArray, Option.some.injEq, reduceCtorEq, Bool.false_eq_true, callP, callO, Fs.none, argDs, argD, Int.toNat_natCast, Int.natCast_nonneg, FsT2, hb, tk9, a0, a2, eq_false a3]; rfl) ?_)) ?_
          refine tri_cond (b := true) rfl (fun _ => ?_) (fun h => by cases h)
          refine seq_run okT2 rfl (by repeat (first | with_reducible exact runf_nil | refine runf_cons (by simp only [xstep, stepf, stepx, qev, St.ev, St.put, constD, constC, List.set_cons_zero, List.set_cons_succ, Option.map_some, Option.some.injEq]; rfl) ?_)) ?_
          refine tri_ret (ends_ret (by simp only [outRes, resDs, resD, outDs, outD, outC, C.dat, List.getElem?_cons_zero, List.getElem?_cons_succ, Option.map_some, if_true, Option.some.injEq]; rfl) rfl (by simp) (by simp) ?_)
          (simp only [quoteR, noText, reduceIte, Bool.false_eq_true, ↓reduceIte, Int.reduceNeg, noText, a0, a1, a2, eq_false a3] at hk; exact hQ2 _ _ hk)
  ·
    simp only [decide_eq_false_iff_not] at a0
    refine tri_exit ?_
    show Tri _ _ _ _
    refine seq_run okT2 rfl (by repeat (first | with_reducible exact runf_nil | refine runf_cons (by simp only [xstep, stepf, stepx, qev, St.ev, St.put, constD, constC, List.set_cons_zero, List.set_cons_succ, Option.map_some, decide_false, Option.some.injEq, a0]; rfl) ?_)) ?_
    refine tri_ret (ends_ret (by simp only [outRes, resDs, resD, outDs, outD, outC, C.dat, List.getElem?_cons_zero, List.getElem?_cons_succ, Option.map_some, if_true, Option.some.injEq]; rfl) rfl (by simp) (by simp) ?_)
    (simp only [quoteR, noText, reduceIte, ↓reduceIte, Int.reduceNeg, noText, a0] at hk; exact hQ2 _ _ hk)
end Go.Dl
