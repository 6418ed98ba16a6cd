/- The walks of octet's Writer. -/
import Derived.Test.YtoamlicfbmhajaaRb
namespace Go.Dl
open Go.RowKit
open Go.Proofs
set_option linter.unusedSimpArgs false
set_option linter.unusedVariables false

/-- A writer. -/
def wObj (s : ByteArray) (b : Bool) : Obj := ⟨2, [[.v (.string s), .v (.bool b)]]⟩

def decW : Obj → Option (ByteArray × Bool)
  | ⟨2, [[.v (.string s), .v (.bool b)]]⟩ => some (s, b)
  | _ => none

theorem decW_eq {o : Obj} {x : ByteArray × Bool} (h : decW o = some x) : o = wObj x.1 x.2 := by
  unfold decW at h
  split at h
  · cases h; rfl
  · cases h

/-- Writer.Num. -/
def oWNum : List D → List Obj → Option (D × List Obj)
  | [.c (.p 0 0 0), .c (.v (.int .i64 n))], [o] => (decW o).bind fun x => if x.1.size + (numB n).size ≤ maxStr then some (.t [], [wObj (x.1 ++ numB n) (x.2 || strEq (numB n) ⟨#[]⟩)]) else none
  | _, _ => none

theorem got95 : Try.prog.funcs[95]? = some Try.f95 := by kernel_rfl
theorem meets95 : Meets Try.prog 95 (detS oWNum) := by
  refine meets_of_tri got95 rfl (n := 26) rfl (rs := []) rfl ?_
  rintro args objs Q ⟨d, os, hd, hQ⟩
  unfold oWNum at hd
  split at hd
  · rename_i n o
    cases hq : decW o with
    | none => rw [hq] at hd; cases hd
    | some x =>
      rw [hq] at hd
      simp only [Option.bind_some] at hd
      split at hd
      · rename_i hlen
        cases hd
        have := decW_eq hq
        subst this
        obtain ⟨s, b⟩ := x
        simp only at hlen hQ
        have hN : ∀ n, pNum [.c (.v (.int .i64 n))] = some (dS (numB n)) := fun _ => rfl
        refine seq_run okR1 rfl (by repeat (first | with_reducible exact runf_nil | refine runf_cons (by simp only [runf, xstep, stepf, stepx, evsA, qev, St.ev, St.put, St.with, D.cells, D.cell, D.int, boxA, qload, cellsAt, qmk, C.cpy, TK.agg, qnil, qfieldAddr, qpart, qfield, qindexAddr, qindex, qpick, qint, qshift, qstr, isEq, qeq, isShift, qbin, qun, qconv, qbounds, qslice, qlen, qext, omap, q2, qbuiltin, liveR, C.st, C.cp, C.dat, storeA, putCells, constD, constC, List.getElem?_cons_zero, List.getElem?_cons_succ, List.set_cons_zero, List.set_cons_succ, List.replicate, List.length_cons, List.length_nil, List.cons_append, List.nil_append, List.append_nil, List.map_nil, List.map_cons, List.all_cons, List.all_nil, List.take_succ_cons, List.take_zero, List.drop_succ_cons, List.drop_zero, List.singleton_append, Option.bind_some, Option.bind_none, Option.map_some, Option.map_none, Bool.and_true, Bool.true_and, Nat.reduceAdd, Nat.reduceSub, Nat.reduceMul, Nat.reduceEqDiff, reduceIte, if_true, if_false, and_self, and_true, true_and, decide_true, decide_false, Bool.not_true, Bool.not_false, cond_true, cond_false, forall_const, List.getElem?_toArray, Option.some.injEq, ne_eq, not_false_eq_true, Array.toList, reduceCtorEq, Int.reduceLT, Int.reduceLE, Int.reduceToNat, Nat.reduceLeDiff, Nat.reduceLT, Nat.le_refl, Nat.reduceBNe, Nat.reduceBEq, Bool.false_eq_true, implies_true, Nat.add_zero, Nat.zero_add, bne_self_eq_false, beq_self_eq_true, Bool.and_self, Bool.or_true, Bool.or_false, Bool.true_or, Bool.false_or, Bool.false_and, Bool.and_false, tk3, tsz3, tz3, bo3, tk4, tsz4, tz4, bo4, tk9, tsz9, tz9, bo9, tk103, tsz103, tz103, bo103, tk105, tsz105, tz105, bo105, callP, callO, Fs.none, dedup, rootsD, rootsC, List.flatMap_cons, List.flatMap_nil, List.filterMap_cons, List.filterMap_nil, argDs, argD, argC, argCs, List.contains_nil, List.contains_cons, objsAt, objOf, List.idxOf?, List.findIdx?, List.findIdx?.go, setObjs, D.ni, D.ni1, C.ni, C.niRow, settle, settle1, settleC, settleDs, settleCs, List.isEmpty_nil, List.isEmpty_cons, FsR1, hN, dS]; rfl) ?_)) ?_
        cases b with
        | true =>
          refine seq_run okR1 rfl (by repeat (first | with_reducible exact runf_nil | refine runf_cons (by simp only [runf, xstep, stepf, stepx, evsA, qev, St.ev, St.put, St.with, D.cells, D.cell, D.int, boxA, qload, cellsAt, qmk, C.cpy, TK.agg, qnil, qfieldAddr, qpart, qfield, qindexAddr, qindex, qpick, qint, qshift, qstr, isEq, qeq, isShift, qbin, qun, qconv, qbounds, qslice, qlen, qext, omap, q2, qbuiltin, liveR, C.st, C.cp, C.dat, storeA, putCells, constD, constC, List.getElem?_cons_zero, List.getElem?_cons_succ, List.set_cons_zero, List.set_cons_succ, List.replicate, List.length_cons, List.length_nil, List.cons_append, List.nil_append, List.append_nil, List.map_nil, List.map_cons, List.all_cons, List.all_nil, List.take_succ_cons, List.take_zero, List.drop_succ_cons, List.drop_zero, List.singleton_append, Option.bind_some, Option.bind_none, Option.map_some, Option.map_none, Bool.and_true, Bool.true_and, Nat.reduceAdd, Nat.reduceSub, Nat.reduceMul, Nat.reduceEqDiff, reduceIte, if_true, if_false, and_self, and_true, true_and, decide_true, decide_false, Bool.not_true, Bool.not_false, cond_true, cond_false, forall_const, List.getElem?_toArray, Option.some.injEq, ne_eq, not_false_eq_true, Array.toList, reduceCtorEq, Int.reduceLT, Int.reduceLE, Int.reduceToNat, Nat.reduceLeDiff, Nat.reduceLT, Nat.le_refl, Nat.reduceBNe, Nat.reduceBEq, Bool.false_eq_true, implies_true, Nat.add_zero, Nat.zero_add, bne_self_eq_false, beq_self_eq_true, Bool.and_self, Bool.or_true, Bool.or_false, Bool.true_or, Bool.false_or, Bool.false_and, Bool.and_false, tk3, tsz3, tz3, bo3, tk4, tsz4, tz4, bo4, tk9, tsz9, tz9, bo9, tk103, tsz103, tz103, bo103, tk105, tsz105, tz105, bo105, wObj]; rfl) ?_)) ?_
          refine run_end okR1 rfl (by repeat (first | with_reducible exact runf_nil | refine runf_cons (by simp only [runf, xstep, stepf, stepx, evsA, qev, St.ev, St.put, St.with, D.cells, D.cell, D.int, boxA, qload, cellsAt, qmk, C.cpy, TK.agg, qnil, qfieldAddr, qpart, qfield, qindexAddr, qindex, qpick, qint, qshift, qstr, isEq, qeq, isShift, qbin, qun, qconv, qbounds, qslice, qlen, qext, omap, q2, qbuiltin, liveR, C.st, C.cp, C.dat, storeA, putCells, constD, constC, List.getElem?_cons_zero, List.getElem?_cons_succ, List.set_cons_zero, List.set_cons_succ, List.replicate, List.length_cons, List.length_nil, List.cons_append, List.nil_append, List.append_nil, List.map_nil, List.map_cons, List.all_cons, List.all_nil, List.take_succ_cons, List.take_zero, List.drop_succ_cons, List.drop_zero, List.singleton_append, Option.bind_some, Option.bind_none, Option.map_some, Option.map_none, Bool.and_true, Bool.true_and, Nat.reduceAdd, Nat.reduceSub, Nat.reduceMul, Nat.reduceEqDiff, reduceIte, if_true, if_false, and_self, and_true, true_and, decide_true, decide_false, Bool.not_true, Bool.not_false, cond_true, cond_false, forall_const, List.getElem?_toArray, Option.some.injEq, ne_eq, not_false_eq_true, Array.toList, reduceCtorEq, Int.reduceLT, Int.reduceLE, Int.reduceToNat, Nat.reduceLeDiff, Nat.reduceLT, Nat.le_refl, Nat.reduceBNe, Nat.reduceBEq, Bool.false_eq_true, implies_true, Nat.add_zero, Nat.zero_add, bne_self_eq_false, beq_self_eq_true, Bool.and_self, Bool.or_true, Bool.or_false, Bool.true_or, Bool.false_or, Bool.false_and, Bool.and_false, tk3, tsz3, tz3, bo3, tk4, tsz4, tz4, bo4, tk9, tsz9, tz9, bo9, tk103, tsz103, tz103, bo103, tk105, tsz105, tz105, bo105, wObj, hlen]; rfl) ?_)) ?_
          refine ends_norm rfl rfl .nil (by simp) ?_
          exact hQ
        | false =>
          refine seq_run okR1 rfl (by repeat (first | with_reducible exact runf_nil | refine runf_cons (by simp only [runf, xstep, stepf, stepx, evsA, qev, St.ev, St.put, St.with, D.cells, D.cell, D.int, boxA, qload, cellsAt, qmk, C.cpy, TK.agg, qnil, qfieldAddr, qpart, qfield, qindexAddr, qindex, qpick, qint, qshift, qstr, isEq, qeq, isShift, qbin, qun, qconv, qbounds, qslice, qlen, qext, omap, q2, qbuiltin, liveR, C.st, C.cp, C.dat, storeA, putCells, constD, constC, List.getElem?_cons_zero, List.getElem?_cons_succ, List.set_cons_zero, List.set_cons_succ, List.replicate, List.length_cons, List.length_nil, List.cons_append, List.nil_append, List.append_nil, List.map_nil, List.map_cons, List.all_cons, List.all_nil, List.take_succ_cons, List.take_zero, List.drop_succ_cons, List.drop_zero, List.singleton_append, Option.bind_some, Option.bind_none, Option.map_some, Option.map_none, Bool.and_true, Bool.true_and, Nat.reduceAdd, Nat.reduceSub, Nat.reduceMul, Nat.reduceEqDiff, reduceIte, if_true, if_false, and_self, and_true, true_and, decide_true, decide_false, Bool.not_true, Bool.not_false, cond_true, cond_false, forall_const, List.getElem?_toArray, Option.some.injEq, ne_eq, not_false_eq_true, Array.toList, reduceCtorEq, Int.reduceLT, Int.reduceLE, Int.reduceToNat, Nat.reduceLeDiff, Nat.reduceLT, Nat.le_refl, Nat.reduceBNe, Nat.reduceBEq, Bool.false_eq_true, implies_true, Nat.add_zero, Nat.zero_add, bne_self_eq_false, beq_self_eq_true, Bool.and_self, Bool.or_true, Bool.or_false, Bool.true_or, Bool.false_or, Bool.false_and, Bool.and_false, tk3, tsz3, tz3, bo3, tk4, tsz4, tz4, bo4, tk9, tsz9, tz9, bo9, tk103, tsz103, tz103, bo103, tk105, tsz105, tz105, bo105, wObj]; rfl) ?_)) ?_
          refine run_end okR1 rfl (by repeat (first | with_reducible exact runf_nil | refine runf_cons (by simp only [runf, xstep, stepf, stepx, evsA, qev, St.ev, St.put, St.with, D.cells, D.cell, D.int, boxA, qload, cellsAt, qmk, C.cpy, TK.agg, qnil, qfieldAddr, qpart, qfield, qindexAddr, qindex, qpick, qint, qshift, qstr, isEq, qeq, isShift, qbin, qun, qconv, qbounds, qslice, qlen, qext, omap, q2, qbuiltin, liveR, C.st, C.cp, C.dat, storeA, putCells, constD, constC, List.getElem?_cons_zero, List.getElem?_cons_succ, List.set_cons_zero, List.set_cons_succ, List.replicate, List.length_cons, List.length_nil, List.cons_append, List.nil_append, List.append_nil, List.map_nil, List.map_cons, List.all_cons, List.all_nil, List.take_succ_cons, List.take_zero, List.drop_succ_cons, List.drop_zero, List.singleton_append, Option.bind_some, Option.bind_none, Option.map_some, Option.map_none, Bool.and_true, Bool.true_and, Nat.reduceAdd, Nat.reduceSub, Nat.reduceMul, Nat.reduceEqDiff, reduceIte, if_true, if_false, and_self, and_true, true_and, decide_true, decide_false, Bool.not_true, Bool.not_false, cond_true, cond_false, forall_const, List.getElem?_toArray, Option.some.injEq, ne_eq, not_false_eq_true, Array.toList, reduceCtorEq, Int.reduceLT, Int.reduceLE, Int.reduceToNat, Nat.reduceLeDiff, Nat.reduceLT, Nat.le_refl, Nat.reduceBNe, Nat.reduceBEq, Bool.false_eq_true, implies_true, Nat.add_zero, Nat.zero_add, bne_self_eq_false, beq_self_eq_true, Bool.and_self, Bool.or_true, Bool.or_false, Bool.true_or, Bool.false_or, Bool.false_and, Bool.and_false, tk3, tsz3, tz3, bo3, tk4, tsz4, tz4, bo4, tk9, tsz9, tz9, bo9, tk103, tsz103, tz103, bo103, tk105, tsz105, tz105, bo105, wObj, hlen]; rfl) ?_)) ?_
          refine ends_norm rfl rfl .nil (by simp) ?_
          exact hQ
      · cases hd
  · cases hd

def FsR2 : Fs := { Fs.none with pure := fun k => if k = 62 then some pText else none }
theorem okR2 : FsOK Try.prog FsR2 := by
  refine ⟨fun k f h => ?_, fun _ _ h => (by cases h)⟩
  simp only [FsR2] at h
  split at h
  · rename_i hk; subst hk; cases h; exact ⟨by kernel_rfl, meets62⟩
  · cases h

/-- Writer.Text. -/
def oWText : List D → List Obj → Option (D × List Obj)
  | [.c (.p 0 0 0), .c (.v (.string t))], [o] => (decW o).bind fun x => if t.size + 8 ≤ maxStr ∧ x.1.size + (textB t).size ≤ maxStr then some (.t [], [wObj (x.1 ++ textB t) x.2]) else none
  | _, _ => none

theorem got96 : Try.prog.funcs[96]? = some Try.f96 := by kernel_rfl
theorem meets96 : Meets Try.prog 96 (detS oWText) := by
  refine meets_of_tri got96 rfl (n := 13) rfl (rs := []) rfl ?_
  rintro args objs Q ⟨d, os, hd, hQ⟩
  unfold oWText at hd
  split at hd
  · rename_i t o
    cases hq : decW o with
    | none => rw [hq] at hd; cases hd
    | some x =>
      rw [hq] at hd
      simp only [Option.bind_some] at hd
      split at hd
      · rename_i hlen
        obtain ⟨h1, h2⟩ := hlen
        cases hd
        have := decW_eq hq
        subst this
        obtain ⟨s, b⟩ := x
        simp only at h2 hQ
        have hT : pText [.c (.v (.string t))] = some (dS (textB t)) := if_pos h1
        refine any_end mixed okR2 rfl (by kernel_rfl) (by repeat (first | with_reducible exact runf_nil | refine runf_cons (by simp only [runf, xstep, stepf, stepx, evsA, qev, St.ev, St.put, St.with, D.cells, D.cell, D.int, boxA, qload, cellsAt, qmk, C.cpy, TK.agg, qnil, qfieldAddr, qpart, qfield, qindexAddr, qindex, qpick, qint, qshift, qstr, isEq, qeq, isShift, qbin, qun, qconv, qbounds, qslice, qlen, qext, omap, q2, qbuiltin, liveR, C.st, C.cp, C.dat, storeA, putCells, constD, constC, List.getElem?_cons_zero, List.getElem?_cons_succ, List.set_cons_zero, List.set_cons_succ, List.replicate, List.length_cons, List.length_nil, List.cons_append, List.nil_append, List.append_nil, List.map_nil, List.map_cons, List.all_cons, List.all_nil, List.take_succ_cons, List.take_zero, List.drop_succ_cons, List.drop_zero, List.singleton_append, Option.bind_some, Option.bind_none, Option.map_some, Option.map_none, Bool.and_true, Bool.true_and, Nat.reduceAdd, Nat.reduceSub, Nat.reduceMul, Nat.reduceEqDiff, reduceIte, if_true, if_false, and_self, and_true, true_and, decide_true, decide_false, Bool.not_true, Bool.not_false, cond_true, cond_false, forall_const, List.getElem?_toArray, Option.some.injEq, ne_eq, not_false_eq_true, Array.toList, reduceCtorEq, Int.reduceLT, Int.reduceLE, Int.reduceToNat, Nat.reduceLeDiff, Nat.reduceLT, Nat.le_refl, Nat.reduceBNe, Nat.reduceBEq, Bool.false_eq_true, implies_true, Nat.add_zero, Nat.zero_add, bne_self_eq_false, beq_self_eq_true, Bool.and_self, Bool.or_true, Bool.or_false, Bool.true_or, Bool.false_or, Bool.false_and, Bool.and_false, tk3, tsz3, tz3, bo3, tk4, tsz4, tz4, bo4, tk9, tsz9, tz9, bo9, tk103, tsz103, tz103, bo103, tk105, tsz105, tz105, bo105, callP, callO, Fs.none, dedup, rootsD, rootsC, List.flatMap_cons, List.flatMap_nil, List.filterMap_cons, List.filterMap_nil, argDs, argD, argC, argCs, List.contains_nil, List.contains_cons, objsAt, objOf, List.idxOf?, List.findIdx?, List.findIdx?.go, setObjs, D.ni, D.ni1, C.ni, C.niRow, settle, settle1, settleC, settleDs, settleCs, List.isEmpty_nil, List.isEmpty_cons, FsR2, hT, dS, wObj, h2]; rfl) ?_)) ?_
        refine ends_norm rfl rfl .nil (by simp) ?_
        exact hQ
      · cases hd
  · cases hd

/-- Writer.All. -/
def oWAll : List D → List Obj → Option (D × List Obj)
  | [.c (.p 0 0 0)], [o] => (decW o).map fun x => (.t [dS (if x.2 then ⟨#[]⟩ else x.1), dB (!x.2)], [wObj x.1 x.2])
  | _, _ => none

theorem got57 : Try.prog.funcs[57]? = some Try.f57 := by kernel_rfl
theorem meets57 : Meets Try.prog 57 (detS oWAll) := by
  refine meets_of_tri got57 rfl (n := 12) rfl (rs := [ResultVar.tmp 2, ResultVar.tmp 3]) rfl ?_
  rintro args objs Q ⟨d, os, hd, hQ⟩
  unfold oWAll at hd
  split at hd
  · rename_i o
    cases hq : decW o with
    | none => rw [hq] at hd; cases hd
    | some x =>
      rw [hq] at hd
      cases hd
      have := decW_eq hq
      subst this
      obtain ⟨s, b⟩ := x
      refine seq_run ok0 rfl (by repeat (first | with_reducible exact runf_nil | refine runf_cons (by simp only [runf, xstep, stepf, stepx, evsA, qev, St.ev, St.put, St.with, D.cells, D.cell, D.int, boxA, qload, cellsAt, qmk, C.cpy, TK.agg, qnil, qfieldAddr, qpart, qfield, qindexAddr, qindex, qpick, qint, qshift, qstr, isEq, qeq, isShift, qbin, qun, qconv, qbounds, qslice, qlen, qext, omap, q2, qbuiltin, liveR, C.st, C.cp, C.dat, storeA, putCells, constD, constC, List.getElem?_cons_zero, List.getElem?_cons_succ, List.set_cons_zero, List.set_cons_succ, List.replicate, List.length_cons, List.length_nil, List.cons_append, List.nil_append, List.append_nil, List.map_nil, List.map_cons, List.all_cons, List.all_nil, List.take_succ_cons, List.take_zero, List.drop_succ_cons, List.drop_zero, List.singleton_append, Option.bind_some, Option.bind_none, Option.map_some, Option.map_none, Bool.and_true, Bool.true_and, Nat.reduceAdd, Nat.reduceSub, Nat.reduceMul, Nat.reduceEqDiff, reduceIte, if_true, if_false, and_self, and_true, true_and, decide_true, decide_false, Bool.not_true, Bool.not_false, cond_true, cond_false, forall_const, List.getElem?_toArray, Option.some.injEq, ne_eq, not_false_eq_true, Array.toList, reduceCtorEq, Int.reduceLT, Int.reduceLE, Int.reduceToNat, Nat.reduceLeDiff, Nat.reduceLT, Nat.le_refl, Nat.reduceBNe, Nat.reduceBEq, Bool.false_eq_true, implies_true, Nat.add_zero, Nat.zero_add, bne_self_eq_false, beq_self_eq_true, Bool.and_self, Bool.or_true, Bool.or_false, Bool.true_or, Bool.false_or, Bool.false_and, Bool.and_false]; rfl) ?_)) ?_
      cases b with
      | true =>
        refine seq_in (seq_run ok0 rfl (by repeat (first | with_reducible exact runf_nil | refine runf_cons (by simp only [runf, xstep, stepf, stepx, evsA, qev, St.ev, St.put, St.with, D.cells, D.cell, D.int, boxA, qload, cellsAt, qmk, C.cpy, TK.agg, qnil, qfieldAddr, qpart, qfield, qindexAddr, qindex, qpick, qint, qshift, qstr, isEq, qeq, isShift, qbin, qun, qconv, qbounds, qslice, qlen, qext, omap, q2, qbuiltin, liveR, C.st, C.cp, C.dat, storeA, putCells, constD, constC, List.getElem?_cons_zero, List.getElem?_cons_succ, List.set_cons_zero, List.set_cons_succ, List.replicate, List.length_cons, List.length_nil, List.cons_append, List.nil_append, List.append_nil, List.map_nil, List.map_cons, List.all_cons, List.all_nil, List.take_succ_cons, List.take_zero, List.drop_succ_cons, List.drop_zero, List.singleton_append, Option.bind_some, Option.bind_none, Option.map_some, Option.map_none, Bool.and_true, Bool.true_and, Nat.reduceAdd, Nat.reduceSub, Nat.reduceMul, Nat.reduceEqDiff, reduceIte, if_true, if_false, and_self, and_true, true_and, decide_true, decide_false, Bool.not_true, Bool.not_false, cond_true, cond_false, forall_const, List.getElem?_toArray, Option.some.injEq, ne_eq, not_false_eq_true, Array.toList, reduceCtorEq, Int.reduceLT, Int.reduceLE, Int.reduceToNat, Nat.reduceLeDiff, Nat.reduceLT, Nat.le_refl, Nat.reduceBNe, Nat.reduceBEq, Bool.false_eq_true, implies_true, Nat.add_zero, Nat.zero_add, bne_self_eq_false, beq_self_eq_true, Bool.and_self, Bool.or_true, Bool.or_false, Bool.true_or, Bool.false_or, Bool.false_and, Bool.and_false, tk3, tsz3, tz3, bo3, tk4, tsz4, tz4, bo4, tk9, tsz9, tz9, bo9, tk103, tsz103, tz103, bo103, tk105, tsz105, tz105, bo105, wObj]; rfl) ?_)) ?_)
        refine tri_cond rfl (fun _ => ?_) (fun h => by cases h)
        refine seq_run ok0 rfl (by repeat (first | with_reducible exact runf_nil | refine runf_cons (by simp only [runf, xstep, stepf, stepx, evsA, qev, St.ev, St.put, St.with, D.cells, D.cell, D.int, boxA, qload, cellsAt, qmk, C.cpy, TK.agg, qnil, qfieldAddr, qpart, qfield, qindexAddr, qindex, qpick, qint, qshift, qstr, isEq, qeq, isShift, qbin, qun, qconv, qbounds, qslice, qlen, qext, omap, q2, qbuiltin, liveR, C.st, C.cp, C.dat, storeA, putCells, constD, constC, List.getElem?_cons_zero, List.getElem?_cons_succ, List.set_cons_zero, List.set_cons_succ, List.replicate, List.length_cons, List.length_nil, List.cons_append, List.nil_append, List.append_nil, List.map_nil, List.map_cons, List.all_cons, List.all_nil, List.take_succ_cons, List.take_zero, List.drop_succ_cons, List.drop_zero, List.singleton_append, Option.bind_some, Option.bind_none, Option.map_some, Option.map_none, Bool.and_true, Bool.true_and, Nat.reduceAdd, Nat.reduceSub, Nat.reduceMul, Nat.reduceEqDiff, reduceIte, if_true, if_false, and_self, and_true, true_and, decide_true, decide_false, Bool.not_true, Bool.not_false, cond_true, cond_false, forall_const, List.getElem?_toArray, Option.some.injEq, ne_eq, not_false_eq_true, Array.toList, reduceCtorEq, Int.reduceLT, Int.reduceLE, Int.reduceToNat, Nat.reduceLeDiff, Nat.reduceLT, Nat.le_refl, Nat.reduceBNe, Nat.reduceBEq, Bool.false_eq_true, implies_true, Nat.add_zero, Nat.zero_add, bne_self_eq_false, beq_self_eq_true, Bool.and_self, Bool.or_true, Bool.or_false, Bool.true_or, Bool.false_or, Bool.false_and, Bool.and_false]; rfl) ?_)) ?_
        refine tri_ret (ends_ret (by simp only [outRes, resDs, resD, outDs, outD, outC, runf, xstep, stepf, stepx, evsA, qev, St.ev, St.put, St.with, D.cells, D.cell, D.int, boxA, qload, cellsAt, qmk, C.cpy, TK.agg, qnil, qfieldAddr, qpart, qfield, qindexAddr, qindex, qpick, qint, qshift, qstr, isEq, qeq, isShift, qbin, qun, qconv, qbounds, qslice, qlen, qext, omap, q2, qbuiltin, liveR, C.st, C.cp, C.dat, storeA, putCells, constD, constC, List.getElem?_cons_zero, List.getElem?_cons_succ, List.set_cons_zero, List.set_cons_succ, List.replicate, List.length_cons, List.length_nil, List.cons_append, List.nil_append, List.append_nil, List.map_nil, List.map_cons, List.all_cons, List.all_nil, List.take_succ_cons, List.take_zero, List.drop_succ_cons, List.drop_zero, List.singleton_append, Option.bind_some, Option.bind_none, Option.map_some, Option.map_none, Bool.and_true, Bool.true_and, Nat.reduceAdd, Nat.reduceSub, Nat.reduceMul, Nat.reduceEqDiff, reduceIte, if_true, if_false, and_self, and_true, true_and, decide_true, decide_false, Bool.not_true, Bool.not_false, cond_true, cond_false, forall_const, List.getElem?_toArray, Option.some.injEq, ne_eq, not_false_eq_true, Array.toList, reduceCtorEq, Int.reduceLT, Int.reduceLE, Int.reduceToNat, Nat.reduceLeDiff, Nat.reduceLT, Nat.le_refl, Nat.reduceBNe, Nat.reduceBEq, Bool.false_eq_true, implies_true, Nat.add_zero, Nat.zero_add, bne_self_eq_false, beq_self_eq_true, Bool.and_self, Bool.or_true, Bool.or_false, Bool.true_or, Bool.false_or, Bool.false_and, Bool.and_false]; rfl) rfl .nil (by simp) ?_)
        exact hQ
      | false =>
        refine seq_in (seq_run ok0 rfl (by repeat (first | with_reducible exact runf_nil | refine runf_cons (by simp only [runf, xstep, stepf, stepx, evsA, qev, St.ev, St.put, St.with, D.cells, D.cell, D.int, boxA, qload, cellsAt, qmk, C.cpy, TK.agg, qnil, qfieldAddr, qpart, qfield, qindexAddr, qindex, qpick, qint, qshift, qstr, isEq, qeq, isShift, qbin, qun, qconv, qbounds, qslice, qlen, qext, omap, q2, qbuiltin, liveR, C.st, C.cp, C.dat, storeA, putCells, constD, constC, List.getElem?_cons_zero, List.getElem?_cons_succ, List.set_cons_zero, List.set_cons_succ, List.replicate, List.length_cons, List.length_nil, List.cons_append, List.nil_append, List.append_nil, List.map_nil, List.map_cons, List.all_cons, List.all_nil, List.take_succ_cons, List.take_zero, List.drop_succ_cons, List.drop_zero, List.singleton_append, Option.bind_some, Option.bind_none, Option.map_some, Option.map_none, Bool.and_true, Bool.true_and, Nat.reduceAdd, Nat.reduceSub, Nat.reduceMul, Nat.reduceEqDiff, reduceIte, if_true, if_false, and_self, and_true, true_and, decide_true, decide_false, Bool.not_true, Bool.not_false, cond_true, cond_false, forall_const, List.getElem?_toArray, Option.some.injEq, ne_eq, not_false_eq_true, Array.toList, reduceCtorEq, Int.reduceLT, Int.reduceLE, Int.reduceToNat, Nat.reduceLeDiff, Nat.reduceLT, Nat.le_refl, Nat.reduceBNe, Nat.reduceBEq, Bool.false_eq_true, implies_true, Nat.add_zero, Nat.zero_add, bne_self_eq_false, beq_self_eq_true, Bool.and_self, Bool.or_true, Bool.or_false, Bool.true_or, Bool.false_or, Bool.false_and, Bool.and_false, tk3, tsz3, tz3, bo3, tk4, tsz4, tz4, bo4, tk9, tsz9, tz9, bo9, tk103, tsz103, tz103, bo103, tk105, tsz105, tz105, bo105, wObj]; rfl) ?_)) ?_)
        refine tri_cond rfl (fun h => by cases h) (fun _ => then_skip ?_)
        refine seq_run ok0 rfl (by repeat (first | with_reducible exact runf_nil | refine runf_cons (by simp only [runf, xstep, stepf, stepx, evsA, qev, St.ev, St.put, St.with, D.cells, D.cell, D.int, boxA, qload, cellsAt, qmk, C.cpy, TK.agg, qnil, qfieldAddr, qpart, qfield, qindexAddr, qindex, qpick, qint, qshift, qstr, isEq, qeq, isShift, qbin, qun, qconv, qbounds, qslice, qlen, qext, omap, q2, qbuiltin, liveR, C.st, C.cp, C.dat, storeA, putCells, constD, constC, List.getElem?_cons_zero, List.getElem?_cons_succ, List.set_cons_zero, List.set_cons_succ, List.replicate, List.length_cons, List.length_nil, List.cons_append, List.nil_append, List.append_nil, List.map_nil, List.map_cons, List.all_cons, List.all_nil, List.take_succ_cons, List.take_zero, List.drop_succ_cons, List.drop_zero, List.singleton_append, Option.bind_some, Option.bind_none, Option.map_some, Option.map_none, Bool.and_true, Bool.true_and, Nat.reduceAdd, Nat.reduceSub, Nat.reduceMul, Nat.reduceEqDiff, reduceIte, if_true, if_false, and_self, and_true, true_and, decide_true, decide_false, Bool.not_true, Bool.not_false, cond_true, cond_false, forall_const, List.getElem?_toArray, Option.some.injEq, ne_eq, not_false_eq_true, Array.toList, reduceCtorEq, Int.reduceLT, Int.reduceLE, Int.reduceToNat, Nat.reduceLeDiff, Nat.reduceLT, Nat.le_refl, Nat.reduceBNe, Nat.reduceBEq, Bool.false_eq_true, implies_true, Nat.add_zero, Nat.zero_add, bne_self_eq_false, beq_self_eq_true, Bool.and_self, Bool.or_true, Bool.or_false, Bool.true_or, Bool.false_or, Bool.false_and, Bool.and_false, tk3, tsz3, tz3, bo3, tk4, tsz4, tz4, bo4, tk9, tsz9, tz9, bo9, tk103, tsz103, tz103, bo103, tk105, tsz105, tz105, bo105, wObj]; rfl) ?_)) ?_
        refine tri_ret (ends_ret (by simp only [outRes, resDs, resD, outDs, outD, outC, runf, xstep, stepf, stepx, evsA, qev, St.ev, St.put, St.with, D.cells, D.cell, D.int, boxA, qload, cellsAt, qmk, C.cpy, TK.agg, qnil, qfieldAddr, qpart, qfield, qindexAddr, qindex, qpick, qint, qshift, qstr, isEq, qeq, isShift, qbin, qun, qconv, qbounds, qslice, qlen, qext, omap, q2, qbuiltin, liveR, C.st, C.cp, C.dat, storeA, putCells, constD, constC, List.getElem?_cons_zero, List.getElem?_cons_succ, List.set_cons_zero, List.set_cons_succ, List.replicate, List.length_cons, List.length_nil, List.cons_append, List.nil_append, List.append_nil, List.map_nil, List.map_cons, List.all_cons, List.all_nil, List.take_succ_cons, List.take_zero, List.drop_succ_cons, List.drop_zero, List.singleton_append, Option.bind_some, Option.bind_none, Option.map_some, Option.map_none, Bool.and_true, Bool.true_and, Nat.reduceAdd, Nat.reduceSub, Nat.reduceMul, Nat.reduceEqDiff, reduceIte, if_true, if_false, and_self, and_true, true_and, decide_true, decide_false, Bool.not_true, Bool.not_false, cond_true, cond_false, forall_const, List.getElem?_toArray, Option.some.injEq, ne_eq, not_false_eq_true, Array.toList, reduceCtorEq, Int.reduceLT, Int.reduceLE, Int.reduceToNat, Nat.reduceLeDiff, Nat.reduceLT, Nat.le_refl, Nat.reduceBNe, Nat.reduceBEq, Bool.false_eq_true, implies_true, Nat.add_zero, Nat.zero_add, bne_self_eq_false, beq_self_eq_true, Bool.and_self, Bool.or_true, Bool.or_false, Bool.true_or, Bool.false_or, Bool.false_and, Bool.and_false]; rfl) rfl .nil (by simp) ?_)
        exact hQ
  · cases hd

def textsB (s : ByteArray) (l : List ByteArray) : ByteArray := l.foldl (fun a x => a ++ textB x) s

theorem textB_size (s : ByteArray) : (textB s).size ≤ s.size + 8 := by
  unfold textB
  rw [ByteArray.size_append]
  have := numB_size s.size
  omega

theorem rightL_all {l : List ByteArray} (h : rightL l = true) : (∀ x ∈ l, x.size ≤ 8192) ∧ l.length ≤ 200 := by
  unfold rightL at h
  rw [Bool.and_eq_true, List.all_eq_true] at h
  exact ⟨fun x hx => of_decide_eq_true (h.1 x hx), of_decide_eq_true h.2⟩

/-- Writer.Texts. -/
def oWTexts : List D → List Obj → Option (D × List Obj)
  | [.c (.p 0 0 0), .c (.s false 1 rows)], [o] => (decW o).bind fun x => (decStrs rows).bind fun l => if rightL l = true ∧ x.1.size ≤ 1000000000 then
      some (.t [], [wObj (textsB (x.1 ++ numB l.length) l) (x.2 || strEq (numB l.length) ⟨#[]⟩)]) else none
  | _, _ => none

def FsR3 : Fs := { Fs.none with objs := fun k => if k = 95 then some oWNum else if k = 96 then some oWText else none }
theorem okR3 : FsOK Try.prog FsR3 := by
  refine ⟨fun _ _ h => (by cases h), fun k f h => ?_⟩
  simp only [FsR3] at h
  split at h
  · rename_i hk; subst hk; cases h; exact ⟨by kernel_rfl, meets95⟩
  split at h
  · rename_i hk; subst hk; cases h; exact ⟨by kernel_rfl, meets96⟩
  · cases h

theorem got56 : Try.prog.funcs[56]? = some Try.f56 := by kernel_rfl
theorem meets56 : Meets Try.prog 56 (detS oWTexts) := by
  refine meets_of_tri got56 rfl (n := 20) rfl (rs := []) rfl ?_
  rintro args objs Q ⟨d, os, hd, hQ⟩
  unfold oWTexts at hd
  split at hd
  · rename_i rows o
    cases hq : decW o with
    | none => rw [hq] at hd; cases hd
    | some x =>
      cases hr : decStrs rows with
      | none => rw [hq, hr] at hd; cases hd
      | some l =>
        rw [hq, hr] at hd
        simp only [Option.bind_some] at hd
        split at hd
        · rename_i hc
          obtain ⟨hright, hs⟩ := hc
          cases hd
          have := decW_eq hq
          subst this
          have := decStrs_eq hr
          subst this
          obtain ⟨s, b⟩ := x
          simp only at hs hQ
          obtain ⟨hall, hlen⟩ := rightL_all hright
          have hlm : l.length ≤ maxStr := by unfold maxStr; omega
          have hn8 := numB_size l.length
          have hN : oWNum [.c (.p 0 0 0), .c (.v (.int .i64 l.length))] [⟨2, [[.v (.string s), .v (.bool b)]]⟩] = some (.t [], [⟨2, [[.v (.string (s ++ numB l.length)), .v (.bool (b || strEq (numB l.length) ⟨#[]⟩))]]⟩]) := by
            simp only [oWNum, decW, wObj, Option.bind_some]
            rw [if_pos (by unfold maxStr; omega)]
          generalize (b || strEq (numB l.length) ⟨#[]⟩) = b' at hN hQ
          refine seq_run okR3 rfl (by repeat (first | with_reducible exact runf_nil | refine runf_cons (by simp only [runf, xstep, stepf, stepx, evsA, qev, St.ev, St.put, St.with, D.cells, D.cell, D.int, boxA, qload, cellsAt, qmk, C.cpy, TK.agg, qnil, qfieldAddr, qpart, qfield, qindexAddr, qindex, qpick, qint, qshift, qstr, isEq, qeq, isShift, qbin, qun, qconv, qbounds, qslice, qlen, qext, omap, q2, qbuiltin, liveR, C.st, C.cp, C.dat, storeA, putCells, constD, constC, List.getElem?_cons_zero, List.getElem?_cons_succ, List.set_cons_zero, List.set_cons_succ, List.replicate, List.length_cons, List.length_nil, List.cons_append, List.nil_append, List.append_nil, List.map_nil, List.map_cons, List.all_cons, List.all_nil, List.take_succ_cons, List.take_zero, List.drop_succ_cons, List.drop_zero, List.singleton_append, Option.bind_some, Option.bind_none, Option.map_some, Option.map_none, Bool.and_true, Bool.true_and, Nat.reduceAdd, Nat.reduceSub, Nat.reduceMul, Nat.reduceEqDiff, reduceIte, if_true, if_false, and_self, and_true, true_and, decide_true, decide_false, Bool.not_true, Bool.not_false, cond_true, cond_false, forall_const, List.getElem?_toArray, Option.some.injEq, ne_eq, not_false_eq_true, Array.toList, reduceCtorEq, Int.reduceLT, Int.reduceLE, Int.reduceToNat, Nat.reduceLeDiff, Nat.reduceLT, Nat.le_refl, Nat.reduceBNe, Nat.reduceBEq, Bool.false_eq_true, implies_true, Nat.add_zero, Nat.zero_add, bne_self_eq_false, beq_self_eq_true, Bool.and_self, Bool.or_true, Bool.or_false, Bool.true_or, Bool.false_or, Bool.false_and, Bool.and_false, tk3, tsz3, tz3, bo3, tk4, tsz4, tz4, bo4, tk9, tsz9, tz9, bo9, tk28, tsz28, tz28, bo28, tk103, tsz103, tz103, bo103, tk105, tsz105, tz105, bo105, callP, callO, Fs.none, dedup, rootsD, rootsC, List.flatMap_cons, List.flatMap_nil, List.filterMap_cons, List.filterMap_nil, argDs, argD, argC, argCs, List.contains_nil, List.contains_cons, objsAt, objOf, List.idxOf?, List.findIdx?, List.findIdx?.go, setObjs, D.ni, D.ni1, C.ni, C.niRow, settle, settle1, settleC, settleDs, settleCs, List.isEmpty_nil, List.isEmpty_cons, FsR3, wObj, strs_len, hlm, hN]; rfl) ?_)) ?_
          refine seq_run okR3 rfl (by repeat (first | with_reducible exact runf_nil | refine runf_cons (by simp only [runf, xstep, stepf, stepx, evsA, qev, St.ev, St.put, St.with, D.cells, D.cell, D.int, boxA, qload, cellsAt, qmk, C.cpy, TK.agg, qnil, qfieldAddr, qpart, qfield, qindexAddr, qindex, qpick, qint, qshift, qstr, isEq, qeq, isShift, qbin, qun, qconv, qbounds, qslice, qlen, qext, omap, q2, qbuiltin, liveR, C.st, C.cp, C.dat, storeA, putCells, constD, constC, List.getElem?_cons_zero, List.getElem?_cons_succ, List.set_cons_zero, List.set_cons_succ, List.replicate, List.length_cons, List.length_nil, List.cons_append, List.nil_append, List.append_nil, List.map_nil, List.map_cons, List.all_cons, List.all_nil, List.take_succ_cons, List.take_zero, List.drop_succ_cons, List.drop_zero, List.singleton_append, Option.bind_some, Option.bind_none, Option.map_some, Option.map_none, Bool.and_true, Bool.true_and, Nat.reduceAdd, Nat.reduceSub, Nat.reduceMul, Nat.reduceEqDiff, reduceIte, if_true, if_false, and_self, and_true, true_and, decide_true, decide_false, Bool.not_true, Bool.not_false, cond_true, cond_false, forall_const, List.getElem?_toArray, Option.some.injEq, ne_eq, not_false_eq_true, Array.toList, reduceCtorEq, Int.reduceLT, Int.reduceLE, Int.reduceToNat, Nat.reduceLeDiff, Nat.reduceLT, Nat.le_refl, Nat.reduceBNe, Nat.reduceBEq, Bool.false_eq_true, implies_true, Nat.add_zero, Nat.zero_add, bne_self_eq_false, beq_self_eq_true, Bool.and_self, Bool.or_true, Bool.or_false, Bool.true_or, Bool.false_or, Bool.false_and, Bool.and_false, tk3, tsz3, tz3, bo3, tk4, tsz4, tz4, bo4, tk9, tsz9, tz9, bo9, tk28, tsz28, tz28, bo28, tk103, tsz103, tz103, bo103, tk105, tsz105, tz105, bo105, strs_len, hlm]; rfl) ?_)) ?_
          refine tri_block ?_
          refine tri_loop_le (fun n A => ∃ (i : Nat) (a : ByteArray), i ≤ l.length ∧ n = l.length - i ∧ textsB a (l.drop i) = textsB (s ++ numB l.length) l ∧ a.size ≤ s.size + 8 + i * 8200 ∧
              A = ⟨[.c (.p 0 0 0), .c (.s false 1 (strs l)), .top, .top, .top, .top, .top, .top, .top, .top, .c (.s false 1 (strs l)), dI l.length, dI i, .top, .top, .top, .top, .top, .top, .top], [some ⟨false, 2, [[.v (.string a), .v (.bool b')]]⟩]⟩) l.length
            (B := ⟨[.c (.p 0 0 0), .c (.s false 1 (strs l)), .top, .top, .top, .top, .top, .top, .top, .top, .c (.s false 1 (strs l)), dI l.length, dI (0 : Nat), .top, .top, .top, .top, .top, .top, .top], [some ⟨false, 2, [[.v (.string (s ++ numB l.length)), .v (.bool b')]]⟩]⟩)
            ⟨by repeat (first | exact .nil | refine .same ?_ | refine .top ?_), rfl⟩ ⟨0, s ++ numB l.length, by omega, rfl, rfl, by rw [ByteArray.size_append]; omega, rfl⟩ ?_
          rintro n A ⟨i, a, hi, rfl, ht, ha, rfl⟩
          refine seq_run okR3 rfl (by repeat (first | with_reducible exact runf_nil | refine runf_cons (by simp only [runf, xstep, stepf, stepx, evsA, qev, St.ev, St.put, St.with, D.cells, D.cell, D.int, boxA, qload, cellsAt, qmk, C.cpy, TK.agg, qnil, qfieldAddr, qpart, qfield, qindexAddr, qindex, qpick, qint, qshift, qstr, isEq, qeq, isShift, qbin, qun, qconv, qbounds, qslice, qlen, qext, omap, q2, qbuiltin, liveR, C.st, C.cp, C.dat, storeA, putCells, constD, constC, List.getElem?_cons_zero, List.getElem?_cons_succ, List.set_cons_zero, List.set_cons_succ, List.replicate, List.length_cons, List.length_nil, List.cons_append, List.nil_append, List.append_nil, List.map_nil, List.map_cons, List.all_cons, List.all_nil, List.take_succ_cons, List.take_zero, List.drop_succ_cons, List.drop_zero, List.singleton_append, Option.bind_some, Option.bind_none, Option.map_some, Option.map_none, Bool.and_true, Bool.true_and, Nat.reduceAdd, Nat.reduceSub, Nat.reduceMul, Nat.reduceEqDiff, reduceIte, if_true, if_false, and_self, and_true, true_and, decide_true, decide_false, Bool.not_true, Bool.not_false, cond_true, cond_false, forall_const, List.getElem?_toArray, Option.some.injEq, ne_eq, not_false_eq_true, Array.toList, reduceCtorEq, Int.reduceLT, Int.reduceLE, Int.reduceToNat, Nat.reduceLeDiff, Nat.reduceLT, Nat.le_refl, Nat.reduceBNe, Nat.reduceBEq, Bool.false_eq_true, implies_true, Nat.add_zero, Nat.zero_add, bne_self_eq_false, beq_self_eq_true, Bool.and_self, Bool.or_true, Bool.or_false, Bool.true_or, Bool.false_or, Bool.false_and, Bool.and_false, dI]; rfl) ?_)) ?_
          refine seq_cond rfl (fun h => then_skip ?_) (fun h => tri_exit ?_)
          · have hil : i < l.length := by have := of_decide_eq_true h; omega
            obtain ⟨x, hx⟩ : ∃ x, l[i]? = some x := ⟨l[i], List.getElem?_eq_getElem hil⟩
            have hxs := hall x (List.mem_of_getElem? hx)
            have hdx : l.drop i = x :: l.drop (i + 1) := by rw [List.drop_eq_getElem_cons hil]; rw [List.getElem?_eq_getElem hil] at hx; cases hx; rfl
            have hxt := textB_size x
            have hT : oWText [.c (.p 0 0 0), .c (.v (.string x))] [⟨2, [[.v (.string a), .v (.bool b')]]⟩] = some (.t [], [⟨2, [[.v (.string (a ++ textB x)), .v (.bool b')]]⟩]) := by
              simp only [oWText, decW, wObj, Option.bind_some]
              rw [if_pos ⟨by unfold maxStr; omega, by unfold maxStr; omega⟩]
            refine seq_block ?_
            refine seq_run okR3 rfl (by repeat (first | with_reducible exact runf_nil | refine runf_cons (by simp only [runf, xstep, stepf, stepx, evsA, qev, St.ev, St.put, St.with, D.cells, D.cell, D.int, boxA, qload, cellsAt, qmk, C.cpy, TK.agg, qnil, qfieldAddr, qpart, qfield, qindexAddr, qindex, qpick, qint, qshift, qstr, isEq, qeq, isShift, qbin, qun, qconv, qbounds, qslice, qlen, qext, omap, q2, qbuiltin, liveR, C.st, C.cp, C.dat, storeA, putCells, constD, constC, List.getElem?_cons_zero, List.getElem?_cons_succ, List.set_cons_zero, List.set_cons_succ, List.replicate, List.length_cons, List.length_nil, List.cons_append, List.nil_append, List.append_nil, List.map_nil, List.map_cons, List.all_cons, List.all_nil, List.take_succ_cons, List.take_zero, List.drop_succ_cons, List.drop_zero, List.singleton_append, Option.bind_some, Option.bind_none, Option.map_some, Option.map_none, Bool.and_true, Bool.true_and, Nat.reduceAdd, Nat.reduceSub, Nat.reduceMul, Nat.reduceEqDiff, reduceIte, if_true, if_false, and_self, and_true, true_and, decide_true, decide_false, Bool.not_true, Bool.not_false, cond_true, cond_false, forall_const, List.getElem?_toArray, Option.some.injEq, ne_eq, not_false_eq_true, Array.toList, reduceCtorEq, Int.reduceLT, Int.reduceLE, Int.reduceToNat, Nat.reduceLeDiff, Nat.reduceLT, Nat.le_refl, Nat.reduceBNe, Nat.reduceBEq, Bool.false_eq_true, implies_true, Nat.add_zero, Nat.zero_add, bne_self_eq_false, beq_self_eq_true, Bool.and_self, Bool.or_true, Bool.or_false, Bool.true_or, Bool.false_or, Bool.false_and, Bool.and_false, dI, tk3, tsz3, tz3, bo3, tk4, tsz4, tz4, bo4, tk9, tsz9, tz9, bo9, tk28, tsz28, tz28, bo28, tk103, tsz103, tz103, bo103, tk105, tsz105, tz105, bo105, strs_len, Int.toNat_natCast, Int.natCast_nonneg, strs_get l i x hx, show ((i : Int) < (l.length : Int)) = True from eq_true (by omega)]; rfl) ?_)) ?_
            refine run_end okR3 rfl (by repeat (first | with_reducible exact runf_nil | refine runf_cons (by simp only [runf, xstep, stepf, stepx, evsA, qev, St.ev, St.put, St.with, D.cells, D.cell, D.int, boxA, qload, cellsAt, qmk, C.cpy, TK.agg, qnil, qfieldAddr, qpart, qfield, qindexAddr, qindex, qpick, qint, qshift, qstr, isEq, qeq, isShift, qbin, qun, qconv, qbounds, qslice, qlen, qext, omap, q2, qbuiltin, liveR, C.st, C.cp, C.dat, storeA, putCells, constD, constC, List.getElem?_cons_zero, List.getElem?_cons_succ, List.set_cons_zero, List.set_cons_succ, List.replicate, List.length_cons, List.length_nil, List.cons_append, List.nil_append, List.append_nil, List.map_nil, List.map_cons, List.all_cons, List.all_nil, List.take_succ_cons, List.take_zero, List.drop_succ_cons, List.drop_zero, List.singleton_append, Option.bind_some, Option.bind_none, Option.map_some, Option.map_none, Bool.and_true, Bool.true_and, Nat.reduceAdd, Nat.reduceSub, Nat.reduceMul, Nat.reduceEqDiff, reduceIte, if_true, if_false, and_self, and_true, true_and, decide_true, decide_false, Bool.not_true, Bool.not_false, cond_true, cond_false, forall_const, List.getElem?_toArray, Option.some.injEq, ne_eq, not_false_eq_true, Array.toList, reduceCtorEq, Int.reduceLT, Int.reduceLE, Int.reduceToNat, Nat.reduceLeDiff, Nat.reduceLT, Nat.le_refl, Nat.reduceBNe, Nat.reduceBEq, Bool.false_eq_true, implies_true, Nat.add_zero, Nat.zero_add, bne_self_eq_false, beq_self_eq_true, Bool.and_self, Bool.or_true, Bool.or_false, Bool.true_or, Bool.false_or, Bool.false_and, Bool.and_false, tk3, tsz3, tz3, bo3, tk4, tsz4, tz4, bo4, tk9, tsz9, tz9, bo9, tk28, tsz28, tz28, bo28, tk103, tsz103, tz103, bo103, tk105, tsz105, tz105, bo105, callP, callO, Fs.none, dedup, rootsD, rootsC, List.flatMap_cons, List.flatMap_nil, List.filterMap_cons, List.filterMap_nil, argDs, argD, argC, argCs, List.contains_nil, List.contains_cons, objsAt, objOf, List.idxOf?, List.findIdx?, List.findIdx?.go, setObjs, D.ni, D.ni1, C.ni, C.niRow, settle, settle1, settleC, settleDs, settleCs, List.isEmpty_nil, List.isEmpty_cons, FsR3, hT]; rfl) ?_)) ?_
            refine run_end okR3 rfl (by repeat (first | with_reducible exact runf_nil | refine runf_cons (by simp only [runf, xstep, stepf, stepx, evsA, qev, St.ev, St.put, St.with, D.cells, D.cell, D.int, boxA, qload, cellsAt, qmk, C.cpy, TK.agg, qnil, qfieldAddr, qpart, qfield, qindexAddr, qindex, qpick, qint, qshift, qstr, isEq, qeq, isShift, qbin, qun, qconv, qbounds, qslice, qlen, qext, omap, q2, qbuiltin, liveR, C.st, C.cp, C.dat, storeA, putCells, constD, constC, List.getElem?_cons_zero, List.getElem?_cons_succ, List.set_cons_zero, List.set_cons_succ, List.replicate, List.length_cons, List.length_nil, List.cons_append, List.nil_append, List.append_nil, List.map_nil, List.map_cons, List.all_cons, List.all_nil, List.take_succ_cons, List.take_zero, List.drop_succ_cons, List.drop_zero, List.singleton_append, Option.bind_some, Option.bind_none, Option.map_some, Option.map_none, Bool.and_true, Bool.true_and, Nat.reduceAdd, Nat.reduceSub, Nat.reduceMul, Nat.reduceEqDiff, reduceIte, if_true, if_false, and_self, and_true, true_and, decide_true, decide_false, Bool.not_true, Bool.not_false, cond_true, cond_false, forall_const, List.getElem?_toArray, Option.some.injEq, ne_eq, not_false_eq_true, Array.toList, reduceCtorEq, Int.reduceLT, Int.reduceLE, Int.reduceToNat, Nat.reduceLeDiff, Nat.reduceLT, Nat.le_refl, Nat.reduceBNe, Nat.reduceBEq, Bool.false_eq_true, implies_true, Nat.add_zero, Nat.zero_add, bne_self_eq_false, beq_self_eq_true, Bool.and_self, Bool.or_true, Bool.or_false, Bool.true_or, Bool.false_or, Bool.false_and, Bool.and_false, wrap_succ i l.length hil hlm]; rfl) ?_)) ?_
            exact ⟨l.length - (i + 1), by omega, ⟨[.c (.p 0 0 0), .c (.s false 1 (strs l)), .top, .top, .top, .top, .top, .top, .top, .top, .c (.s false 1 (strs l)), dI l.length, dI (i + 1 : Nat), .top, .top, .top, .top, .top, .top, .top], [some ⟨false, 2, [[.v (.string (a ++ textB x)), .v (.bool b')]]⟩]⟩,
              ⟨by repeat (first | exact .nil | refine .same ?_ | refine .top ?_), rfl⟩, i + 1, a ++ textB x, hil, rfl, by rw [← ht, hdx]; rfl, by rw [ByteArray.size_append]; omega, rfl⟩
          · have hil : i = l.length := by have := of_decide_eq_false h; omega
            subst hil
            rw [List.drop_length] at ht
            refine ends_norm rfl rfl .nil (by simp) ?_
            have : a = textsB (s ++ numB l.length) l := ht
            subst this
            exact hQ
        · cases hd
  · cases hd

end Go.Dl
