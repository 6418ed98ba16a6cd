/- The walk of the queue's Drop; The walk of the queue law's drop; In plain Lean: up and down keep the order. -/
import Derived.Test.YtoamlicfbmhajaaUa
namespace Go.Dl
open Go.RowKit
open Go.Proofs
set_option linter.unusedSimpArgs false
set_option linter.unusedVariables false

def dropQ (l : List (Int × Int)) (v : Int) : List (Int × Int) :=
  match posQ l v with
  | none => l
  | some k => (l.eraseIdx k).foldl addQ []

theorem addQ_len (l : List (Int × Int)) (d : Int × Int) : (addQ l d).length = l.length + 1 := (addQ_perm l d).length_eq
theorem fold_len : ∀ (l q : List (Int × Int)), (l.foldl addQ q).length = q.length + l.length
  | [], q => by simp
  | d :: l, q => by rw [List.foldl_cons, fold_len l, addQ_len, List.length_cons]; omega

theorem erase_eq (l : List (Int × Int)) (k : Nat) : (l.take (k + 1)).eraseIdx k = (l.take k).eraseIdx k := by
  rw [List.eraseIdx_eq_take_drop_succ, List.eraseIdx_of_length_le (by rw [List.length_take]; omega), List.take_take, List.drop_of_length_le (by rw [List.length_take]; omega), List.append_nil, Nat.min_eq_left (by omega)]
theorem erase_ne {l : List (Int × Int)} {k i : Nat} {x : Int × Int} (hx : l[i]? = some x) (h : ¬ i = k) : (l.take (i + 1)).eraseIdx k = (l.take i).eraseIdx k ++ [x] := by
  have hi := lt_len hx
  have ht : l.take (i + 1) = l.take i ++ [x] := by rw [List.take_add_one, hx]; rfl
  rw [ht]
  by_cases hk : k < i
  · rw [List.eraseIdx_append_of_lt_length (by rw [List.length_take]; omega)]
  · rw [List.eraseIdx_of_length_le (by rw [List.length_append, List.length_take, List.length_singleton]; omega), List.eraseIdx_of_length_le (by rw [List.length_take]; omega)]

/-- Drop. -/
def oDrop : List D → List Obj → Option (D × List Obj)
  | [.c (.p 0 0 0), .c (.v (.int .i64 v))], [o] => (decQ o).bind fun l => if l.length ≤ 1000000 then some (dB (posQ l v).isSome, [qObj (dropQ l v)]) else none
  | _, _ => none

def FsT3 : Fs := { Fs.none with objs := fun k => if k = 42 then some oAdd else none }
theorem okT3 : FsOK Try.prog FsT3 := by
  refine ⟨fun _ _ h => (by cases h), fun k f h => ?_⟩
  simp only [FsT3] at h
  split at h
  · rename_i hk; subst hk; cases h; exact ⟨by kernel_rfl, meets42⟩
  · cases h

theorem got86 : Try.prog.funcs[86]? = some Try.f86 := by kernel_rfl
theorem meets86 : Meets Try.prog 86 (detS oDrop) := by
  refine meets_of_tri got86 rfl (n := 40) rfl (rs := [ResultVar.tmp 4]) rfl ?_
  rintro args objs Q ⟨d, os, hd, hQ⟩
  unfold oDrop at hd
  split at hd
  · rename_i v o
    cases hq : decQ o with
    | none => rw [hq] at hd; cases hd
    | some l =>
      rw [hq] at hd
      simp only [Option.bind_some] at hd
      split at hd
      · rename_i hlen
        cases hd
        obtain ⟨es, rfl, hes⟩ := decQ_eq hq
        have hlm : l.length ≤ maxStr := by unfold maxStr; omega
        have hI := idx_pos l v 0
        refine seq_run ok0 rfl (by repeat (first | with_reducible exact runf_nil | refine runf_cons (by simp only [runf, xstep, stepf, stepx, evsA, qev, St.ev, St.put, St.with, D.cells, D.cell, D.int, boxA, qload, cellsAt, qmk, C.cpy, TK.agg, qnil, qfieldAddr, qpart, qfield, qindexAddr, qindex, qpick, qint, qshift, qstr, isEq, qeq, isShift, qbin, eqC, eqCs, qun, qconv, qbounds, qslice, qlen, qext, omap, q2, qbuiltin, liveR, C.st, C.cp, C.dat, storeA, putCells, constD, constC, List.getElem?_cons_zero, List.getElem?_cons_succ, List.set_cons_zero, List.set_cons_succ, List.replicate, List.length_cons, List.length_nil, List.cons_append, List.nil_append, List.append_nil, List.map_nil, List.map_cons, List.all_cons, List.all_nil, List.take_succ_cons, List.take_zero, List.drop_succ_cons, List.drop_zero, List.singleton_append, Option.bind_some, Option.bind_none, Option.map_some, Option.map_none, Bool.and_true, Bool.true_and, Nat.reduceAdd, Nat.reduceSub, Nat.reduceMul, Nat.reduceEqDiff, reduceIte, if_true, if_false, and_self, and_true, true_and, decide_true, decide_false, Bool.not_true, Bool.not_false, cond_true, cond_false, forall_const, List.getElem?_toArray, Option.some.injEq, ne_eq, not_false_eq_true, Array.toList, reduceCtorEq, Int.reduceLT, Int.reduceLE, Int.reduceToNat, Nat.reduceLeDiff, Nat.reduceLT, Nat.le_refl, Nat.reduceBNe, Nat.reduceBEq, Bool.false_eq_true, implies_true, Nat.add_zero, Nat.zero_add, bne_self_eq_false, beq_self_eq_true, Bool.and_self, Bool.or_true, Bool.or_false, Bool.true_or, Bool.false_or, Bool.false_and, Bool.and_false, tk3, tsz3, tz3, bo3, tk3, tsz3, tz3, bo3, tk4, tsz4, tz4, bo4]; rfl) ?_)) ?_
        refine seq_in (seq_run ok0 rfl (by repeat (first | with_reducible exact runf_nil | refine runf_cons (by simp only [runf, xstep, stepf, stepx, evsA, qev, St.ev, St.put, St.with, D.cells, D.cell, D.int, boxA, qload, cellsAt, qmk, C.cpy, TK.agg, qnil, qfieldAddr, qpart, qfield, qindexAddr, qindex, qpick, qint, qshift, qstr, isEq, qeq, isShift, qbin, eqC, eqCs, qun, qconv, qbounds, qslice, qlen, qext, omap, q2, qbuiltin, liveR, C.st, C.cp, C.dat, storeA, putCells, constD, constC, List.getElem?_cons_zero, List.getElem?_cons_succ, List.set_cons_zero, List.set_cons_succ, List.replicate, List.length_cons, List.length_nil, List.cons_append, List.nil_append, List.append_nil, List.map_nil, List.map_cons, List.all_cons, List.all_nil, List.take_succ_cons, List.take_zero, List.drop_succ_cons, List.drop_zero, List.singleton_append, Option.bind_some, Option.bind_none, Option.map_some, Option.map_none, Bool.and_true, Bool.true_and, Nat.reduceAdd, Nat.reduceSub, Nat.reduceMul, Nat.reduceEqDiff, reduceIte, if_true, if_false, and_self, and_true, true_and, decide_true, decide_false, Bool.not_true, Bool.not_false, cond_true, cond_false, forall_const, List.getElem?_toArray, Option.some.injEq, ne_eq, not_false_eq_true, Array.toList, reduceCtorEq, Int.reduceLT, Int.reduceLE, Int.reduceToNat, Nat.reduceLeDiff, Nat.reduceLT, Nat.le_refl, Nat.reduceBNe, Nat.reduceBEq, Bool.false_eq_true, implies_true, Nat.add_zero, Nat.zero_add, bne_self_eq_false, beq_self_eq_true, Bool.and_self, Bool.or_true, Bool.or_false, Bool.true_or, Bool.false_or, Bool.false_and, Bool.and_false, tk74]; rfl) ?_)) ?_)
        refine tri_cond rfl (fun h => by cases h) (fun _ => then_skip ?_)
        refine tri_open 0 0 0 2 (open_q hes) ?_
        refine seq_runR ?_
        refine rr_det ok0 rfl (by simp only [runf, xstep, stepf, stepx, evsA, qev, St.ev, St.put, St.with, D.cells, D.cell, D.int, boxA, qload, cellsAt, qmk, C.cpy, TK.agg, qnil, qfieldAddr, qpart, qfield, qindexAddr, qindex, qpick, qint, qshift, qstr, isEq, qeq, isShift, qbin, eqC, eqCs, qun, qconv, qbounds, qslice, qlen, qext, omap, q2, qbuiltin, liveR, C.st, C.cp, C.dat, storeA, putCells, constD, constC, List.getElem?_cons_zero, List.getElem?_cons_succ, List.set_cons_zero, List.set_cons_succ, List.replicate, List.length_cons, List.length_nil, List.cons_append, List.nil_append, List.append_nil, List.map_nil, List.map_cons, List.all_cons, List.all_nil, List.take_succ_cons, List.take_zero, List.drop_succ_cons, List.drop_zero, List.singleton_append, Option.bind_some, Option.bind_none, Option.map_some, Option.map_none, Bool.and_true, Bool.true_and, Nat.reduceAdd, Nat.reduceSub, Nat.reduceMul, Nat.reduceEqDiff, reduceIte, if_true, if_false, and_self, and_true, true_and, decide_true, decide_false, Bool.not_true, Bool.not_false, cond_true, cond_false, forall_const, List.getElem?_toArray, Option.some.injEq, ne_eq, not_false_eq_true, Array.toList, reduceCtorEq, Int.reduceLT, Int.reduceLE, Int.reduceToNat, Nat.reduceLeDiff, Nat.reduceLT, Nat.le_refl, Nat.reduceBNe, Nat.reduceBEq, Bool.false_eq_true, implies_true, Nat.add_zero, Nat.zero_add, bne_self_eq_false, beq_self_eq_true, Bool.and_self, Bool.or_true, Bool.or_false, Bool.true_or, Bool.false_or, Bool.false_and, Bool.and_false]; rfl) ?_
        refine rr_det ok0 rfl (by simp only [runf, xstep, stepf, stepx, evsA, qev, St.ev, St.put, St.with, D.cells, D.cell, D.int, boxA, qload, cellsAt, qmk, C.cpy, TK.agg, qnil, qfieldAddr, qpart, qfield, qindexAddr, qindex, qpick, qint, qshift, qstr, isEq, qeq, isShift, qbin, eqC, eqCs, qun, qconv, qbounds, qslice, qlen, qext, omap, q2, qbuiltin, liveR, C.st, C.cp, C.dat, storeA, putCells, constD, constC, List.getElem?_cons_zero, List.getElem?_cons_succ, List.set_cons_zero, List.set_cons_succ, List.replicate, List.length_cons, List.length_nil, List.cons_append, List.nil_append, List.append_nil, List.map_nil, List.map_cons, List.all_cons, List.all_nil, List.take_succ_cons, List.take_zero, List.drop_succ_cons, List.drop_zero, List.singleton_append, Option.bind_some, Option.bind_none, Option.map_some, Option.map_none, Bool.and_true, Bool.true_and, Nat.reduceAdd, Nat.reduceSub, Nat.reduceMul, Nat.reduceEqDiff, reduceIte, if_true, if_false, and_self, and_true, true_and, decide_true, decide_false, Bool.not_true, Bool.not_false, cond_true, cond_false, forall_const, List.getElem?_toArray, Option.some.injEq, ne_eq, not_false_eq_true, Array.toList, reduceCtorEq, Int.reduceLT, Int.reduceLE, Int.reduceToNat, Nat.reduceLeDiff, Nat.reduceLT, Nat.le_refl, Nat.reduceBNe, Nat.reduceBEq, Bool.false_eq_true, implies_true, Nat.add_zero, Nat.zero_add, bne_self_eq_false, beq_self_eq_true, Bool.and_self, Bool.or_true, Bool.or_false, Bool.true_or, Bool.false_or, Bool.false_and, Bool.and_false]; rfl) ?_
        refine rr_det ok0 rfl (by simp only [runf, xstep, stepf, stepx, evsA, qev, St.ev, St.put, St.with, D.cells, D.cell, D.int, boxA, qload, cellsAt, qmk, C.cpy, TK.agg, qnil, qfieldAddr, qpart, qfield, qindexAddr, qindex, qpick, qint, qshift, qstr, isEq, qeq, isShift, qbin, eqC, eqCs, qun, qconv, qbounds, qslice, qlen, qext, omap, q2, qbuiltin, liveR, C.st, C.cp, C.dat, storeA, putCells, constD, constC, List.getElem?_cons_zero, List.getElem?_cons_succ, List.set_cons_zero, List.set_cons_succ, List.replicate, List.length_cons, List.length_nil, List.cons_append, List.nil_append, List.append_nil, List.map_nil, List.map_cons, List.all_cons, List.all_nil, List.take_succ_cons, List.take_zero, List.drop_succ_cons, List.drop_zero, List.singleton_append, Option.bind_some, Option.bind_none, Option.map_some, Option.map_none, Bool.and_true, Bool.true_and, Nat.reduceAdd, Nat.reduceSub, Nat.reduceMul, Nat.reduceEqDiff, reduceIte, if_true, if_false, and_self, and_true, true_and, decide_true, decide_false, Bool.not_true, Bool.not_false, cond_true, cond_false, forall_const, List.getElem?_toArray, Option.some.injEq, ne_eq, not_false_eq_true, Array.toList, reduceCtorEq, Int.reduceLT, Int.reduceLE, Int.reduceToNat, Nat.reduceLeDiff, Nat.reduceLT, Nat.le_refl, Nat.reduceBNe, Nat.reduceBEq, Bool.false_eq_true, implies_true, Nat.add_zero, Nat.zero_add, bne_self_eq_false, beq_self_eq_true, Bool.and_self, Bool.or_true, Bool.or_false, Bool.true_or, Bool.false_or, Bool.false_and, Bool.and_false, tk76, tsz73]; rfl) ?_
        refine rr_det ok0 rfl (by simp only [runf, xstep, stepf, stepx, evsA, qev, St.ev, St.put, St.with, D.cells, D.cell, D.int, boxA, qload, cellsAt, qmk, C.cpy, TK.agg, qnil, qfieldAddr, qpart, qfield, qindexAddr, qindex, qpick, qint, qshift, qstr, isEq, qeq, isShift, qbin, eqC, eqCs, qun, qconv, qbounds, qslice, qlen, qext, omap, q2, qbuiltin, liveR, C.st, C.cp, C.dat, storeA, putCells, constD, constC, List.getElem?_cons_zero, List.getElem?_cons_succ, List.set_cons_zero, List.set_cons_succ, List.replicate, List.length_cons, List.length_nil, List.cons_append, List.nil_append, List.append_nil, List.map_nil, List.map_cons, List.all_cons, List.all_nil, List.take_succ_cons, List.take_zero, List.drop_succ_cons, List.drop_zero, List.singleton_append, Option.bind_some, Option.bind_none, Option.map_some, Option.map_none, Bool.and_true, Bool.true_and, Nat.reduceAdd, Nat.reduceSub, Nat.reduceMul, Nat.reduceEqDiff, reduceIte, if_true, if_false, and_self, and_true, true_and, decide_true, decide_false, Bool.not_true, Bool.not_false, cond_true, cond_false, forall_const, List.getElem?_toArray, Option.some.injEq, ne_eq, not_false_eq_true, Array.toList, reduceCtorEq, Int.reduceLT, Int.reduceLE, Int.reduceToNat, Nat.reduceLeDiff, Nat.reduceLT, Nat.le_refl, Nat.reduceBNe, Nat.reduceBEq, Bool.false_eq_true, implies_true, Nat.add_zero, Nat.zero_add, bne_self_eq_false, beq_self_eq_true, Bool.and_self, Bool.or_true, Bool.or_false, Bool.true_or, Bool.false_or, Bool.false_and, Bool.and_false, tk76, tk73, tsz73]; rfl) ?_
        refine rr_makeFunc (caps := [.p 1 0 0]) rfl rfl rfl rfl ?_
        refine rr_callF (ρ := [1]) (objs := [seqObj v]) (objs' := [seqObj v]) (d := dI (idxD l v 0)) rfl rfl rfl rfl rfl (by kernel_rfl) rfl (by simp only [argFs, argF, argD, argC, argCs, callP, callO, Fs.none, dedup, rootsD, rootsC, List.flatMap_cons, List.flatMap_nil, List.filterMap_cons, List.filterMap_nil, argDs, argD, argC, argCs, List.contains_nil, List.contains_cons, objsAt, objOf, List.idxOf?, List.findIdx?, List.findIdx?.go, setObjs, D.ni, D.ni1, C.ni, C.niRow, settle, settle1, settleC, settleDs, settleCs, List.isEmpty_nil, List.isEmpty_cons, runf, xstep, stepf, stepx, evsA, qev, St.ev, St.put, St.with, D.cells, D.cell, D.int, boxA, qload, cellsAt, qmk, C.cpy, TK.agg, qnil, qfieldAddr, qpart, qfield, qindexAddr, qindex, qpick, qint, qshift, qstr, isEq, qeq, isShift, qbin, eqC, eqCs, qun, qconv, qbounds, qslice, qlen, qext, omap, q2, qbuiltin, liveR, C.st, C.cp, C.dat, storeA, putCells, constD, constC, List.getElem?_cons_zero, List.getElem?_cons_succ, List.set_cons_zero, List.set_cons_succ, List.replicate, List.length_cons, List.length_nil, List.cons_append, List.nil_append, List.append_nil, List.map_nil, List.map_cons, List.all_cons, List.all_nil, List.take_succ_cons, List.take_zero, List.drop_succ_cons, List.drop_zero, List.singleton_append, Option.bind_some, Option.bind_none, Option.map_some, Option.map_none, Bool.and_true, Bool.true_and, Nat.reduceAdd, Nat.reduceSub, Nat.reduceMul, Nat.reduceEqDiff, reduceIte, if_true, if_false, and_self, and_true, true_and, decide_true, decide_false, Bool.not_true, Bool.not_false, cond_true, cond_false, forall_const, List.getElem?_toArray, Option.some.injEq, ne_eq, not_false_eq_true, Array.toList, reduceCtorEq, Int.reduceLT, Int.reduceLE, Int.reduceToNat, Nat.reduceLeDiff, Nat.reduceLT, Nat.le_refl, Nat.reduceBNe, Nat.reduceBEq, Bool.false_eq_true, implies_true, Nat.add_zero, Nat.zero_add, bne_self_eq_false, beq_self_eq_true, Bool.and_self, Bool.or_true, Bool.or_false, Bool.true_or, Bool.false_or, Bool.false_and, Bool.and_false, dues_all, dues_cps, List.length_map, List.take_of_length_le]; rfl) (by simp) (by simp only [objsAt, objOf, runf, xstep, stepf, stepx, evsA, qev, St.ev, St.put, St.with, D.cells, D.cell, D.int, boxA, qload, cellsAt, qmk, C.cpy, TK.agg, qnil, qfieldAddr, qpart, qfield, qindexAddr, qindex, qpick, qint, qshift, qstr, isEq, qeq, isShift, qbin, eqC, eqCs, qun, qconv, qbounds, qslice, qlen, qext, omap, q2, qbuiltin, liveR, C.st, C.cp, C.dat, storeA, putCells, constD, constC, List.getElem?_cons_zero, List.getElem?_cons_succ, List.set_cons_zero, List.set_cons_succ, List.replicate, List.length_cons, List.length_nil, List.cons_append, List.nil_append, List.append_nil, List.map_nil, List.map_cons, List.all_cons, List.all_nil, List.take_succ_cons, List.take_zero, List.drop_succ_cons, List.drop_zero, List.singleton_append, Option.bind_some, Option.bind_none, Option.map_some, Option.map_none, Bool.and_true, Bool.true_and, Nat.reduceAdd, Nat.reduceSub, Nat.reduceMul, Nat.reduceEqDiff, reduceIte, if_true, if_false, and_self, and_true, true_and, decide_true, decide_false, Bool.not_true, Bool.not_false, cond_true, cond_false, forall_const, List.getElem?_toArray, Option.some.injEq, ne_eq, not_false_eq_true, Array.toList, reduceCtorEq, Int.reduceLT, Int.reduceLE, Int.reduceToNat, Nat.reduceLeDiff, Nat.reduceLT, Nat.le_refl, Nat.reduceBNe, Nat.reduceBEq, Bool.false_eq_true, implies_true, Nat.add_zero, Nat.zero_add, bne_self_eq_false, beq_self_eq_true, Bool.and_self, Bool.or_true, Bool.or_false, Bool.true_or, Bool.false_or, Bool.false_and, Bool.and_false]) meets127 ⟨dI (idxD l v 0), [seqObj v], by simp only [oIdx127, decDues_map, Option.bind_some, if_pos hlen], rfl, rfl⟩ (.inr ⟨rfl, by simp [Obj.ni, C.niRows, C.niRow, C.ni]⟩) ?_
        refine rr_det ok0 rfl (by simp only [runf, xstep, stepf, stepx, evsA, qev, St.ev, St.put, St.with, D.cells, D.cell, D.int, boxA, qload, cellsAt, qmk, C.cpy, TK.agg, qnil, qfieldAddr, qpart, qfield, qindexAddr, qindex, qpick, qint, qshift, qstr, isEq, qeq, isShift, qbin, eqC, eqCs, qun, qconv, qbounds, qslice, qlen, qext, omap, q2, qbuiltin, liveR, C.st, C.cp, C.dat, storeA, putCells, constD, constC, List.getElem?_cons_zero, List.getElem?_cons_succ, List.set_cons_zero, List.set_cons_succ, List.replicate, List.length_cons, List.length_nil, List.cons_append, List.nil_append, List.append_nil, List.map_nil, List.map_cons, List.all_cons, List.all_nil, List.take_succ_cons, List.take_zero, List.drop_succ_cons, List.drop_zero, List.singleton_append, Option.bind_some, Option.bind_none, Option.map_some, Option.map_none, Bool.and_true, Bool.true_and, Nat.reduceAdd, Nat.reduceSub, Nat.reduceMul, Nat.reduceEqDiff, reduceIte, if_true, if_false, and_self, and_true, true_and, decide_true, decide_false, Bool.not_true, Bool.not_false, cond_true, cond_false, forall_const, List.getElem?_toArray, Option.some.injEq, ne_eq, not_false_eq_true, Array.toList, reduceCtorEq, Int.reduceLT, Int.reduceLE, Int.reduceToNat, Nat.reduceLeDiff, Nat.reduceLT, Nat.le_refl, Nat.reduceBNe, Nat.reduceBEq, Bool.false_eq_true, implies_true, Nat.add_zero, Nat.zero_add, bne_self_eq_false, beq_self_eq_true, Bool.and_self, Bool.or_true, Bool.or_false, Bool.true_or, Bool.false_or, Bool.false_and, Bool.and_false, settle, settle1, settleC, setObjs, dI]; rfl) ?_
        refine rr_nil ?_
        cases hp : posQ l v with
        | none =>
          rw [hp] at hI hQ
          have hdq : dropQ l v = l := by simp only [dropQ, hp]
          rw [hdq] at hQ
          simp only at hI
          rw [hI]
          refine seq_in (seq_run ok0 rfl (by repeat (first | with_reducible exact runf_nil | refine runf_cons (by simp only [runf, xstep, stepf, stepx, evsA, qev, St.ev, St.put, St.with, D.cells, D.cell, D.int, boxA, qload, cellsAt, qmk, C.cpy, TK.agg, qnil, qfieldAddr, qpart, qfield, qindexAddr, qindex, qpick, qint, qshift, qstr, isEq, qeq, isShift, qbin, eqC, eqCs, qun, qconv, qbounds, qslice, qlen, qext, omap, q2, qbuiltin, liveR, C.st, C.cp, C.dat, storeA, putCells, constD, constC, List.getElem?_cons_zero, List.getElem?_cons_succ, List.set_cons_zero, List.set_cons_succ, List.replicate, List.length_cons, List.length_nil, List.cons_append, List.nil_append, List.append_nil, List.map_nil, List.map_cons, List.all_cons, List.all_nil, List.take_succ_cons, List.take_zero, List.drop_succ_cons, List.drop_zero, List.singleton_append, Option.bind_some, Option.bind_none, Option.map_some, Option.map_none, Bool.and_true, Bool.true_and, Nat.reduceAdd, Nat.reduceSub, Nat.reduceMul, Nat.reduceEqDiff, reduceIte, if_true, if_false, and_self, and_true, true_and, decide_true, decide_false, Bool.not_true, Bool.not_false, cond_true, cond_false, forall_const, List.getElem?_toArray, Option.some.injEq, ne_eq, not_false_eq_true, Array.toList, reduceCtorEq, Int.reduceLT, Int.reduceLE, Int.reduceToNat, Nat.reduceLeDiff, Nat.reduceLT, Nat.le_refl, Nat.reduceBNe, Nat.reduceBEq, Bool.false_eq_true, implies_true, Nat.add_zero, Nat.zero_add, bne_self_eq_false, beq_self_eq_true, Bool.and_self, Bool.or_true, Bool.or_false, Bool.true_or, Bool.false_or, Bool.false_and, Bool.and_false, dI, tk3, tsz3, tz3, bo3, tk3, tsz3, tz3, bo3, tk4, tsz4, tz4, bo4]; rfl) ?_)) ?_)
          refine tri_cond rfl (fun _ => ?_) (fun h => by cases h)
          refine seq_run ok0 rfl (by repeat (first | with_reducible exact runf_nil | refine runf_cons (by simp only [runf, xstep, stepf, stepx, evsA, qev, St.ev, St.put, St.with, D.cells, D.cell, D.int, boxA, qload, cellsAt, qmk, C.cpy, TK.agg, qnil, qfieldAddr, qpart, qfield, qindexAddr, qindex, qpick, qint, qshift, qstr, isEq, qeq, isShift, qbin, eqC, eqCs, qun, qconv, qbounds, qslice, qlen, qext, omap, q2, qbuiltin, liveR, C.st, C.cp, C.dat, storeA, putCells, constD, constC, List.getElem?_cons_zero, List.getElem?_cons_succ, List.set_cons_zero, List.set_cons_succ, List.replicate, List.length_cons, List.length_nil, List.cons_append, List.nil_append, List.append_nil, List.map_nil, List.map_cons, List.all_cons, List.all_nil, List.take_succ_cons, List.take_zero, List.drop_succ_cons, List.drop_zero, List.singleton_append, Option.bind_some, Option.bind_none, Option.map_some, Option.map_none, Bool.and_true, Bool.true_and, Nat.reduceAdd, Nat.reduceSub, Nat.reduceMul, Nat.reduceEqDiff, reduceIte, if_true, if_false, and_self, and_true, true_and, decide_true, decide_false, Bool.not_true, Bool.not_false, cond_true, cond_false, forall_const, List.getElem?_toArray, Option.some.injEq, ne_eq, not_false_eq_true, Array.toList, reduceCtorEq, Int.reduceLT, Int.reduceLE, Int.reduceToNat, Nat.reduceLeDiff, Nat.reduceLT, Nat.le_refl, Nat.reduceBNe, Nat.reduceBEq, Bool.false_eq_true, implies_true, Nat.add_zero, Nat.zero_add, bne_self_eq_false, beq_self_eq_true, Bool.and_self, Bool.or_true, Bool.or_false, Bool.true_or, Bool.false_or, Bool.false_and, Bool.and_false]; rfl) ?_)) ?_
          refine tri_close 0 0 0 (by simp only [closeA, runf, xstep, stepf, stepx, evsA, qev, St.ev, St.put, St.with, D.cells, D.cell, D.int, boxA, qload, cellsAt, qmk, C.cpy, TK.agg, qnil, qfieldAddr, qpart, qfield, qindexAddr, qindex, qpick, qint, qshift, qstr, isEq, qeq, isShift, qbin, eqC, eqCs, qun, qconv, qbounds, qslice, qlen, qext, omap, q2, qbuiltin, liveR, C.st, C.cp, C.dat, storeA, putCells, constD, constC, List.getElem?_cons_zero, List.getElem?_cons_succ, List.set_cons_zero, List.set_cons_succ, List.replicate, List.length_cons, List.length_nil, List.cons_append, List.nil_append, List.append_nil, List.map_nil, List.map_cons, List.all_cons, List.all_nil, List.take_succ_cons, List.take_zero, List.drop_succ_cons, List.drop_zero, List.singleton_append, Option.bind_some, Option.bind_none, Option.map_some, Option.map_none, Bool.and_true, Bool.true_and, Nat.reduceAdd, Nat.reduceSub, Nat.reduceMul, Nat.reduceEqDiff, reduceIte, if_true, if_false, and_self, and_true, true_and, decide_true, decide_false, Bool.not_true, Bool.not_false, cond_true, cond_false, forall_const, List.getElem?_toArray, Option.some.injEq, ne_eq, not_false_eq_true, Array.toList, reduceCtorEq, Int.reduceLT, Int.reduceLE, Int.reduceToNat, Nat.reduceLeDiff, Nat.reduceLT, Nat.le_refl, Nat.reduceBNe, Nat.reduceBEq, Bool.false_eq_true, implies_true, Nat.add_zero, Nat.zero_add, bne_self_eq_false, beq_self_eq_true, Bool.and_self, Bool.or_true, Bool.or_false, Bool.true_or, Bool.false_or, Bool.false_and, Bool.and_false, List.length_map]; rfl) ?_
          refine tri_ret (ends_ret (by simp only [outRes, resDs, resD, outDs, outD, outC, runf, xstep, stepf, stepx, evsA, qev, St.ev, St.put, St.with, D.cells, D.cell, D.int, boxA, qload, cellsAt, qmk, C.cpy, TK.agg, qnil, qfieldAddr, qpart, qfield, qindexAddr, qindex, qpick, qint, qshift, qstr, isEq, qeq, isShift, qbin, eqC, eqCs, qun, qconv, qbounds, qslice, qlen, qext, omap, q2, qbuiltin, liveR, C.st, C.cp, C.dat, storeA, putCells, constD, constC, List.getElem?_cons_zero, List.getElem?_cons_succ, List.set_cons_zero, List.set_cons_succ, List.replicate, List.length_cons, List.length_nil, List.cons_append, List.nil_append, List.append_nil, List.map_nil, List.map_cons, List.all_cons, List.all_nil, List.take_succ_cons, List.take_zero, List.drop_succ_cons, List.drop_zero, List.singleton_append, Option.bind_some, Option.bind_none, Option.map_some, Option.map_none, Bool.and_true, Bool.true_and, Nat.reduceAdd, Nat.reduceSub, Nat.reduceMul, Nat.reduceEqDiff, reduceIte, if_true, if_false, and_self, and_true, true_and, decide_true, decide_false, Bool.not_true, Bool.not_false, cond_true, cond_false, forall_const, List.getElem?_toArray, Option.some.injEq, ne_eq, not_false_eq_true, Array.toList, reduceCtorEq, Int.reduceLT, Int.reduceLE, Int.reduceToNat, Nat.reduceLeDiff, Nat.reduceLT, Nat.le_refl, Nat.reduceBNe, Nat.reduceBEq, Bool.false_eq_true, implies_true, Nat.add_zero, Nat.zero_add, bne_self_eq_false, beq_self_eq_true, Bool.and_self, Bool.or_true, Bool.or_false, Bool.true_or, Bool.false_or, Bool.false_and, Bool.and_false]; rfl) rfl (by simp) (by simp) ?_)
          exact hQ
        | some k =>
          rw [hp] at hI hQ
          have hdq : dropQ l v = (l.eraseIdx k).foldl addQ [] := by simp only [dropQ, hp]
          rw [hdq] at hQ
          simp only [Nat.zero_add] at hI
          rw [hI]
          have hkl : k < l.length := by obtain ⟨x, hx, _⟩ := pos_get hp; exact lt_len hx
          refine seq_in (seq_run ok0 rfl (by repeat (first | with_reducible exact runf_nil | refine runf_cons (by simp only [runf, xstep, stepf, stepx, evsA, qev, St.ev, St.put, St.with, D.cells, D.cell, D.int, boxA, qload, cellsAt, qmk, C.cpy, TK.agg, qnil, qfieldAddr, qpart, qfield, qindexAddr, qindex, qpick, qint, qshift, qstr, isEq, qeq, isShift, qbin, eqC, eqCs, qun, qconv, qbounds, qslice, qlen, qext, omap, q2, qbuiltin, liveR, C.st, C.cp, C.dat, storeA, putCells, constD, constC, List.getElem?_cons_zero, List.getElem?_cons_succ, List.set_cons_zero, List.set_cons_succ, List.replicate, List.length_cons, List.length_nil, List.cons_append, List.nil_append, List.append_nil, List.map_nil, List.map_cons, List.all_cons, List.all_nil, List.take_succ_cons, List.take_zero, List.drop_succ_cons, List.drop_zero, List.singleton_append, Option.bind_some, Option.bind_none, Option.map_some, Option.map_none, Bool.and_true, Bool.true_and, Nat.reduceAdd, Nat.reduceSub, Nat.reduceMul, Nat.reduceEqDiff, reduceIte, if_true, if_false, and_self, and_true, true_and, decide_true, decide_false, Bool.not_true, Bool.not_false, cond_true, cond_false, forall_const, List.getElem?_toArray, Option.some.injEq, ne_eq, not_false_eq_true, Array.toList, reduceCtorEq, Int.reduceLT, Int.reduceLE, Int.reduceToNat, Nat.reduceLeDiff, Nat.reduceLT, Nat.le_refl, Nat.reduceBNe, Nat.reduceBEq, Bool.false_eq_true, implies_true, Nat.add_zero, Nat.zero_add, bne_self_eq_false, beq_self_eq_true, Bool.and_self, Bool.or_true, Bool.or_false, Bool.true_or, Bool.false_or, Bool.false_and, Bool.and_false, dI, tk3, tsz3, tz3, bo3, tk3, tsz3, tz3, bo3, tk4, tsz4, tz4, bo4, show ((k : Int) < 0) = False from eq_false (by omega)]; rfl) ?_)) ?_)
          refine tri_cond rfl (fun h => by cases h) (fun _ => then_skip ?_)
          refine seq_run ok0 rfl (by repeat (first | with_reducible exact runf_nil | refine runf_cons (by simp only [runf, xstep, stepf, stepx, evsA, qev, St.ev, St.put, St.with, D.cells, D.cell, D.int, boxA, qload, cellsAt, qmk, C.cpy, TK.agg, qnil, qfieldAddr, qpart, qfield, qindexAddr, qindex, qpick, qint, qshift, qstr, isEq, qeq, isShift, qbin, eqC, eqCs, qun, qconv, qbounds, qslice, qlen, qext, omap, q2, qbuiltin, liveR, C.st, C.cp, C.dat, storeA, putCells, constD, constC, List.getElem?_cons_zero, List.getElem?_cons_succ, List.set_cons_zero, List.set_cons_succ, List.replicate, List.length_cons, List.length_nil, List.cons_append, List.nil_append, List.append_nil, List.map_nil, List.map_cons, List.all_cons, List.all_nil, List.take_succ_cons, List.take_zero, List.drop_succ_cons, List.drop_zero, List.singleton_append, Option.bind_some, Option.bind_none, Option.map_some, Option.map_none, Bool.and_true, Bool.true_and, Nat.reduceAdd, Nat.reduceSub, Nat.reduceMul, Nat.reduceEqDiff, reduceIte, if_true, if_false, and_self, and_true, true_and, decide_true, decide_false, Bool.not_true, Bool.not_false, cond_true, cond_false, forall_const, List.getElem?_toArray, Option.some.injEq, ne_eq, not_false_eq_true, Array.toList, reduceCtorEq, Int.reduceLT, Int.reduceLE, Int.reduceToNat, Nat.reduceLeDiff, Nat.reduceLT, Nat.le_refl, Nat.reduceBNe, Nat.reduceBEq, Bool.false_eq_true, implies_true, Nat.add_zero, Nat.zero_add, bne_self_eq_false, beq_self_eq_true, Bool.and_self, Bool.or_true, Bool.or_false, Bool.true_or, Bool.false_or, Bool.false_and, Bool.and_false, tk74, tk76, tk73, tsz73]; rfl) ?_)) ?_
          refine seq_run ok0 rfl (by repeat (first | with_reducible exact runf_nil | refine runf_cons (by simp only [runf, xstep, stepf, stepx, evsA, qev, St.ev, St.put, St.with, D.cells, D.cell, D.int, boxA, qload, cellsAt, qmk, C.cpy, TK.agg, qnil, qfieldAddr, qpart, qfield, qindexAddr, qindex, qpick, qint, qshift, qstr, isEq, qeq, isShift, qbin, eqC, eqCs, qun, qconv, qbounds, qslice, qlen, qext, omap, q2, qbuiltin, liveR, C.st, C.cp, C.dat, storeA, putCells, constD, constC, List.getElem?_cons_zero, List.getElem?_cons_succ, List.set_cons_zero, List.set_cons_succ, List.replicate, List.length_cons, List.length_nil, List.cons_append, List.nil_append, List.append_nil, List.map_nil, List.map_cons, List.all_cons, List.all_nil, List.take_succ_cons, List.take_zero, List.drop_succ_cons, List.drop_zero, List.singleton_append, Option.bind_some, Option.bind_none, Option.map_some, Option.map_none, Bool.and_true, Bool.true_and, Nat.reduceAdd, Nat.reduceSub, Nat.reduceMul, Nat.reduceEqDiff, reduceIte, if_true, if_false, and_self, and_true, true_and, decide_true, decide_false, Bool.not_true, Bool.not_false, cond_true, cond_false, forall_const, List.getElem?_toArray, Option.some.injEq, ne_eq, not_false_eq_true, Array.toList, reduceCtorEq, Int.reduceLT, Int.reduceLE, Int.reduceToNat, Nat.reduceLeDiff, Nat.reduceLT, Nat.le_refl, Nat.reduceBNe, Nat.reduceBEq, Bool.false_eq_true, implies_true, Nat.add_zero, Nat.zero_add, bne_self_eq_false, beq_self_eq_true, Bool.and_self, Bool.or_true, Bool.or_false, Bool.true_or, Bool.false_or, Bool.false_and, Bool.and_false, tk74, tk76, tk73, tsz73]; rfl) ?_)) ?_
          refine seq_in (seq_run ok0 rfl (by repeat (first | with_reducible exact runf_nil | refine runf_cons (by simp only [runf, xstep, stepf, stepx, evsA, qev, St.ev, St.put, St.with, D.cells, D.cell, D.int, boxA, qload, cellsAt, qmk, C.cpy, TK.agg, qnil, qfieldAddr, qpart, qfield, qindexAddr, qindex, qpick, qint, qshift, qstr, isEq, qeq, isShift, qbin, eqC, eqCs, qun, qconv, qbounds, qslice, qlen, qext, omap, q2, qbuiltin, liveR, C.st, C.cp, C.dat, storeA, putCells, constD, constC, List.getElem?_cons_zero, List.getElem?_cons_succ, List.set_cons_zero, List.set_cons_succ, List.replicate, List.length_cons, List.length_nil, List.cons_append, List.nil_append, List.append_nil, List.map_nil, List.map_cons, List.all_cons, List.all_nil, List.take_succ_cons, List.take_zero, List.drop_succ_cons, List.drop_zero, List.singleton_append, Option.bind_some, Option.bind_none, Option.map_some, Option.map_none, Bool.and_true, Bool.true_and, Nat.reduceAdd, Nat.reduceSub, Nat.reduceMul, Nat.reduceEqDiff, reduceIte, if_true, if_false, and_self, and_true, true_and, decide_true, decide_false, Bool.not_true, Bool.not_false, cond_true, cond_false, forall_const, List.getElem?_toArray, Option.some.injEq, ne_eq, not_false_eq_true, Array.toList, reduceCtorEq, Int.reduceLT, Int.reduceLE, Int.reduceToNat, Nat.reduceLeDiff, Nat.reduceLT, Nat.le_refl, Nat.reduceBNe, Nat.reduceBEq, Bool.false_eq_true, implies_true, Nat.add_zero, Nat.zero_add, bne_self_eq_false, beq_self_eq_true, Bool.and_self, Bool.or_true, Bool.or_false, Bool.true_or, Bool.false_or, Bool.false_and, Bool.and_false, tk3, tsz3, tz3, bo3, tk3, tsz3, tz3, bo3, tk4, tsz4, tz4, bo4, tk73, tsz73, tz73, bo73, List.length_map, hlm]; rfl) ?_)) ?_)
          refine tri_block ?_
          refine tri_loop_le (fun n A => ∃ (i es : Nat) (q : List (Int × Int)) (T : List (Option Root)), i ≤ l.length ∧ n = l.length - i ∧ q = ((l.take i).eraseIdx k).foldl addQ [] ∧ (es = 2 ∨ (es = 0 ∧ (q.map due).isEmpty = true)) ∧
              A = ⟨[.c (.p 0 0 0), .top, .top, .top, .top, dI k, .top, .top, .top, .top, .top, .top, .top, .top, .top, .top, .top, .top, .top, .top, .top, .top, .top, .top, .top, .top, .c (.h 2 0 l.length), dI l.length, dI i, .top, .top, .top, .top, .top, .top, .top, .top, .top, .top, .top], some ⟨false, 1, [[.s true es (q.map due)]]⟩ :: some ⟨false, 1, [[.v (.int .i64 v)]]⟩ :: some ⟨true, 2, l.map due⟩ :: T⟩) l.length
            (B := ⟨[.c (.p 0 0 0), .top, .top, .top, .top, dI k, .top, .top, .top, .top, .top, .top, .top, .top, .top, .top, .top, .top, .top, .top, .top, .top, .top, .top, .top, .top, .c (.h 2 0 l.length), dI l.length, dI (0 : Nat), .top, .top, .top, .top, .top, .top, .top, .top, .top, .top, .top], some ⟨false, 1, [[.s true 0 []]]⟩ :: some ⟨false, 1, [[.v (.int .i64 v)]]⟩ :: some ⟨true, 2, l.map due⟩ :: []⟩)
            ⟨by repeat (first | exact .nil | refine .same ?_ | refine .top ?_), rfl⟩ ⟨0, 0, [], [], by omega, rfl, rfl, .inr ⟨rfl, rfl⟩, rfl⟩ ?_
          clear hes hq
          rintro n A ⟨i, es, q, T, hi, rfl, hqd, hes, rfl⟩
          have hql : q.length ≤ i := by
            rw [hqd, fold_len]
            have := List.length_eraseIdx_le (l.take i) k
            rw [List.length_take] at this
            simp only [List.length_nil]; omega
          refine seq_run ok0 rfl (by repeat (first | with_reducible exact runf_nil | refine runf_cons (by simp only [runf, xstep, stepf, stepx, evsA, qev, St.ev, St.put, St.with, D.cells, D.cell, D.int, boxA, qload, cellsAt, qmk, C.cpy, TK.agg, qnil, qfieldAddr, qpart, qfield, qindexAddr, qindex, qpick, qint, qshift, qstr, isEq, qeq, isShift, qbin, eqC, eqCs, qun, qconv, qbounds, qslice, qlen, qext, omap, q2, qbuiltin, liveR, C.st, C.cp, C.dat, storeA, putCells, constD, constC, List.getElem?_cons_zero, List.getElem?_cons_succ, List.set_cons_zero, List.set_cons_succ, List.replicate, List.length_cons, List.length_nil, List.cons_append, List.nil_append, List.append_nil, List.map_nil, List.map_cons, List.all_cons, List.all_nil, List.take_succ_cons, List.take_zero, List.drop_succ_cons, List.drop_zero, List.singleton_append, Option.bind_some, Option.bind_none, Option.map_some, Option.map_none, Bool.and_true, Bool.true_and, Nat.reduceAdd, Nat.reduceSub, Nat.reduceMul, Nat.reduceEqDiff, reduceIte, if_true, if_false, and_self, and_true, true_and, decide_true, decide_false, Bool.not_true, Bool.not_false, cond_true, cond_false, forall_const, List.getElem?_toArray, Option.some.injEq, ne_eq, not_false_eq_true, Array.toList, reduceCtorEq, Int.reduceLT, Int.reduceLE, Int.reduceToNat, Nat.reduceLeDiff, Nat.reduceLT, Nat.le_refl, Nat.reduceBNe, Nat.reduceBEq, Bool.false_eq_true, implies_true, Nat.add_zero, Nat.zero_add, bne_self_eq_false, beq_self_eq_true, Bool.and_self, Bool.or_true, Bool.or_false, Bool.true_or, Bool.false_or, Bool.false_and, Bool.and_false, dI]; rfl) ?_)) ?_
          refine seq_cond rfl (fun h => then_skip ?_) (fun h => tri_exit ?_)
          · have hil : i < l.length := by have := of_decide_eq_true h; omega
            obtain ⟨x, hx⟩ : ∃ x, l[i]? = some x := ⟨l[i], List.getElem?_eq_getElem hil⟩
            have hAdd : oAdd [.c (.p 0 0 0), .agg (due x)] [⟨1, [[.s true es (q.map due)]]⟩] = some (.t [], [⟨1, [[.s true 2 ((addQ q x).map due)]]⟩]) := by
              have h1 : decQ ⟨1, [[.s true es (q.map due)]]⟩ = some q := by simp only [decQ, if_pos hes, decDues_map]
              have h2 : decDue (due x) = some x := rfl
              simp only [oAdd, h1, h2, Option.bind_some]
              rw [if_pos (by omega)]; rfl
            refine seq_in (tri_block ?_)
            refine seq_run ok0 rfl (by repeat (first | with_reducible exact runf_nil | refine runf_cons (by simp only [runf, xstep, stepf, stepx, evsA, qev, St.ev, St.put, St.with, D.cells, D.cell, D.int, boxA, qload, cellsAt, qmk, C.cpy, TK.agg, qnil, qfieldAddr, qpart, qfield, qindexAddr, qindex, qpick, qint, qshift, qstr, isEq, qeq, isShift, qbin, eqC, eqCs, qun, qconv, qbounds, qslice, qlen, qext, omap, q2, qbuiltin, liveR, C.st, C.cp, C.dat, storeA, putCells, constD, constC, List.getElem?_cons_zero, List.getElem?_cons_succ, List.set_cons_zero, List.set_cons_succ, List.replicate, List.length_cons, List.length_nil, List.cons_append, List.nil_append, List.append_nil, List.map_nil, List.map_cons, List.all_cons, List.all_nil, List.take_succ_cons, List.take_zero, List.drop_succ_cons, List.drop_zero, List.singleton_append, Option.bind_some, Option.bind_none, Option.map_some, Option.map_none, Bool.and_true, Bool.true_and, Nat.reduceAdd, Nat.reduceSub, Nat.reduceMul, Nat.reduceEqDiff, reduceIte, if_true, if_false, and_self, and_true, true_and, decide_true, decide_false, Bool.not_true, Bool.not_false, cond_true, cond_false, forall_const, List.getElem?_toArray, Option.some.injEq, ne_eq, not_false_eq_true, Array.toList, reduceCtorEq, Int.reduceLT, Int.reduceLE, Int.reduceToNat, Nat.reduceLeDiff, Nat.reduceLT, Nat.le_refl, Nat.reduceBNe, Nat.reduceBEq, Bool.false_eq_true, implies_true, Nat.add_zero, Nat.zero_add, bne_self_eq_false, beq_self_eq_true, Bool.and_self, Bool.or_true, Bool.or_false, Bool.true_or, Bool.false_or, Bool.false_and, Bool.and_false, dI, tk3, tsz3, tz3, bo3, tk4, tsz4, tz4, bo4, tk73, tsz73, tz73, bo73, tk79, tsz79, tz79, bo79, due_take, due_cpy, due_cp, due_len, due_st, due_dat, due_drop, List.length_map, Int.toNat_natCast, Int.natCast_nonneg, dues_get l i x hx, last_get, last_set, show ((i : Int) < (l.length : Int)) = True from eq_true (by omega)]; rfl) ?_)) ?_
            by_cases hik : i = k
            · refine seq_run ok0 rfl (by repeat (first | with_reducible exact runf_nil | refine runf_cons (by simp only [runf, xstep, stepf, stepx, evsA, qev, St.ev, St.put, St.with, D.cells, D.cell, D.int, boxA, qload, cellsAt, qmk, C.cpy, TK.agg, qnil, qfieldAddr, qpart, qfield, qindexAddr, qindex, qpick, qint, qshift, qstr, isEq, qeq, isShift, qbin, eqC, eqCs, qun, qconv, qbounds, qslice, qlen, qext, omap, q2, qbuiltin, liveR, C.st, C.cp, C.dat, storeA, putCells, constD, constC, List.getElem?_cons_zero, List.getElem?_cons_succ, List.set_cons_zero, List.set_cons_succ, List.replicate, List.length_cons, List.length_nil, List.cons_append, List.nil_append, List.append_nil, List.map_nil, List.map_cons, List.all_cons, List.all_nil, List.take_succ_cons, List.take_zero, List.drop_succ_cons, List.drop_zero, List.singleton_append, Option.bind_some, Option.bind_none, Option.map_some, Option.map_none, Bool.and_true, Bool.true_and, Nat.reduceAdd, Nat.reduceSub, Nat.reduceMul, Nat.reduceEqDiff, reduceIte, if_true, if_false, and_self, and_true, true_and, decide_true, decide_false, Bool.not_true, Bool.not_false, cond_true, cond_false, forall_const, List.getElem?_toArray, Option.some.injEq, ne_eq, not_false_eq_true, Array.toList, reduceCtorEq, Int.reduceLT, Int.reduceLE, Int.reduceToNat, Nat.reduceLeDiff, Nat.reduceLT, Nat.le_refl, Nat.reduceBNe, Nat.reduceBEq, Bool.false_eq_true, implies_true, Nat.add_zero, Nat.zero_add, bne_self_eq_false, beq_self_eq_true, Bool.and_self, Bool.or_true, Bool.or_false, Bool.true_or, Bool.false_or, Bool.false_and, Bool.and_false, dI, tk3, tsz3, tz3, bo3, tk3, tsz3, tz3, bo3, tk4, tsz4, tz4, bo4, show ((i : Int) = (k : Int)) = True from eq_true (by omega)]; rfl) ?_)) ?_
              refine tri_cond rfl (fun h => by cases h) (fun _ => tri_skip ?_)
              refine run_end ok0 rfl (by repeat (first | with_reducible exact runf_nil | refine runf_cons (by simp only [runf, xstep, stepf, stepx, evsA, qev, St.ev, St.put, St.with, D.cells, D.cell, D.int, boxA, qload, cellsAt, qmk, C.cpy, TK.agg, qnil, qfieldAddr, qpart, qfield, qindexAddr, qindex, qpick, qint, qshift, qstr, isEq, qeq, isShift, qbin, eqC, eqCs, qun, qconv, qbounds, qslice, qlen, qext, omap, q2, qbuiltin, liveR, C.st, C.cp, C.dat, storeA, putCells, constD, constC, List.getElem?_cons_zero, List.getElem?_cons_succ, List.set_cons_zero, List.set_cons_succ, List.replicate, List.length_cons, List.length_nil, List.cons_append, List.nil_append, List.append_nil, List.map_nil, List.map_cons, List.all_cons, List.all_nil, List.take_succ_cons, List.take_zero, List.drop_succ_cons, List.drop_zero, List.singleton_append, Option.bind_some, Option.bind_none, Option.map_some, Option.map_none, Bool.and_true, Bool.true_and, Nat.reduceAdd, Nat.reduceSub, Nat.reduceMul, Nat.reduceEqDiff, reduceIte, if_true, if_false, and_self, and_true, true_and, decide_true, decide_false, Bool.not_true, Bool.not_false, cond_true, cond_false, forall_const, List.getElem?_toArray, Option.some.injEq, ne_eq, not_false_eq_true, Array.toList, reduceCtorEq, Int.reduceLT, Int.reduceLE, Int.reduceToNat, Nat.reduceLeDiff, Nat.reduceLT, Nat.le_refl, Nat.reduceBNe, Nat.reduceBEq, Bool.false_eq_true, implies_true, Nat.add_zero, Nat.zero_add, bne_self_eq_false, beq_self_eq_true, Bool.and_self, Bool.or_true, Bool.or_false, Bool.true_or, Bool.false_or, Bool.false_and, Bool.and_false, wrap_succ i l.length hil hlm]; rfl) ?_)) ?_
              refine ⟨l.length - (i + 1), by omega, ⟨[.c (.p 0 0 0), .top, .top, .top, .top, dI k, .top, .top, .top, .top, .top, .top, .top, .top, .top, .top, .top, .top, .top, .top, .top, .top, .top, .top, .top, .top, .c (.h 2 0 l.length), dI l.length, dI (i + 1 : Nat), .top, .top, .top, .top, .top, .top, .top, .top, .top, .top, .top], some ⟨false, 1, [[.s true es (q.map due)]]⟩ :: some ⟨false, 1, [[.v (.int .i64 v)]]⟩ :: some ⟨true, 2, l.map due⟩ :: _⟩, ⟨by repeat (first | exact .nil | refine .same ?_ | refine .top ?_), rfl⟩, i + 1, es, q, _, hil, rfl, ?_, hes, rfl⟩
              rw [hqd, hik, erase_eq]
            · refine seq_run ok0 rfl (by repeat (first | with_reducible exact runf_nil | refine runf_cons (by simp only [runf, xstep, stepf, stepx, evsA, qev, St.ev, St.put, St.with, D.cells, D.cell, D.int, boxA, qload, cellsAt, qmk, C.cpy, TK.agg, qnil, qfieldAddr, qpart, qfield, qindexAddr, qindex, qpick, qint, qshift, qstr, isEq, qeq, isShift, qbin, eqC, eqCs, qun, qconv, qbounds, qslice, qlen, qext, omap, q2, qbuiltin, liveR, C.st, C.cp, C.dat, storeA, putCells, constD, constC, List.getElem?_cons_zero, List.getElem?_cons_succ, List.set_cons_zero, List.set_cons_succ, List.replicate, List.length_cons, List.length_nil, List.cons_append, List.nil_append, List.append_nil, List.map_nil, List.map_cons, List.all_cons, List.all_nil, List.take_succ_cons, List.take_zero, List.drop_succ_cons, List.drop_zero, List.singleton_append, Option.bind_some, Option.bind_none, Option.map_some, Option.map_none, Bool.and_true, Bool.true_and, Nat.reduceAdd, Nat.reduceSub, Nat.reduceMul, Nat.reduceEqDiff, reduceIte, if_true, if_false, and_self, and_true, true_and, decide_true, decide_false, Bool.not_true, Bool.not_false, cond_true, cond_false, forall_const, List.getElem?_toArray, Option.some.injEq, ne_eq, not_false_eq_true, Array.toList, reduceCtorEq, Int.reduceLT, Int.reduceLE, Int.reduceToNat, Nat.reduceLeDiff, Nat.reduceLT, Nat.le_refl, Nat.reduceBNe, Nat.reduceBEq, Bool.false_eq_true, implies_true, Nat.add_zero, Nat.zero_add, bne_self_eq_false, beq_self_eq_true, Bool.and_self, Bool.or_true, Bool.or_false, Bool.true_or, Bool.false_or, Bool.false_and, Bool.and_false, dI, tk3, tsz3, tz3, bo3, tk3, tsz3, tz3, bo3, tk4, tsz4, tz4, bo4, show ((i : Int) = (k : Int)) = False from eq_false (by omega)]; rfl) ?_)) ?_
              refine tri_cond rfl (fun _ => ?_) (fun h => by cases h)
              refine run_end okT3 rfl (by repeat (first | with_reducible exact runf_nil | refine runf_cons (by simp only [runf, xstep, stepf, stepx, evsA, qev, St.ev, St.put, St.with, D.cells, D.cell, D.int, boxA, qload, cellsAt, qmk, C.cpy, TK.agg, qnil, qfieldAddr, qpart, qfield, qindexAddr, qindex, qpick, qint, qshift, qstr, isEq, qeq, isShift, qbin, eqC, eqCs, qun, qconv, qbounds, qslice, qlen, qext, omap, q2, qbuiltin, liveR, C.st, C.cp, C.dat, storeA, putCells, constD, constC, List.getElem?_cons_zero, List.getElem?_cons_succ, List.set_cons_zero, List.set_cons_succ, List.replicate, List.length_cons, List.length_nil, List.cons_append, List.nil_append, List.append_nil, List.map_nil, List.map_cons, List.all_cons, List.all_nil, List.take_succ_cons, List.take_zero, List.drop_succ_cons, List.drop_zero, List.singleton_append, Option.bind_some, Option.bind_none, Option.map_some, Option.map_none, Bool.and_true, Bool.true_and, Nat.reduceAdd, Nat.reduceSub, Nat.reduceMul, Nat.reduceEqDiff, reduceIte, if_true, if_false, and_self, and_true, true_and, decide_true, decide_false, Bool.not_true, Bool.not_false, cond_true, cond_false, forall_const, List.getElem?_toArray, Option.some.injEq, ne_eq, not_false_eq_true, Array.toList, reduceCtorEq, Int.reduceLT, Int.reduceLE, Int.reduceToNat, Nat.reduceLeDiff, Nat.reduceLT, Nat.le_refl, Nat.reduceBNe, Nat.reduceBEq, Bool.false_eq_true, implies_true, Nat.add_zero, Nat.zero_add, bne_self_eq_false, beq_self_eq_true, Bool.and_self, Bool.or_true, Bool.or_false, Bool.true_or, Bool.false_or, Bool.false_and, Bool.and_false, dI, tk3, tsz3, tz3, bo3, tk4, tsz4, tz4, bo4, tk66, tsz66, tz66, bo66, tk73, tsz73, tz73, bo73, tk74, tsz74, tz74, bo74, tk76, tsz76, tz76, bo76, tk79, tsz79, tz79, bo79, due_take, due_cpy, due_cp, due_len, due_st, due_dat, due_drop, due_arg, last_get, last_set, callP, callO, Fs.none, dedup, rootsD, rootsC, List.flatMap_cons, List.flatMap_nil, List.filterMap_cons, List.filterMap_nil, argDs, argD, argC, argCs, List.contains_nil, List.contains_cons, objsAt, objOf, List.idxOf?, List.findIdx?, List.findIdx?.go, setObjs, D.ni, D.ni1, C.ni, C.niRow, settle, settle1, settleC, settleDs, settleCs, List.isEmpty_nil, List.isEmpty_cons, FsT3, hAdd]; rfl) ?_)) ?_
              refine run_end ok0 rfl (by repeat (first | with_reducible exact runf_nil | refine runf_cons (by simp only [runf, xstep, stepf, stepx, evsA, qev, St.ev, St.put, St.with, D.cells, D.cell, D.int, boxA, qload, cellsAt, qmk, C.cpy, TK.agg, qnil, qfieldAddr, qpart, qfield, qindexAddr, qindex, qpick, qint, qshift, qstr, isEq, qeq, isShift, qbin, eqC, eqCs, qun, qconv, qbounds, qslice, qlen, qext, omap, q2, qbuiltin, liveR, C.st, C.cp, C.dat, storeA, putCells, constD, constC, List.getElem?_cons_zero, List.getElem?_cons_succ, List.set_cons_zero, List.set_cons_succ, List.replicate, List.length_cons, List.length_nil, List.cons_append, List.nil_append, List.append_nil, List.map_nil, List.map_cons, List.all_cons, List.all_nil, List.take_succ_cons, List.take_zero, List.drop_succ_cons, List.drop_zero, List.singleton_append, Option.bind_some, Option.bind_none, Option.map_some, Option.map_none, Bool.and_true, Bool.true_and, Nat.reduceAdd, Nat.reduceSub, Nat.reduceMul, Nat.reduceEqDiff, reduceIte, if_true, if_false, and_self, and_true, true_and, decide_true, decide_false, Bool.not_true, Bool.not_false, cond_true, cond_false, forall_const, List.getElem?_toArray, Option.some.injEq, ne_eq, not_false_eq_true, Array.toList, reduceCtorEq, Int.reduceLT, Int.reduceLE, Int.reduceToNat, Nat.reduceLeDiff, Nat.reduceLT, Nat.le_refl, Nat.reduceBNe, Nat.reduceBEq, Bool.false_eq_true, implies_true, Nat.add_zero, Nat.zero_add, bne_self_eq_false, beq_self_eq_true, Bool.and_self, Bool.or_true, Bool.or_false, Bool.true_or, Bool.false_or, Bool.false_and, Bool.and_false, wrap_succ i l.length hil hlm]; rfl) ?_)) ?_
              refine ⟨l.length - (i + 1), by omega, ⟨[.c (.p 0 0 0), .top, .top, .top, .top, dI k, .top, .top, .top, .top, .top, .top, .top, .top, .top, .top, .top, .top, .top, .top, .top, .top, .top, .top, .top, .top, .c (.h 2 0 l.length), dI l.length, dI (i + 1 : Nat), .top, .top, .top, .top, .top, .top, .top, .top, .top, .top, .top], some ⟨false, 1, [[.s true 2 ((addQ q x).map due)]]⟩ :: some ⟨false, 1, [[.v (.int .i64 v)]]⟩ :: some ⟨true, 2, l.map due⟩ :: _⟩, ⟨by repeat (first | exact .nil | refine .same ?_ | refine .top ?_), rfl⟩, i + 1, 2, addQ q x, _, hil, rfl, ?_, .inl rfl, rfl⟩
              rw [erase_ne hx hik, List.foldl_append, ← hqd]
              rfl
          · have hil : i = l.length := by have := of_decide_eq_false h; omega
            subst hil
            rw [List.take_length] at hqd
            rw [← hqd] at hQ
            show Tri _ _ _ _
            refine seq_run ok0 rfl (by repeat (first | with_reducible exact runf_nil | refine runf_cons (by simp only [runf, xstep, stepf, stepx, evsA, qev, St.ev, St.put, St.with, D.cells, D.cell, D.int, boxA, qload, cellsAt, qmk, C.cpy, TK.agg, qnil, qfieldAddr, qpart, qfield, qindexAddr, qindex, qpick, qint, qshift, qstr, isEq, qeq, isShift, qbin, eqC, eqCs, qun, qconv, qbounds, qslice, qlen, qext, omap, q2, qbuiltin, liveR, C.st, C.cp, C.dat, storeA, putCells, constD, constC, List.getElem?_cons_zero, List.getElem?_cons_succ, List.set_cons_zero, List.set_cons_succ, List.replicate, List.length_cons, List.length_nil, List.cons_append, List.nil_append, List.append_nil, List.map_nil, List.map_cons, List.all_cons, List.all_nil, List.take_succ_cons, List.take_zero, List.drop_succ_cons, List.drop_zero, List.singleton_append, Option.bind_some, Option.bind_none, Option.map_some, Option.map_none, Bool.and_true, Bool.true_and, Nat.reduceAdd, Nat.reduceSub, Nat.reduceMul, Nat.reduceEqDiff, reduceIte, if_true, if_false, and_self, and_true, true_and, decide_true, decide_false, Bool.not_true, Bool.not_false, cond_true, cond_false, forall_const, List.getElem?_toArray, Option.some.injEq, ne_eq, not_false_eq_true, Array.toList, reduceCtorEq, Int.reduceLT, Int.reduceLE, Int.reduceToNat, Nat.reduceLeDiff, Nat.reduceLT, Nat.le_refl, Nat.reduceBNe, Nat.reduceBEq, Bool.false_eq_true, implies_true, Nat.add_zero, Nat.zero_add, bne_self_eq_false, beq_self_eq_true, Bool.and_self, Bool.or_true, Bool.or_false, Bool.true_or, Bool.false_or, Bool.false_and, Bool.and_false]; rfl) ?_)) ?_
            refine tri_open 0 0 0 2 (open_q hes) ?_
            refine tri_close 0 0 0 (by simp only [closeA, runf, xstep, stepf, stepx, evsA, qev, St.ev, St.put, St.with, D.cells, D.cell, D.int, boxA, qload, cellsAt, qmk, C.cpy, TK.agg, qnil, qfieldAddr, qpart, qfield, qindexAddr, qindex, qpick, qint, qshift, qstr, isEq, qeq, isShift, qbin, eqC, eqCs, qun, qconv, qbounds, qslice, qlen, qext, omap, q2, qbuiltin, liveR, C.st, C.cp, C.dat, storeA, putCells, constD, constC, List.getElem?_cons_zero, List.getElem?_cons_succ, List.set_cons_zero, List.set_cons_succ, List.replicate, List.length_cons, List.length_nil, List.cons_append, List.nil_append, List.append_nil, List.map_nil, List.map_cons, List.all_cons, List.all_nil, List.take_succ_cons, List.take_zero, List.drop_succ_cons, List.drop_zero, List.singleton_append, Option.bind_some, Option.bind_none, Option.map_some, Option.map_none, Bool.and_true, Bool.true_and, Nat.reduceAdd, Nat.reduceSub, Nat.reduceMul, Nat.reduceEqDiff, reduceIte, if_true, if_false, and_self, and_true, true_and, decide_true, decide_false, Bool.not_true, Bool.not_false, cond_true, cond_false, forall_const, List.getElem?_toArray, Option.some.injEq, ne_eq, not_false_eq_true, Array.toList, reduceCtorEq, Int.reduceLT, Int.reduceLE, Int.reduceToNat, Nat.reduceLeDiff, Nat.reduceLT, Nat.le_refl, Nat.reduceBNe, Nat.reduceBEq, Bool.false_eq_true, implies_true, Nat.add_zero, Nat.zero_add, bne_self_eq_false, beq_self_eq_true, Bool.and_self, Bool.or_true, Bool.or_false, Bool.true_or, Bool.false_or, Bool.false_and, Bool.and_false, List.length_map, last_get]; rfl) ?_
            refine tri_ret (ends_ret (by simp only [outRes, resDs, resD, outDs, outD, outC, runf, xstep, stepf, stepx, evsA, qev, St.ev, St.put, St.with, D.cells, D.cell, D.int, boxA, qload, cellsAt, qmk, C.cpy, TK.agg, qnil, qfieldAddr, qpart, qfield, qindexAddr, qindex, qpick, qint, qshift, qstr, isEq, qeq, isShift, qbin, eqC, eqCs, qun, qconv, qbounds, qslice, qlen, qext, omap, q2, qbuiltin, liveR, C.st, C.cp, C.dat, storeA, putCells, constD, constC, List.getElem?_cons_zero, List.getElem?_cons_succ, List.set_cons_zero, List.set_cons_succ, List.replicate, List.length_cons, List.length_nil, List.cons_append, List.nil_append, List.append_nil, List.map_nil, List.map_cons, List.all_cons, List.all_nil, List.take_succ_cons, List.take_zero, List.drop_succ_cons, List.drop_zero, List.singleton_append, Option.bind_some, Option.bind_none, Option.map_some, Option.map_none, Bool.and_true, Bool.true_and, Nat.reduceAdd, Nat.reduceSub, Nat.reduceMul, Nat.reduceEqDiff, reduceIte, if_true, if_false, and_self, and_true, true_and, decide_true, decide_false, Bool.not_true, Bool.not_false, cond_true, cond_false, forall_const, List.getElem?_toArray, Option.some.injEq, ne_eq, not_false_eq_true, Array.toList, reduceCtorEq, Int.reduceLT, Int.reduceLE, Int.reduceToNat, Nat.reduceLeDiff, Nat.reduceLT, Nat.le_refl, Nat.reduceBNe, Nat.reduceBEq, Bool.false_eq_true, implies_true, Nat.add_zero, Nat.zero_add, bne_self_eq_false, beq_self_eq_true, Bool.and_self, Bool.or_true, Bool.or_false, Bool.true_or, Bool.false_or, Bool.false_and, Bool.and_false]; rfl) rfl (by simp) (by simp) ?_)
            exact hQ
      · cases hd
  · cases hd

end Go.Dl

namespace Go.Dl
open Go.RowKit
open Go.Proofs
set_option linter.unusedSimpArgs false
set_option linter.unusedVariables false

def oAllF (a : List D) (o : List Obj) : Option (D × List Obj) := (oAll a o).map fun r => (r.1.frz, r.2)
def pWoF (a : List D) : Option D := (pWo87 a).map D.frz
def pPutF (a : List D) : Option D := (pPut a).map D.frz
theorem meetsAllF : Meets Try.prog 51 (detS oAllF) := meets_frzO meets51
theorem meetsWoF : Meets Try.prog 87 (pureS pWoF) := meets_frzP meets87
theorem meetsPutF : Meets Try.prog 43 (pureS pPutF) := meets_frzP meets43

theorem frz_dues (l : List (Int × Int)) : (D.c (.s true 2 (l.map due))).frz = .c (.s false 2 (l.map due)) := by
  simp only [D.frz, dues_cps, if_true]

theorem allF_eq {l : List (Int × Int)} {es : Nat} (hes : es = 2 ∨ (es = 0 ∧ (l.map due).isEmpty = true)) (hl : l.length ≤ 1000000) :
    oAllF [.c (.p 0 0 0)] [⟨1, [[.s true es (l.map due)]]⟩] = some (.c (.s false 2 ((sortD l).map due)), [⟨1, [[.s true 2 (l.map due)]]⟩]) := by
  have h1 : decQ ⟨1, [[.s true es (l.map due)]]⟩ = some l := by simp only [decQ, if_pos hes, decDues_map]
  simp only [oAllF, oAll, h1, Option.bind_some, if_pos hl, Option.map_some, frz_dues]; rfl

def FsT4 : Fs := { pure := fun k => if k = 50 then some pSame50 else if k = 87 then some pWoF else none, objs := fun k => if k = 86 then some oDrop else if k = 51 then some oAllF else none }
theorem okT4 : FsOK Try.prog FsT4 := by
  refine ⟨fun k f h => ?_, fun k f h => ?_⟩
  · simp only [FsT4] at h
    split at h
    · rename_i hk; subst hk; cases h; exact ⟨by kernel_rfl, meets50⟩
    split at h
    · rename_i hk; subst hk; cases h; exact ⟨by kernel_rfl, meetsWoF⟩
    · cases h
  · simp only [FsT4] at h
    split at h
    · rename_i hk; subst hk; cases h; exact ⟨by kernel_rfl, meets86⟩
    split at h
    · rename_i hk; subst hk; cases h; exact ⟨by kernel_rfl, meetsAllF⟩
    · cases h

theorem fold_perm : ∀ (l q : List (Int × Int)), (l.foldl addQ q).Perm (q ++ l)
  | [], q => by simp
  | d :: l, q => (fold_perm l (addQ q d)).trans (((addQ_perm q d).append_right l).trans (List.perm_middle.symm.trans (.refl _)))

theorem erase_perm {x : Int × Int} : ∀ {l : List (Int × Int)} {k : Nat}, l[k]? = some x → l.Perm (x :: l.eraseIdx k)
  | [], k, h => by simp at h
  | y :: l, 0, h => by simp at h; subst h; exact .refl _
  | y :: l, k + 1, h => by
    have h : l[k]? = some x := by simpa using h
    rw [List.eraseIdx_cons_succ]
    exact ((erase_perm h).cons y).trans (.swap x y _)

theorem erase_sorted {a : List (Int × Int)} (h : List.Pairwise leD a) (j : Nat) : List.Pairwise leD (a.eraseIdx j) := h.sublist (List.eraseIdx_sublist a j)

/-- What Drop leaves, in order. -/
theorem drop_some {l : List (Int × Int)} {v : Int} {k : Nat} (h : posQ l v = some k) : ∃ (j : Nat) (y : Int × Int), (sortD l)[j]? = some y ∧ y.1 = v ∧ (sortD l).eraseIdx j = sortD (dropQ l v) := by
  obtain ⟨x, h1, h2⟩ := pos_get h
  have hx : x ∈ sortD l := (sortD_perm l).mem_iff.2 (List.mem_of_getElem? h1)
  obtain ⟨j, hj⟩ := List.getElem?_of_mem hx
  refine ⟨j, x, hj, h2, ?_⟩
  symm
  refine sort_all ?_ (erase_sorted (sortD_sorted l) j)
  have hd : dropQ l v = (l.eraseIdx k).foldl addQ [] := by simp only [dropQ, h]
  rw [hd]
  refine (fold_perm _ _).trans ?_
  rw [List.nil_append]
  exact List.Perm.cons_inv (((erase_perm h1).symm.trans (sortD_perm l).symm).trans (erase_perm hj))

theorem dropQ_len (l : List (Int × Int)) (v : Int) : (dropQ l v).length ≤ l.length := by
  unfold dropQ
  split
  · exact Nat.le_refl _
  · rw [fold_len]; have := List.length_eraseIdx_le l ‹Nat›; simp; omega

/-- drop. -/
def oDrop46 : List D → List Obj → Option (D × List Obj)
  | [.c (.p 0 0 0), .c (.s false 2 rows), .c (.v (.int .i64 v))], [o] => (decQ o).bind fun l => (decDues rows).bind fun a => if l.length ≤ 1000000 ∧ a = sortD l then
      some (.t [.c (.s false 2 ((sortD (dropQ l v)).map due)), dB true], [qObj (dropQ l v)]) else none
  | _, _ => none

theorem got46 : Try.prog.funcs[46]? = some Try.f46 := by kernel_rfl
theorem meets46 : Meets Try.prog 46 (detS oDrop46) := by
  refine meets_of_tri got46 rfl (n := 60) rfl (rs := [ResultVar.tmp 6, ResultVar.tmp 7]) rfl ?_
  rintro args objs Q ⟨d, os, hd, hQ⟩
  unfold oDrop46 at hd
  split at hd
  · rename_i rows v o
    cases hq : decQ o with
    | none => rw [hq] at hd; cases hd
    | some l =>
      cases hr : decDues rows with
      | none => rw [hq, hr] at hd; cases hd
      | some a =>
        rw [hq, hr] at hd
        simp only [Option.bind_some] at hd
        split at hd
        · rename_i hc
          obtain ⟨hlen, ha⟩ := hc
          cases hd
          have := decDues_eq hr
          subst this
          obtain ⟨es, rfl, hes⟩ := decQ_eq hq
          have hal : a.length = l.length := by rw [ha, sortD_len]
          have ham : a.length ≤ maxStr := by unfold maxStr; omega
          have hml := dropQ_len l v
          obtain ⟨is, his⟩ : ∃ is, is = (posQ l v).isSome := ⟨_, rfl⟩
          have hD : oDrop [.c (.p 0 0 0), .c (.v (.int .i64 v))] [⟨1, [[.s true es (l.map due)]]⟩] = some (dB is, [⟨1, [[.s true 2 ((dropQ l v).map due)]]⟩]) := by
            simp only [oDrop, hq, Option.bind_some, if_pos hlen, his]; rfl
          have hP1 : ∀ x ∈ a, x.1 = v → is = true := by
            intro x hx hv
            cases hp : posQ l v with
            | none => exact absurd hv (pos_none hp x ((sortD_perm l).mem_iff.1 (ha ▸ hx)))
            | some k => rw [his, hp]; rfl
          have hP2 : is = true → ∃ (j : Nat) (y : Int × Int), a[j]? = some y ∧ y.1 = v ∧ a.eraseIdx j = sortD (dropQ l v) := by
            intro h
            cases hp : posQ l v with
            | none => rw [his, hp] at h; cases h
            | some k => rw [ha]; exact drop_some hp
          have hP3 : is = false → sortD (dropQ l v) = a := by
            intro h
            cases hp : posQ l v with
            | none => rw [ha]; simp only [dropQ, hp]
            | some k => rw [his, hp] at h; cases h
          have hA := allF_eq (l := dropQ l v) (es := 2) (.inl rfl) (by omega)
          have hsl : (sortD (dropQ l v)).length ≤ 1000000 := by rw [sortD_len]; omega
          have hqo : qObj (dropQ l v) = ⟨1, [[.s true 2 ((dropQ l v).map due)]]⟩ := rfl
          rw [hqo] at hQ
          generalize dropQ l v = m at hD hP2 hP3 hA hQ hsl
          generalize sortD m = s at hP2 hP3 hA hQ hsl
          clear hes hq his ha hqo hml
          refine seq_run ok0 rfl (by repeat (first | with_reducible exact runf_nil | refine runf_cons (by simp only [runf, xstep, stepf, stepx, evsA, qev, St.ev, St.put, St.with, D.cells, D.cell, D.int, boxA, qload, cellsAt, qmk, C.cpy, TK.agg, qnil, qfieldAddr, qpart, qfield, qindexAddr, qindex, qpick, qint, qshift, qstr, isEq, qeq, isShift, qbin, eqC, eqCs, qun, qconv, qbounds, qslice, qlen, qext, omap, q2, qbuiltin, liveR, C.st, C.cp, C.dat, storeA, putCells, constD, constC, List.getElem?_cons_zero, List.getElem?_cons_succ, List.set_cons_zero, List.set_cons_succ, List.replicate, List.length_cons, List.length_nil, List.cons_append, List.nil_append, List.append_nil, List.map_nil, List.map_cons, List.all_cons, List.all_nil, List.take_succ_cons, List.take_zero, List.drop_succ_cons, List.drop_zero, List.singleton_append, Option.bind_some, Option.bind_none, Option.map_some, Option.map_none, Bool.and_true, Bool.true_and, Nat.reduceAdd, Nat.reduceSub, Nat.reduceMul, Nat.reduceEqDiff, reduceIte, if_true, if_false, and_self, and_true, true_and, decide_true, decide_false, Bool.not_true, Bool.not_false, cond_true, cond_false, forall_const, List.getElem?_toArray, Option.some.injEq, ne_eq, not_false_eq_true, Array.toList, reduceCtorEq, Int.reduceLT, Int.reduceLE, Int.reduceToNat, Nat.reduceLeDiff, Nat.reduceLT, Nat.le_refl, Nat.reduceBNe, Nat.reduceBEq, Bool.false_eq_true, implies_true, Nat.add_zero, Nat.zero_add, bne_self_eq_false, beq_self_eq_true, Bool.and_self, Bool.or_true, Bool.or_false, Bool.true_or, Bool.false_or, Bool.false_and, Bool.and_false]; rfl) ?_)) ?_
          refine seq_run okT4 rfl (by repeat (first | with_reducible exact runf_nil | refine runf_cons (by simp only [runf, xstep, stepf, stepx, evsA, qev, St.ev, St.put, St.with, D.cells, D.cell, D.int, boxA, qload, cellsAt, qmk, C.cpy, TK.agg, qnil, qfieldAddr, qpart, qfield, qindexAddr, qindex, qpick, qint, qshift, qstr, isEq, qeq, isShift, qbin, eqC, eqCs, qun, qconv, qbounds, qslice, qlen, qext, omap, q2, qbuiltin, liveR, C.st, C.cp, C.dat, storeA, putCells, constD, constC, List.getElem?_cons_zero, List.getElem?_cons_succ, List.set_cons_zero, List.set_cons_succ, List.replicate, List.length_cons, List.length_nil, List.cons_append, List.nil_append, List.append_nil, List.map_nil, List.map_cons, List.all_cons, List.all_nil, List.take_succ_cons, List.take_zero, List.drop_succ_cons, List.drop_zero, List.singleton_append, Option.bind_some, Option.bind_none, Option.map_some, Option.map_none, Bool.and_true, Bool.true_and, Nat.reduceAdd, Nat.reduceSub, Nat.reduceMul, Nat.reduceEqDiff, reduceIte, if_true, if_false, and_self, and_true, true_and, decide_true, decide_false, Bool.not_true, Bool.not_false, cond_true, cond_false, forall_const, List.getElem?_toArray, Option.some.injEq, ne_eq, not_false_eq_true, Array.toList, reduceCtorEq, Int.reduceLT, Int.reduceLE, Int.reduceToNat, Nat.reduceLeDiff, Nat.reduceLT, Nat.le_refl, Nat.reduceBNe, Nat.reduceBEq, Bool.false_eq_true, implies_true, Nat.add_zero, Nat.zero_add, bne_self_eq_false, beq_self_eq_true, Bool.and_self, Bool.or_true, Bool.or_false, Bool.true_or, Bool.false_or, Bool.false_and, Bool.and_false, dI, dB, callP, callO, Fs.none, dedup, rootsD, rootsC, List.flatMap_cons, List.flatMap_nil, List.filterMap_cons, List.filterMap_nil, argDs, argD, argC, argCs, List.contains_nil, List.contains_cons, objsAt, objOf, List.idxOf?, List.findIdx?, List.findIdx?.go, setObjs, D.ni, D.ni1, C.ni, C.niRow, settle, settle1, settleC, settleDs, settleCs, List.isEmpty_nil, List.isEmpty_cons, FsT4, hD]; rfl) ?_)) ?_
          refine seq_run okT4 rfl (by repeat (first | with_reducible exact runf_nil | refine runf_cons (by simp only [runf, xstep, stepf, stepx, evsA, qev, St.ev, St.put, St.with, D.cells, D.cell, D.int, boxA, qload, cellsAt, qmk, C.cpy, TK.agg, qnil, qfieldAddr, qpart, qfield, qindexAddr, qindex, qpick, qint, qshift, qstr, isEq, qeq, isShift, qbin, eqC, eqCs, qun, qconv, qbounds, qslice, qlen, qext, omap, q2, qbuiltin, liveR, C.st, C.cp, C.dat, storeA, putCells, constD, constC, List.getElem?_cons_zero, List.getElem?_cons_succ, List.set_cons_zero, List.set_cons_succ, List.replicate, List.length_cons, List.length_nil, List.cons_append, List.nil_append, List.append_nil, List.map_nil, List.map_cons, List.all_cons, List.all_nil, List.take_succ_cons, List.take_zero, List.drop_succ_cons, List.drop_zero, List.singleton_append, Option.bind_some, Option.bind_none, Option.map_some, Option.map_none, Bool.and_true, Bool.true_and, Nat.reduceAdd, Nat.reduceSub, Nat.reduceMul, Nat.reduceEqDiff, reduceIte, if_true, if_false, and_self, and_true, true_and, decide_true, decide_false, Bool.not_true, Bool.not_false, cond_true, cond_false, forall_const, List.getElem?_toArray, Option.some.injEq, ne_eq, not_false_eq_true, Array.toList, reduceCtorEq, Int.reduceLT, Int.reduceLE, Int.reduceToNat, Nat.reduceLeDiff, Nat.reduceLT, Nat.le_refl, Nat.reduceBNe, Nat.reduceBEq, Bool.false_eq_true, implies_true, Nat.add_zero, Nat.zero_add, bne_self_eq_false, beq_self_eq_true, Bool.and_self, Bool.or_true, Bool.or_false, Bool.true_or, Bool.false_or, Bool.false_and, Bool.and_false, dI, dB, callP, callO, Fs.none, dedup, rootsD, rootsC, List.flatMap_cons, List.flatMap_nil, List.filterMap_cons, List.filterMap_nil, argDs, argD, argC, argCs, List.contains_nil, List.contains_cons, objsAt, objOf, List.idxOf?, List.findIdx?, List.findIdx?.go, setObjs, settle, settle1, settleC, settleDs, settleCs, List.isEmpty_nil, List.isEmpty_cons, FsT4, hA]; rfl) ?_)) ?_
          refine seq_in (seq_run ok0 rfl (by repeat (first | with_reducible exact runf_nil | refine runf_cons (by simp only [runf, xstep, stepf, stepx, evsA, qev, St.ev, St.put, St.with, D.cells, D.cell, D.int, boxA, qload, cellsAt, qmk, C.cpy, TK.agg, qnil, qfieldAddr, qpart, qfield, qindexAddr, qindex, qpick, qint, qshift, qstr, isEq, qeq, isShift, qbin, eqC, eqCs, qun, qconv, qbounds, qslice, qlen, qext, omap, q2, qbuiltin, liveR, C.st, C.cp, C.dat, storeA, putCells, constD, constC, List.getElem?_cons_zero, List.getElem?_cons_succ, List.set_cons_zero, List.set_cons_succ, List.replicate, List.length_cons, List.length_nil, List.cons_append, List.nil_append, List.append_nil, List.map_nil, List.map_cons, List.all_cons, List.all_nil, List.take_succ_cons, List.take_zero, List.drop_succ_cons, List.drop_zero, List.singleton_append, Option.bind_some, Option.bind_none, Option.map_some, Option.map_none, Bool.and_true, Bool.true_and, Nat.reduceAdd, Nat.reduceSub, Nat.reduceMul, Nat.reduceEqDiff, reduceIte, if_true, if_false, and_self, and_true, true_and, decide_true, decide_false, Bool.not_true, Bool.not_false, cond_true, cond_false, forall_const, List.getElem?_toArray, Option.some.injEq, ne_eq, not_false_eq_true, Array.toList, reduceCtorEq, Int.reduceLT, Int.reduceLE, Int.reduceToNat, Nat.reduceLeDiff, Nat.reduceLT, Nat.le_refl, Nat.reduceBNe, Nat.reduceBEq, Bool.false_eq_true, implies_true, Nat.add_zero, Nat.zero_add, bne_self_eq_false, beq_self_eq_true, Bool.and_self, Bool.or_true, Bool.or_false, Bool.true_or, Bool.false_or, Bool.false_and, Bool.and_false]; rfl) ?_)) ?_)
          refine tri_block ?_
          refine tri_loop_le (fun n A => ∃ i : Nat, i ≤ a.length ∧ n = a.length - i ∧ (is = true → ∃ (j : Nat) (y : Int × Int), i ≤ j ∧ a[j]? = some y ∧ y.1 = v ∧ a.eraseIdx j = s) ∧
              A = ⟨[.c (.p 0 0 0), .c (.s false 2 (a.map due)), dI v, .top, .top, .top, .top, .top, dB is, .c (.s false 2 (s.map due)), dI i, .top, .top, .top, .top, .top, .top, .top, .top, .top, .top, .top, .top, .top, .top, .top, .top, .top, .top, .top, .top, .top, .top, .top, .top, .top, .top, .top, .top, .top, .top, .top, .top, .top, .top, .top, .top, .top, .top, .top, .top, .top, .top, .top, .top, .top, .top, .top, .top, .top], [some ⟨false, 1, [[.s true 2 (m.map due)]]⟩]⟩) a.length
            (B := ⟨[.c (.p 0 0 0), .c (.s false 2 (a.map due)), dI v, .top, .top, .top, .top, .top, dB is, .c (.s false 2 (s.map due)), dI (0 : Nat), .top, .top, .top, .top, .top, .top, .top, .top, .top, .top, .top, .top, .top, .top, .top, .top, .top, .top, .top, .top, .top, .top, .top, .top, .top, .top, .top, .top, .top, .top, .top, .top, .top, .top, .top, .top, .top, .top, .top, .top, .top, .top, .top, .top, .top, .top, .top, .top, .top], [some ⟨false, 1, [[.s true 2 (m.map due)]]⟩]⟩)
            ⟨by repeat (first | exact .nil | refine .same ?_ | refine .top ?_), rfl⟩ ⟨0, by omega, rfl, fun h => by obtain ⟨j, y, h1, h2, h3⟩ := hP2 h; exact ⟨j, y, Nat.zero_le _, h1, h2, h3⟩, rfl⟩ ?_
          rintro n A ⟨i, hi, rfl, hg, rfl⟩
          refine seq_in (seq_run ok0 rfl (by repeat (first | with_reducible exact runf_nil | refine runf_cons (by simp only [runf, xstep, stepf, stepx, evsA, qev, St.ev, St.put, St.with, D.cells, D.cell, D.int, boxA, qload, cellsAt, qmk, C.cpy, TK.agg, qnil, qfieldAddr, qpart, qfield, qindexAddr, qindex, qpick, qint, qshift, qstr, isEq, qeq, isShift, qbin, eqC, eqCs, qun, qconv, qbounds, qslice, qlen, qext, omap, q2, qbuiltin, liveR, C.st, C.cp, C.dat, storeA, putCells, constD, constC, List.getElem?_cons_zero, List.getElem?_cons_succ, List.set_cons_zero, List.set_cons_succ, List.replicate, List.length_cons, List.length_nil, List.cons_append, List.nil_append, List.append_nil, List.map_nil, List.map_cons, List.all_cons, List.all_nil, List.take_succ_cons, List.take_zero, List.drop_succ_cons, List.drop_zero, List.singleton_append, Option.bind_some, Option.bind_none, Option.map_some, Option.map_none, Bool.and_true, Bool.true_and, Nat.reduceAdd, Nat.reduceSub, Nat.reduceMul, Nat.reduceEqDiff, reduceIte, if_true, if_false, and_self, and_true, true_and, decide_true, decide_false, Bool.not_true, Bool.not_false, cond_true, cond_false, forall_const, List.getElem?_toArray, Option.some.injEq, ne_eq, not_false_eq_true, Array.toList, reduceCtorEq, Int.reduceLT, Int.reduceLE, Int.reduceToNat, Nat.reduceLeDiff, Nat.reduceLT, Nat.le_refl, Nat.reduceBNe, Nat.reduceBEq, Bool.false_eq_true, implies_true, Nat.add_zero, Nat.zero_add, bne_self_eq_false, beq_self_eq_true, Bool.and_self, Bool.or_true, Bool.or_false, Bool.true_or, Bool.false_or, Bool.false_and, Bool.and_false, dI, tk3, tsz3, tz3, bo3, tk4, tsz4, tz4, bo4, tk73, tsz73, tz73, bo73, List.length_map, ham]; rfl) ?_)) ?_)
          refine tri_cond rfl (fun h => then_skip ?_) (fun h => tri_exit ?_)
          · have hil : i < a.length := by have := of_decide_eq_true h; omega
            obtain ⟨x, hx⟩ : ∃ x, a[i]? = some x := ⟨a[i], List.getElem?_eq_getElem hil⟩
            refine seq_in (tri_block ?_)
            by_cases hxv : x.1 = v
            · have hist := hP1 x (List.mem_of_getElem? hx) hxv
              subst hist
              have hW : pWoF [.c (.s false 2 (a.map due)), .c (.v (.int .i64 i))] = some (.c (.s false 2 ((a.eraseIdx i).map due))) := by
                have : pWo87 [.c (.s false 2 (a.map due)), .c (.v (.int .i64 (Int.ofNat i)))] = some (.c (.s true 2 ((a.eraseIdx i).map due))) := by
                  simp only [pWo87, decDues_map, Option.bind_some]
                  rw [if_pos ⟨by omega, hil⟩]
                show (pWo87 [.c (.s false 2 (a.map due)), .c (.v (.int .i64 (Int.ofNat i)))]).map D.frz = _
                rw [this, Option.map_some, frz_dues]
              have hS : pSame50 [.c (.s false 2 ((a.eraseIdx i).map due)), .c (.s false 2 (s.map due))] = some (dB (decide (a.eraseIdx i = s))) := by
                simp only [pSame50, decDues_map, Option.bind_some]
                rw [if_pos ⟨by have := List.length_eraseIdx_le a i; omega, hsl⟩]
              by_cases hes : a.eraseIdx i = s
              · rw [decide_eq_true hes] at hS
                refine seq_in (seq_run okT4 rfl (by repeat (first | with_reducible exact runf_nil | refine runf_cons (by simp only [runf, xstep, stepf, stepx, evsA, qev, St.ev, St.put, St.with, D.cells, D.cell, D.int, boxA, qload, cellsAt, qmk, C.cpy, TK.agg, qnil, qfieldAddr, qpart, qfield, qindexAddr, qindex, qpick, qint, qshift, qstr, isEq, qeq, isShift, qbin, eqC, eqCs, qun, qconv, qbounds, qslice, qlen, qext, omap, q2, qbuiltin, liveR, C.st, C.cp, C.dat, storeA, putCells, constD, constC, List.getElem?_cons_zero, List.getElem?_cons_succ, List.set_cons_zero, List.set_cons_succ, List.replicate, List.length_cons, List.length_nil, List.cons_append, List.nil_append, List.append_nil, List.map_nil, List.map_cons, List.all_cons, List.all_nil, List.take_succ_cons, List.take_zero, List.drop_succ_cons, List.drop_zero, List.singleton_append, Option.bind_some, Option.bind_none, Option.map_some, Option.map_none, Bool.and_true, Bool.true_and, Nat.reduceAdd, Nat.reduceSub, Nat.reduceMul, Nat.reduceEqDiff, reduceIte, if_true, if_false, and_self, and_true, true_and, decide_true, decide_false, Bool.not_true, Bool.not_false, cond_true, cond_false, forall_const, List.getElem?_toArray, Option.some.injEq, ne_eq, not_false_eq_true, Array.toList, reduceCtorEq, Int.reduceLT, Int.reduceLE, Int.reduceToNat, Nat.reduceLeDiff, Nat.reduceLT, Nat.le_refl, Nat.reduceBNe, Nat.reduceBEq, Bool.false_eq_true, implies_true, Nat.add_zero, Nat.zero_add, bne_self_eq_false, beq_self_eq_true, Bool.and_self, Bool.or_true, Bool.or_false, Bool.true_or, Bool.false_or, Bool.false_and, Bool.and_false, dI, dB, tk3, tsz3, tz3, bo3, tk4, tsz4, tz4, bo4, tk66, tsz66, tz66, bo66, tk73, tsz73, tz73, bo73, tk79, tsz79, tz79, bo79, due_two, List.length_map, Int.toNat_natCast, Int.natCast_nonneg, dues_get a i x hx, callP, callO, Fs.none, dedup, rootsD, rootsC, List.flatMap_cons, List.flatMap_nil, List.filterMap_cons, List.filterMap_nil, argDs, argD, argC, argCs, List.contains_nil, List.contains_cons, objsAt, objOf, List.idxOf?, List.findIdx?, List.findIdx?.go, setObjs, settle, settle1, settleC, settleDs, settleCs, List.isEmpty_nil, List.isEmpty_cons, FsT4, hxv, show ((i : Int) < (a.length : Int)) = True from eq_true (by omega), hW, hS]; rfl) ?_)) ?_)
                refine tri_cond rfl (fun _ => ?_) (fun h => by cases h)
                refine seq_run ok0 rfl (by repeat (first | with_reducible exact runf_nil | refine runf_cons (by simp only [runf, xstep, stepf, stepx, evsA, qev, St.ev, St.put, St.with, D.cells, D.cell, D.int, boxA, qload, cellsAt, qmk, C.cpy, TK.agg, qnil, qfieldAddr, qpart, qfield, qindexAddr, qindex, qpick, qint, qshift, qstr, isEq, qeq, isShift, qbin, eqC, eqCs, qun, qconv, qbounds, qslice, qlen, qext, omap, q2, qbuiltin, liveR, C.st, C.cp, C.dat, storeA, putCells, constD, constC, List.getElem?_cons_zero, List.getElem?_cons_succ, List.set_cons_zero, List.set_cons_succ, List.replicate, List.length_cons, List.length_nil, List.cons_append, List.nil_append, List.append_nil, List.map_nil, List.map_cons, List.all_cons, List.all_nil, List.take_succ_cons, List.take_zero, List.drop_succ_cons, List.drop_zero, List.singleton_append, Option.bind_some, Option.bind_none, Option.map_some, Option.map_none, Bool.and_true, Bool.true_and, Nat.reduceAdd, Nat.reduceSub, Nat.reduceMul, Nat.reduceEqDiff, reduceIte, if_true, if_false, and_self, and_true, true_and, decide_true, decide_false, Bool.not_true, Bool.not_false, cond_true, cond_false, forall_const, List.getElem?_toArray, Option.some.injEq, ne_eq, not_false_eq_true, Array.toList, reduceCtorEq, Int.reduceLT, Int.reduceLE, Int.reduceToNat, Nat.reduceLeDiff, Nat.reduceLT, Nat.le_refl, Nat.reduceBNe, Nat.reduceBEq, Bool.false_eq_true, implies_true, Nat.add_zero, Nat.zero_add, bne_self_eq_false, beq_self_eq_true, Bool.and_self, Bool.or_true, Bool.or_false, Bool.true_or, Bool.false_or, Bool.false_and, Bool.and_false]; rfl) ?_)) ?_
                refine tri_ret (ends_ret (by simp only [outRes, resDs, resD, outDs, outD, outC, runf, xstep, stepf, stepx, evsA, qev, St.ev, St.put, St.with, D.cells, D.cell, D.int, boxA, qload, cellsAt, qmk, C.cpy, TK.agg, qnil, qfieldAddr, qpart, qfield, qindexAddr, qindex, qpick, qint, qshift, qstr, isEq, qeq, isShift, qbin, eqC, eqCs, qun, qconv, qbounds, qslice, qlen, qext, omap, q2, qbuiltin, liveR, C.st, C.cp, C.dat, storeA, putCells, constD, constC, List.getElem?_cons_zero, List.getElem?_cons_succ, List.set_cons_zero, List.set_cons_succ, List.replicate, List.length_cons, List.length_nil, List.cons_append, List.nil_append, List.append_nil, List.map_nil, List.map_cons, List.all_cons, List.all_nil, List.take_succ_cons, List.take_zero, List.drop_succ_cons, List.drop_zero, List.singleton_append, Option.bind_some, Option.bind_none, Option.map_some, Option.map_none, Bool.and_true, Bool.true_and, Nat.reduceAdd, Nat.reduceSub, Nat.reduceMul, Nat.reduceEqDiff, reduceIte, if_true, if_false, and_self, and_true, true_and, decide_true, decide_false, Bool.not_true, Bool.not_false, cond_true, cond_false, forall_const, List.getElem?_toArray, Option.some.injEq, ne_eq, not_false_eq_true, Array.toList, reduceCtorEq, Int.reduceLT, Int.reduceLE, Int.reduceToNat, Nat.reduceLeDiff, Nat.reduceLT, Nat.le_refl, Nat.reduceBNe, Nat.reduceBEq, Bool.false_eq_true, implies_true, Nat.add_zero, Nat.zero_add, bne_self_eq_false, beq_self_eq_true, Bool.and_self, Bool.or_true, Bool.or_false, Bool.true_or, Bool.false_or, Bool.false_and, Bool.and_false]; rfl) rfl .nil (by simp) ?_)
                exact hQ
              · rw [decide_eq_false hes] at hS
                refine seq_in (seq_run okT4 rfl (by repeat (first | with_reducible exact runf_nil | refine runf_cons (by simp only [runf, xstep, stepf, stepx, evsA, qev, St.ev, St.put, St.with, D.cells, D.cell, D.int, boxA, qload, cellsAt, qmk, C.cpy, TK.agg, qnil, qfieldAddr, qpart, qfield, qindexAddr, qindex, qpick, qint, qshift, qstr, isEq, qeq, isShift, qbin, eqC, eqCs, qun, qconv, qbounds, qslice, qlen, qext, omap, q2, qbuiltin, liveR, C.st, C.cp, C.dat, storeA, putCells, constD, constC, List.getElem?_cons_zero, List.getElem?_cons_succ, List.set_cons_zero, List.set_cons_succ, List.replicate, List.length_cons, List.length_nil, List.cons_append, List.nil_append, List.append_nil, List.map_nil, List.map_cons, List.all_cons, List.all_nil, List.take_succ_cons, List.take_zero, List.drop_succ_cons, List.drop_zero, List.singleton_append, Option.bind_some, Option.bind_none, Option.map_some, Option.map_none, Bool.and_true, Bool.true_and, Nat.reduceAdd, Nat.reduceSub, Nat.reduceMul, Nat.reduceEqDiff, reduceIte, if_true, if_false, and_self, and_true, true_and, decide_true, decide_false, Bool.not_true, Bool.not_false, cond_true, cond_false, forall_const, List.getElem?_toArray, Option.some.injEq, ne_eq, not_false_eq_true, Array.toList, reduceCtorEq, Int.reduceLT, Int.reduceLE, Int.reduceToNat, Nat.reduceLeDiff, Nat.reduceLT, Nat.le_refl, Nat.reduceBNe, Nat.reduceBEq, Bool.false_eq_true, implies_true, Nat.add_zero, Nat.zero_add, bne_self_eq_false, beq_self_eq_true, Bool.and_self, Bool.or_true, Bool.or_false, Bool.true_or, Bool.false_or, Bool.false_and, Bool.and_false, dI, dB, tk3, tsz3, tz3, bo3, tk4, tsz4, tz4, bo4, tk66, tsz66, tz66, bo66, tk73, tsz73, tz73, bo73, tk79, tsz79, tz79, bo79, due_two, List.length_map, Int.toNat_natCast, Int.natCast_nonneg, dues_get a i x hx, callP, callO, Fs.none, dedup, rootsD, rootsC, List.flatMap_cons, List.flatMap_nil, List.filterMap_cons, List.filterMap_nil, argDs, argD, argC, argCs, List.contains_nil, List.contains_cons, objsAt, objOf, List.idxOf?, List.findIdx?, List.findIdx?.go, setObjs, settle, settle1, settleC, settleDs, settleCs, List.isEmpty_nil, List.isEmpty_cons, FsT4, hxv, show ((i : Int) < (a.length : Int)) = True from eq_true (by omega), hW, hS]; rfl) ?_)) ?_)
                refine tri_cond rfl (fun h => by cases h) (fun _ => then_skip ?_)
                refine seq_run okT4 rfl (by repeat (first | with_reducible exact runf_nil | refine runf_cons (by simp only [runf, xstep, stepf, stepx, evsA, qev, St.ev, St.put, St.with, D.cells, D.cell, D.int, boxA, qload, cellsAt, qmk, C.cpy, TK.agg, qnil, qfieldAddr, qpart, qfield, qindexAddr, qindex, qpick, qint, qshift, qstr, isEq, qeq, isShift, qbin, eqC, eqCs, qun, qconv, qbounds, qslice, qlen, qext, omap, q2, qbuiltin, liveR, C.st, C.cp, C.dat, storeA, putCells, constD, constC, List.getElem?_cons_zero, List.getElem?_cons_succ, List.set_cons_zero, List.set_cons_succ, List.replicate, List.length_cons, List.length_nil, List.cons_append, List.nil_append, List.append_nil, List.map_nil, List.map_cons, List.all_cons, List.all_nil, List.take_succ_cons, List.take_zero, List.drop_succ_cons, List.drop_zero, List.singleton_append, Option.bind_some, Option.bind_none, Option.map_some, Option.map_none, Bool.and_true, Bool.true_and, Nat.reduceAdd, Nat.reduceSub, Nat.reduceMul, Nat.reduceEqDiff, reduceIte, if_true, if_false, and_self, and_true, true_and, decide_true, decide_false, Bool.not_true, Bool.not_false, cond_true, cond_false, forall_const, List.getElem?_toArray, Option.some.injEq, ne_eq, not_false_eq_true, Array.toList, reduceCtorEq, Int.reduceLT, Int.reduceLE, Int.reduceToNat, Nat.reduceLeDiff, Nat.reduceLT, Nat.le_refl, Nat.reduceBNe, Nat.reduceBEq, Bool.false_eq_true, implies_true, Nat.add_zero, Nat.zero_add, bne_self_eq_false, beq_self_eq_true, Bool.and_self, Bool.or_true, Bool.or_false, Bool.true_or, Bool.false_or, Bool.false_and, Bool.and_false, dI, dB, tk3, tsz3, tz3, bo3, tk4, tsz4, tz4, bo4, tk66, tsz66, tz66, bo66, tk73, tsz73, tz73, bo73, tk79, tsz79, tz79, bo79, due_two, List.length_map, Int.toNat_natCast, Int.natCast_nonneg, dues_get a i x hx, callP, callO, Fs.none, dedup, rootsD, rootsC, List.flatMap_cons, List.flatMap_nil, List.filterMap_cons, List.filterMap_nil, argDs, argD, argC, argCs, List.contains_nil, List.contains_cons, objsAt, objOf, List.idxOf?, List.findIdx?, List.findIdx?.go, setObjs, settle, settle1, settleC, settleDs, settleCs, List.isEmpty_nil, List.isEmpty_cons, FsT4, hxv, show ((i : Int) < (a.length : Int)) = True from eq_true (by omega)]; rfl) ?_)) ?_
                refine tri_cond rfl (fun h => by cases h) (fun _ => tri_skip ?_)
                refine run_end ok0 rfl (by repeat (first | with_reducible exact runf_nil | refine runf_cons (by simp only [runf, xstep, stepf, stepx, evsA, qev, St.ev, St.put, St.with, D.cells, D.cell, D.int, boxA, qload, cellsAt, qmk, C.cpy, TK.agg, qnil, qfieldAddr, qpart, qfield, qindexAddr, qindex, qpick, qint, qshift, qstr, isEq, qeq, isShift, qbin, eqC, eqCs, qun, qconv, qbounds, qslice, qlen, qext, omap, q2, qbuiltin, liveR, C.st, C.cp, C.dat, storeA, putCells, constD, constC, List.getElem?_cons_zero, List.getElem?_cons_succ, List.set_cons_zero, List.set_cons_succ, List.replicate, List.length_cons, List.length_nil, List.cons_append, List.nil_append, List.append_nil, List.map_nil, List.map_cons, List.all_cons, List.all_nil, List.take_succ_cons, List.take_zero, List.drop_succ_cons, List.drop_zero, List.singleton_append, Option.bind_some, Option.bind_none, Option.map_some, Option.map_none, Bool.and_true, Bool.true_and, Nat.reduceAdd, Nat.reduceSub, Nat.reduceMul, Nat.reduceEqDiff, reduceIte, if_true, if_false, and_self, and_true, true_and, decide_true, decide_false, Bool.not_true, Bool.not_false, cond_true, cond_false, forall_const, List.getElem?_toArray, Option.some.injEq, ne_eq, not_false_eq_true, Array.toList, reduceCtorEq, Int.reduceLT, Int.reduceLE, Int.reduceToNat, Nat.reduceLeDiff, Nat.reduceLT, Nat.le_refl, Nat.reduceBNe, Nat.reduceBEq, Bool.false_eq_true, implies_true, Nat.add_zero, Nat.zero_add, bne_self_eq_false, beq_self_eq_true, Bool.and_self, Bool.or_true, Bool.or_false, Bool.true_or, Bool.false_or, Bool.false_and, Bool.and_false, wrap_succ i a.length hil ham]; rfl) ?_)) ?_
                refine ⟨a.length - (i + 1), by omega, ⟨[.c (.p 0 0 0), .c (.s false 2 (a.map due)), dI v, .top, .top, .top, .top, .top, dB true, .c (.s false 2 (s.map due)), dI (i + 1 : Nat), .top, .top, .top, .top, .top, .top, .top, .top, .top, .top, .top, .top, .top, .top, .top, .top, .top, .top, .top, .top, .top, .top, .top, .top, .top, .top, .top, .top, .top, .top, .top, .top, .top, .top, .top, .top, .top, .top, .top, .top, .top, .top, .top, .top, .top, .top, .top, .top, .top], [some ⟨false, 1, [[.s true 2 (m.map due)]]⟩]⟩, ⟨by repeat (first | exact .nil | refine .same ?_ | refine .top ?_), rfl⟩, i + 1, hil, rfl, fun h => ?_, rfl⟩
                obtain ⟨j, y, h1, h2, h3, h4⟩ := hg h
                refine ⟨j, y, ?_, h2, h3, h4⟩
                rcases Nat.eq_or_lt_of_le h1 with rfl | h
                · exact absurd h4 hes
                · exact h
            · refine seq_in (seq_run okT4 rfl (by repeat (first | with_reducible exact runf_nil | refine runf_cons (by simp only [runf, xstep, stepf, stepx, evsA, qev, St.ev, St.put, St.with, D.cells, D.cell, D.int, boxA, qload, cellsAt, qmk, C.cpy, TK.agg, qnil, qfieldAddr, qpart, qfield, qindexAddr, qindex, qpick, qint, qshift, qstr, isEq, qeq, isShift, qbin, eqC, eqCs, qun, qconv, qbounds, qslice, qlen, qext, omap, q2, qbuiltin, liveR, C.st, C.cp, C.dat, storeA, putCells, constD, constC, List.getElem?_cons_zero, List.getElem?_cons_succ, List.set_cons_zero, List.set_cons_succ, List.replicate, List.length_cons, List.length_nil, List.cons_append, List.nil_append, List.append_nil, List.map_nil, List.map_cons, List.all_cons, List.all_nil, List.take_succ_cons, List.take_zero, List.drop_succ_cons, List.drop_zero, List.singleton_append, Option.bind_some, Option.bind_none, Option.map_some, Option.map_none, Bool.and_true, Bool.true_and, Nat.reduceAdd, Nat.reduceSub, Nat.reduceMul, Nat.reduceEqDiff, reduceIte, if_true, if_false, and_self, and_true, true_and, decide_true, decide_false, Bool.not_true, Bool.not_false, cond_true, cond_false, forall_const, List.getElem?_toArray, Option.some.injEq, ne_eq, not_false_eq_true, Array.toList, reduceCtorEq, Int.reduceLT, Int.reduceLE, Int.reduceToNat, Nat.reduceLeDiff, Nat.reduceLT, Nat.le_refl, Nat.reduceBNe, Nat.reduceBEq, Bool.false_eq_true, implies_true, Nat.add_zero, Nat.zero_add, bne_self_eq_false, beq_self_eq_true, Bool.and_self, Bool.or_true, Bool.or_false, Bool.true_or, Bool.false_or, Bool.false_and, Bool.and_false, dI, dB, tk3, tsz3, tz3, bo3, tk4, tsz4, tz4, bo4, tk66, tsz66, tz66, bo66, tk73, tsz73, tz73, bo73, tk79, tsz79, tz79, bo79, due_two, List.length_map, Int.toNat_natCast, Int.natCast_nonneg, dues_get a i x hx, callP, callO, Fs.none, dedup, rootsD, rootsC, List.flatMap_cons, List.flatMap_nil, List.filterMap_cons, List.filterMap_nil, argDs, argD, argC, argCs, List.contains_nil, List.contains_cons, objsAt, objOf, List.idxOf?, List.findIdx?, List.findIdx?.go, setObjs, settle, settle1, settleC, settleDs, settleCs, List.isEmpty_nil, List.isEmpty_cons, FsT4, hxv, show ((i : Int) < (a.length : Int)) = True from eq_true (by omega)]; rfl) ?_)) ?_)
              refine tri_cond rfl (fun h => by cases h) (fun _ => then_skip ?_)
              refine seq_run okT4 rfl (by repeat (first | with_reducible exact runf_nil | refine runf_cons (by simp only [runf, xstep, stepf, stepx, evsA, qev, St.ev, St.put, St.with, D.cells, D.cell, D.int, boxA, qload, cellsAt, qmk, C.cpy, TK.agg, qnil, qfieldAddr, qpart, qfield, qindexAddr, qindex, qpick, qint, qshift, qstr, isEq, qeq, isShift, qbin, eqC, eqCs, qun, qconv, qbounds, qslice, qlen, qext, omap, q2, qbuiltin, liveR, C.st, C.cp, C.dat, storeA, putCells, constD, constC, List.getElem?_cons_zero, List.getElem?_cons_succ, List.set_cons_zero, List.set_cons_succ, List.replicate, List.length_cons, List.length_nil, List.cons_append, List.nil_append, List.append_nil, List.map_nil, List.map_cons, List.all_cons, List.all_nil, List.take_succ_cons, List.take_zero, List.drop_succ_cons, List.drop_zero, List.singleton_append, Option.bind_some, Option.bind_none, Option.map_some, Option.map_none, Bool.and_true, Bool.true_and, Nat.reduceAdd, Nat.reduceSub, Nat.reduceMul, Nat.reduceEqDiff, reduceIte, if_true, if_false, and_self, and_true, true_and, decide_true, decide_false, Bool.not_true, Bool.not_false, cond_true, cond_false, forall_const, List.getElem?_toArray, Option.some.injEq, ne_eq, not_false_eq_true, Array.toList, reduceCtorEq, Int.reduceLT, Int.reduceLE, Int.reduceToNat, Nat.reduceLeDiff, Nat.reduceLT, Nat.le_refl, Nat.reduceBNe, Nat.reduceBEq, Bool.false_eq_true, implies_true, Nat.add_zero, Nat.zero_add, bne_self_eq_false, beq_self_eq_true, Bool.and_self, Bool.or_true, Bool.or_false, Bool.true_or, Bool.false_or, Bool.false_and, Bool.and_false, dI, dB, tk3, tsz3, tz3, bo3, tk4, tsz4, tz4, bo4, tk66, tsz66, tz66, bo66, tk73, tsz73, tz73, bo73, tk79, tsz79, tz79, bo79, due_two, List.length_map, Int.toNat_natCast, Int.natCast_nonneg, dues_get a i x hx, callP, callO, Fs.none, dedup, rootsD, rootsC, List.flatMap_cons, List.flatMap_nil, List.filterMap_cons, List.filterMap_nil, argDs, argD, argC, argCs, List.contains_nil, List.contains_cons, objsAt, objOf, List.idxOf?, List.findIdx?, List.findIdx?.go, setObjs, settle, settle1, settleC, settleDs, settleCs, List.isEmpty_nil, List.isEmpty_cons, FsT4, hxv, show ((i : Int) < (a.length : Int)) = True from eq_true (by omega)]; rfl) ?_)) ?_
              refine tri_cond rfl (fun h => by cases h) (fun _ => tri_skip ?_)
              refine run_end ok0 rfl (by repeat (first | with_reducible exact runf_nil | refine runf_cons (by simp only [runf, xstep, stepf, stepx, evsA, qev, St.ev, St.put, St.with, D.cells, D.cell, D.int, boxA, qload, cellsAt, qmk, C.cpy, TK.agg, qnil, qfieldAddr, qpart, qfield, qindexAddr, qindex, qpick, qint, qshift, qstr, isEq, qeq, isShift, qbin, eqC, eqCs, qun, qconv, qbounds, qslice, qlen, qext, omap, q2, qbuiltin, liveR, C.st, C.cp, C.dat, storeA, putCells, constD, constC, List.getElem?_cons_zero, List.getElem?_cons_succ, List.set_cons_zero, List.set_cons_succ, List.replicate, List.length_cons, List.length_nil, List.cons_append, List.nil_append, List.append_nil, List.map_nil, List.map_cons, List.all_cons, List.all_nil, List.take_succ_cons, List.take_zero, List.drop_succ_cons, List.drop_zero, List.singleton_append, Option.bind_some, Option.bind_none, Option.map_some, Option.map_none, Bool.and_true, Bool.true_and, Nat.reduceAdd, Nat.reduceSub, Nat.reduceMul, Nat.reduceEqDiff, reduceIte, if_true, if_false, and_self, and_true, true_and, decide_true, decide_false, Bool.not_true, Bool.not_false, cond_true, cond_false, forall_const, List.getElem?_toArray, Option.some.injEq, ne_eq, not_false_eq_true, Array.toList, reduceCtorEq, Int.reduceLT, Int.reduceLE, Int.reduceToNat, Nat.reduceLeDiff, Nat.reduceLT, Nat.le_refl, Nat.reduceBNe, Nat.reduceBEq, Bool.false_eq_true, implies_true, Nat.add_zero, Nat.zero_add, bne_self_eq_false, beq_self_eq_true, Bool.and_self, Bool.or_true, Bool.or_false, Bool.true_or, Bool.false_or, Bool.false_and, Bool.and_false, wrap_succ i a.length hil ham]; rfl) ?_)) ?_
              refine ⟨a.length - (i + 1), by omega, ⟨[.c (.p 0 0 0), .c (.s false 2 (a.map due)), dI v, .top, .top, .top, .top, .top, dB is, .c (.s false 2 (s.map due)), dI (i + 1 : Nat), .top, .top, .top, .top, .top, .top, .top, .top, .top, .top, .top, .top, .top, .top, .top, .top, .top, .top, .top, .top, .top, .top, .top, .top, .top, .top, .top, .top, .top, .top, .top, .top, .top, .top, .top, .top, .top, .top, .top, .top, .top, .top, .top, .top, .top, .top, .top, .top, .top], [some ⟨false, 1, [[.s true 2 (m.map due)]]⟩]⟩, ⟨by repeat (first | exact .nil | refine .same ?_ | refine .top ?_), rfl⟩, i + 1, hil, rfl, fun h => ?_, rfl⟩
              obtain ⟨j, y, h1, h2, h3, h4⟩ := hg h
              refine ⟨j, y, ?_, h2, h3, h4⟩
              rcases Nat.eq_or_lt_of_le h1 with rfl | h
              · rw [hx] at h2
                cases h2
                exact absurd h3 hxv
              · exact h
          · have hil : i = a.length := by have := of_decide_eq_false h; omega
            subst hil
            have hisf : is = false := by
              cases is with
              | false => rfl
              | true =>
                obtain ⟨j, y, h1, h2, _⟩ := hg rfl
                have := lt_len h2
                omega
            subst hisf
            have hsa := hP3 rfl
            subst hsa
            have hS : pSame50 [.c (.s false 2 (s.map due)), .c (.s false 2 (s.map due))] = some (dB true) := by
              simp only [pSame50, decDues_map, Option.bind_some]
              rw [if_pos ⟨hsl, hsl⟩]; simp
            show Tri _ _ _ _
            refine seq_run okT4 rfl (by repeat (first | with_reducible exact runf_nil | refine runf_cons (by simp only [runf, xstep, stepf, stepx, evsA, qev, St.ev, St.put, St.with, D.cells, D.cell, D.int, boxA, qload, cellsAt, qmk, C.cpy, TK.agg, qnil, qfieldAddr, qpart, qfield, qindexAddr, qindex, qpick, qint, qshift, qstr, isEq, qeq, isShift, qbin, eqC, eqCs, qun, qconv, qbounds, qslice, qlen, qext, omap, q2, qbuiltin, liveR, C.st, C.cp, C.dat, storeA, putCells, constD, constC, List.getElem?_cons_zero, List.getElem?_cons_succ, List.set_cons_zero, List.set_cons_succ, List.replicate, List.length_cons, List.length_nil, List.cons_append, List.nil_append, List.append_nil, List.map_nil, List.map_cons, List.all_cons, List.all_nil, List.take_succ_cons, List.take_zero, List.drop_succ_cons, List.drop_zero, List.singleton_append, Option.bind_some, Option.bind_none, Option.map_some, Option.map_none, Bool.and_true, Bool.true_and, Nat.reduceAdd, Nat.reduceSub, Nat.reduceMul, Nat.reduceEqDiff, reduceIte, if_true, if_false, and_self, and_true, true_and, decide_true, decide_false, Bool.not_true, Bool.not_false, cond_true, cond_false, forall_const, List.getElem?_toArray, Option.some.injEq, ne_eq, not_false_eq_true, Array.toList, reduceCtorEq, Int.reduceLT, Int.reduceLE, Int.reduceToNat, Nat.reduceLeDiff, Nat.reduceLT, Nat.le_refl, Nat.reduceBNe, Nat.reduceBEq, Bool.false_eq_true, implies_true, Nat.add_zero, Nat.zero_add, bne_self_eq_false, beq_self_eq_true, Bool.and_self, Bool.or_true, Bool.or_false, Bool.true_or, Bool.false_or, Bool.false_and, Bool.and_false, dI, dB, tk3, tsz3, tz3, bo3, tk4, tsz4, tz4, bo4, tk66, tsz66, tz66, bo66, tk73, tsz73, tz73, bo73, tk79, tsz79, tz79, bo79, callP, callO, Fs.none, dedup, rootsD, rootsC, List.flatMap_cons, List.flatMap_nil, List.filterMap_cons, List.filterMap_nil, argDs, argD, argC, argCs, List.contains_nil, List.contains_cons, objsAt, objOf, List.idxOf?, List.findIdx?, List.findIdx?.go, setObjs, settle, settle1, settleC, settleDs, settleCs, List.isEmpty_nil, List.isEmpty_cons, FsT4, hS]; rfl) ?_)) ?_
            refine tri_ret (ends_ret (by simp only [outRes, resDs, resD, outDs, outD, outC, runf, xstep, stepf, stepx, evsA, qev, St.ev, St.put, St.with, D.cells, D.cell, D.int, boxA, qload, cellsAt, qmk, C.cpy, TK.agg, qnil, qfieldAddr, qpart, qfield, qindexAddr, qindex, qpick, qint, qshift, qstr, isEq, qeq, isShift, qbin, eqC, eqCs, qun, qconv, qbounds, qslice, qlen, qext, omap, q2, qbuiltin, liveR, C.st, C.cp, C.dat, storeA, putCells, constD, constC, List.getElem?_cons_zero, List.getElem?_cons_succ, List.set_cons_zero, List.set_cons_succ, List.replicate, List.length_cons, List.length_nil, List.cons_append, List.nil_append, List.append_nil, List.map_nil, List.map_cons, List.all_cons, List.all_nil, List.take_succ_cons, List.take_zero, List.drop_succ_cons, List.drop_zero, List.singleton_append, Option.bind_some, Option.bind_none, Option.map_some, Option.map_none, Bool.and_true, Bool.true_and, Nat.reduceAdd, Nat.reduceSub, Nat.reduceMul, Nat.reduceEqDiff, reduceIte, if_true, if_false, and_self, and_true, true_and, decide_true, decide_false, Bool.not_true, Bool.not_false, cond_true, cond_false, forall_const, List.getElem?_toArray, Option.some.injEq, ne_eq, not_false_eq_true, Array.toList, reduceCtorEq, Int.reduceLT, Int.reduceLE, Int.reduceToNat, Nat.reduceLeDiff, Nat.reduceLT, Nat.le_refl, Nat.reduceBNe, Nat.reduceBEq, Bool.false_eq_true, implies_true, Nat.add_zero, Nat.zero_add, bne_self_eq_false, beq_self_eq_true, Bool.and_self, Bool.or_true, Bool.or_false, Bool.true_or, Bool.false_or, Bool.false_and, Bool.and_false]; rfl) rfl .nil (by simp) ?_)
            exact hQ
        · cases hd
  · cases hd

end Go.Dl

namespace Go.Dl
open Go.RowKit
open Go.Proofs
set_option linter.unusedSimpArgs false
set_option linter.unusedVariables false

theorem ord_le (x y : Int × Int) : ordD x y ≤ 0 ↔ leD x y := by
  rw [leD_iff]
  simp only [ordD, cmpI]
  repeat' split
  all_goals omega
theorem ord_lt (x y : Int × Int) : ordD x y < 0 ↔ ¬ leD y x := by
  rw [leD_iff]
  simp only [ordD, cmpI]
  repeat' split
  all_goals omega
theorem leD_total (x y : Int × Int) (h : ¬ leD x y) : leD y x := by
  rw [leD_iff] at *; omega
theorem leD_refl (x : Int × Int) : leD x x := by
  rw [leD_iff]; omega

theorem swap_get {m : List (Int × Int)} {a b : Nat} {x y : Int × Int} (hx : m[a]? = some x) (hy : m[b]? = some y) (hab : a ≠ b) (k : Nat) :
    (swapQ m a b)[k]? = if k = a then some y else if k = b then some x else m[k]? := by
  have ha := lt_len hx
  have hb := lt_len hy
  simp only [swapQ, hx, hy]
  by_cases h1 : k = a
  · subst h1
    rw [if_pos rfl, List.getElem?_set_ne (Ne.symm hab), List.getElem?_set_self ha]
  · rw [if_neg h1]
    by_cases h2 : k = b
    · subst h2
      rw [if_pos rfl, List.getElem?_set_self (by rw [List.length_set]; exact hb)]
    · rw [if_neg h2, List.getElem?_set_ne (Ne.symm h2), List.getElem?_set_ne (Ne.symm h1)]

def Heap (q : List (Int × Int)) : Prop := ∀ (j : Nat) (x p : Int × Int), 0 < j → q[j]? = some x → q[(j - 1) / 2]? = some p → leD p x

theorem siftUp_heap : ∀ (f : Nat) (m : List (Int × Int)) (i : Nat), i < f → i < m.length →
    (∀ (j : Nat) (x p : Int × Int), 0 < j → j ≠ i → m[j]? = some x → m[(j - 1) / 2]? = some p → leD p x) →
    (0 < i → ∀ (j : Nat) (x p : Int × Int), 0 < j → (j - 1) / 2 = i → m[j]? = some x → m[(i - 1) / 2]? = some p → leD p x) → Heap (siftUp f m i)
  | 0, m, i, h, _, _, _ => by omega
  | f + 1, m, i, hf, hi, h1, h2 => by
    simp only [siftUp]
    by_cases hi0 : i = 0
    · rw [if_pos hi0]
      subst hi0
      exact fun j x p hj hx hp => h1 j x p hj (by omega) hx hp
    · rw [if_neg hi0]
      obtain ⟨c, hc⟩ : ∃ c, m[i]? = some c := ⟨m[i], List.getElem?_eq_getElem hi⟩
      obtain ⟨u, hu⟩ : ∃ u, u = (i - 1) / 2 := ⟨_, rfl⟩
      have hui : u < i := by omega
      obtain ⟨p, hp⟩ : ∃ p, m[u]? = some p := ⟨m[u]'(by omega), List.getElem?_eq_getElem _⟩
      rw [← hu, hp, hc]
      simp only
      by_cases hle : ordD p c ≤ 0
      · rw [if_pos hle]
        have hpc := (ord_le p c).1 hle
        intro j x p' hj hx hp'
        by_cases hji : j = i
        · subst hji
          rw [hc] at hx; cases hx
          rw [← hu, hp] at hp'; cases hp'
          exact hpc
        · exact h1 j x p' hj hji hx hp'
      · rw [if_neg hle]
        have hcp := leD_total _ _ fun h => hle ((ord_le p c).2 h)
        have hg := swap_get hp hc (Nat.ne_of_lt hui)
        have hsl : (swapQ m u i).length = m.length := (swapQ_perm m u i).length_eq
        refine siftUp_heap f _ u (by omega) (by omega) ?_ ?_
        · intro j x g hj hju hx hgp
          rw [hg] at hx hgp
          rw [if_neg hju] at hx
          by_cases hji : j = i
          · subst hji
            rw [if_pos rfl] at hx; cases hx
            rw [← hu, if_pos rfl] at hgp; cases hgp
            exact hcp
          · rw [if_neg hji] at hx
            by_cases hpu : (j - 1) / 2 = u
            · rw [if_pos hpu] at hgp; cases hgp
              exact leD_trans _ _ _ hcp (h1 j x p hj hji hx (by rw [hpu]; exact hp))
            · rw [if_neg hpu] at hgp
              by_cases hpi : (j - 1) / 2 = i
              · rw [if_pos hpi] at hgp; cases hgp
                exact h2 (by omega) j x p hj hpi hx (by rw [← hu]; exact hp)
              · rw [if_neg hpi] at hgp
                exact h1 j x g hj hji hx hgp
        · intro hu0 j x g hj hpj hx hgp
          rw [hg] at hx hgp
          have e1 : ¬ (u - 1) / 2 = u := by omega
          have e2 : ¬ (u - 1) / 2 = i := by omega
          rw [if_neg e1, if_neg e2] at hgp
          have hgp' := h1 u p g hu0 (by omega) hp hgp
          have hju : ¬ j = u := by omega
          rw [if_neg hju] at hx
          by_cases hji : j = i
          · rw [if_pos hji] at hx; cases hx
            exact hgp'
          · rw [if_neg hji] at hx
            exact leD_trans _ _ _ hgp' (h1 j x p hj hji hx (by rw [hpj]; exact hp))

theorem addQ_heap {q : List (Int × Int)} (h : Heap q) (d : Int × Int) : Heap (addQ q d) := by
  have app : ∀ {j : Nat} {x : Int × Int}, (q ++ [d])[j]? = some x → j ≠ q.length → q[j]? = some x := by
    intro j x hx hj
    have := lt_len hx
    simp at this
    rwa [List.getElem?_append_left (by omega)] at hx
  refine siftUp_heap _ _ _ (by omega) (by simp) ?_ ?_
  · intro j x p hj hjl hx hp
    have hx := app hx hjl
    have := lt_len hx
    exact h j x p hj hx (app hp (by omega))
  · intro _ j x p hj hpj hx _
    have := lt_len hx
    simp at this
    omega

theorem heap_nil : Heap [] := fun j x p _ h _ => by simp at h
theorem fold_heap : ∀ (l q : List (Int × Int)), Heap q → Heap (l.foldl addQ q)
  | [], q, h => h
  | d :: l, q, h => fold_heap l _ (addQ_heap h d)

theorem better_le {m : List (Int × Int)} {c b : Nat} {y : Int × Int} (hy : m[b]? = some y) : ∃ z, m[betterQ m c b]? = some z ∧ leD z y ∧ ∀ x, m[c]? = some x → leD z x := by
  unfold betterQ
  rw [hy]
  cases hx : m[c]? with
  | none => exact ⟨y, hy, leD_refl y, fun x h => by cases h⟩
  | some x =>
    simp only
    by_cases hlt : ordD x y < 0
    · rw [if_pos hlt]
      refine ⟨x, hx, leD_total _ _ ((ord_lt x y).1 hlt), fun x' h => by cases h; exact leD_refl x⟩
    · rw [if_neg hlt]
      refine ⟨y, hy, leD_refl y, fun x' h => ?_⟩
      cases h
      exact Classical.byContradiction fun hn => hlt ((ord_lt x y).2 hn)

theorem least_le {m : List (Int × Int)} {i : Nat} {y : Int × Int} (hy : m[i]? = some y) : ∃ z, m[leastQ m i]? = some z ∧ leD z y ∧ ∀ (j : Nat) (x : Int × Int), 0 < j → (j - 1) / 2 = i → m[j]? = some x → leD z x := by
  obtain ⟨z1, a1, a2, a3⟩ := better_le (c := 2 * i + 1) hy
  obtain ⟨z2, b1, b2, b3⟩ := better_le (c := 2 * i + 2) a1
  refine ⟨z2, b1, leD_trans _ _ _ b2 a2, fun j x hj hpj hx => ?_⟩
  rcases (show j = 2 * i + 1 ∨ j = 2 * i + 2 by omega) with rfl | rfl
  · exact leD_trans _ _ _ b2 (a3 x hx)
  · exact b3 x hx

theorem least_up {m : List (Int × Int)} {i : Nat} (h : ¬ leastQ m i = i) : (leastQ m i - 1) / 2 = i := by
  unfold leastQ at *
  rcases better_or m (2 * i + 2) (betterQ m (2 * i + 1) i) with ⟨h1, _⟩ | h1
  · rw [h1]; omega
  · rw [h1] at h ⊢
    rcases better_or m (2 * i + 1) i with ⟨h3, _⟩ | h3
    · rw [h3]; omega
    · exact absurd h3 h

theorem sinkQ_perm : ∀ (f : Nat) (m : List (Int × Int)) (i : Nat), (sinkQ f m i).Perm m
  | 0, m, i => .refl _
  | f + 1, m, i => by
    simp only [sinkQ]
    split
    · exact .refl _
    · exact (sinkQ_perm f _ _).trans (swapQ_perm m _ _)

theorem sinkQ_heap : ∀ (f : Nat) (m : List (Int × Int)) (i : Nat), m.length - i < f →
    (∀ (j : Nat) (x p : Int × Int), 0 < j → (j - 1) / 2 ≠ i → m[j]? = some x → m[(j - 1) / 2]? = some p → leD p x) →
    (0 < i → ∀ (j : Nat) (x p : Int × Int), 0 < j → (j - 1) / 2 = i → m[j]? = some x → m[(i - 1) / 2]? = some p → leD p x) → Heap (sinkQ f m i)
  | 0, m, i, h, _, _ => by omega
  | f + 1, m, i, hf, h1, h2 => by
    simp only [sinkQ]
    by_cases hk : leastQ m i = i
    · rw [if_pos hk]
      intro j x p hj hx hp
      by_cases hji : (j - 1) / 2 = i
      · rw [hji] at hp
        obtain ⟨z, a1, a2, a3⟩ := least_le hp
        rw [hk, hp] at a1
        cases a1
        exact a3 j x hj hji hx
      · exact h1 j x p hj hji hx hp
    · rw [if_neg hk]
      obtain ⟨g1, g2⟩ := least_lt m i hk
      have g3 := least_up hk
      obtain ⟨y, hy⟩ : ∃ y, m[i]? = some y := ⟨m[i]'(by omega), List.getElem?_eq_getElem _⟩
      obtain ⟨z, a1, a2, a3⟩ := least_le hy
      generalize leastQ m i = k at *
      have hg := swap_get hy a1 (Nat.ne_of_lt g1)
      have hsl : (swapQ m i k).length = m.length := (swapQ_perm m i k).length_eq
      refine sinkQ_heap f _ k (by omega) ?_ ?_
      · intro j x p hj hpk hx hp
        rw [hg] at hx hp
        rw [if_neg hpk] at hp
        by_cases hji : j = i
        · rw [if_pos hji] at hx; cases hx
          have hpi : ¬ (j - 1) / 2 = i := by omega
          rw [if_neg hpi] at hp
          subst hji
          exact h2 hj k z p (by omega) g3 a1 hp
        · rw [if_neg hji] at hx
          by_cases hjk : j = k
          · rw [if_pos hjk] at hx; cases hx
            rw [if_pos (by omega)] at hp; cases hp
            exact a2
          · rw [if_neg hjk] at hx
            by_cases hpi : (j - 1) / 2 = i
            · rw [if_pos hpi] at hp; cases hp
              exact a3 j x hj hpi hx
            · rw [if_neg hpi] at hp
              exact h1 j x p hj hpi hx hp
      · intro hk0 j x p hj hpj hx hp
        rw [hg] at hx hp
        rw [if_neg (by omega), if_neg (by omega)] at hx
        rw [g3, if_pos rfl] at hp; cases hp
        exact h1 j x z hj (by omega) hx (by rw [hpj]; exact a1)

theorem heap_root {q : List (Int × Int)} {r : Int × Int} (h : Heap q) (hr : q[0]? = some r) : ∀ (j : Nat) (x : Int × Int), q[j]? = some x → leD r x := by
  intro j
  induction j using Nat.strongRecOn with
  | ind j ih =>
    intro x hx
    by_cases hj : j = 0
    · subst hj; rw [hr] at hx; cases hx; exact leD_refl r
    · have := lt_len hx
      obtain ⟨p, hp⟩ : ∃ p, q[(j - 1) / 2]? = some p := ⟨q[(j - 1) / 2]'(by omega), List.getElem?_eq_getElem _⟩
      exact leD_trans _ _ _ (ih _ (by omega) p hp) (h j x p (by omega) hx hp)

/-- The first of a heap is the first in order. -/
theorem head_law {x : Int × Int} {t a : List (Int × Int)} (h : Heap (x :: t)) (hp : (x :: t).Perm a) (hs : List.Pairwise leD a) : ∃ a', a = x :: a' ∧ t.Perm a' := by
  cases a with
  | nil => exact absurd hp.length_eq (by simp)
  | cons y a' =>
    have h1 : leD x y := by
      obtain ⟨j, hj⟩ := List.getElem?_of_mem (hp.mem_iff.2 (List.mem_cons_self ..))
      exact heap_root h rfl j y hj
    have h2 : leD y x := by
      rcases List.mem_cons.1 (hp.mem_iff.1 (List.mem_cons_self ..)) with rfl | hm
      · exact leD_refl _
      · exact (List.pairwise_cons.1 hs).1 x hm
    have := leD_anti x y h1 h2
    subst this
    exact ⟨a', rfl, List.Perm.cons_inv hp⟩

theorem take_law {x : Int × Int} {t : List (Int × Int)} (h : Heap (x :: t)) : Heap (takeQ (x :: t)) ∧ (takeQ (x :: t)).Perm t := by
  obtain ⟨z, hz⟩ : ∃ z, (x :: t)[t.length]? = some z := ⟨(x :: t)[t.length]'(by simp), List.getElem?_eq_getElem _⟩
  have htake : takeQ (x :: t) = sinkQ (t.length + 1) ((z :: t).take t.length) 0 := by
    simp only [takeQ, List.length_cons, Nat.add_sub_cancel, hz, List.set_cons_zero]
  rw [htake]
  constructor
  · refine sinkQ_heap _ _ _ (by rw [List.length_take]; omega) ?_ (fun h => by omega)
    have get : ∀ {j : Nat} {y : Int × Int}, 0 < j → ((z :: t).take t.length)[j]? = some y → (x :: t)[j]? = some y := by
      intro j y hj hy
      have := lt_len hy
      rw [List.length_take] at this
      rw [List.getElem?_take, if_pos (by omega)] at hy
      cases j with
      | zero => omega
      | succ j => simpa using hy
    intro j y p hj hp0 hy hp
    exact h j y p hj (get hj hy) (get (by omega) hp)
  · refine (sinkQ_perm _ _ _).trans ?_
    rcases List.eq_nil_or_concat t with rfl | ⟨t', w, rfl⟩
    · exact .refl _
    · have : z = w := by
        simp at hz
        exact hz.symm
      subst this
      have e : (z :: (t' ++ [z])).take (t' ++ [z]).length = z :: t' := by simp
      rw [List.concat_eq_append] at *
      rw [e]
      exact (List.perm_append_comm (l₁ := [z]) (l₂ := t'))

end Go.Dl
