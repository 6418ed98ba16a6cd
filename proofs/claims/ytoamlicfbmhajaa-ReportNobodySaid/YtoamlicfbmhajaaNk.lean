/- The walk of ReportNobody. -/
import Derived.Test.YtoamlicfbmhajaaNj
namespace Go.Dl
open Go.RowKit
open Go.Proofs
set_option linter.unusedSimpArgs false
set_option linter.unusedVariables false
set_option maxRecDepth 100000

noncomputable def FsN8 : Fs := { Fs.none with pure := fun k => if k = 25 then some pOf else if k = 26 then some pSum else if k = 27 then some pAwake27 else none }
theorem okN8 : FsOK Try.prog FsN8 := by
  refine ⟨fun k f h => ?_, fun _ _ h => (by cases h)⟩
  simp only [FsN8] at h
  split at h
  · rename_i hk; subst hk; cases h; exact ⟨by kernel_rfl, meets25n⟩
  split at h
  · rename_i hk; subst hk; cases h; exact ⟨by kernel_rfl, meets26⟩
  split at h
  · rename_i hk; subst hk; cases h; exact ⟨by kernel_rfl, meets27⟩
  · cases h

theorem vs_ints {w : World} {S : Nat → Prop} {E : Env} : ∀ {l : List Int} {vs : List Value} {fp : List Nat}, Rep w S E (.vs (nums l) vs) fp → vs = l.map (Value.int .i64)
  | [], vs, fp, h => by cases h; rfl
  | n :: l, vs, fp, h => by
    cases h with
    | vcons h1 h2 =>
      cases h1
      rw [vs_ints h2]; rfl

theorem agg_ints {w : World} {S : Nat → Prop} {E : Env} {l : List Int} {v : Value} (h : RepD w S E (.agg (nums l)) v) : v = .agg (l.map (Value.int .i64)).toArray := by
  obtain ⟨arr, rfl, h1⟩ := agg_inv h
  have := vs_ints h1
  rw [← this]

theorem row66_get0 : (row66 8).drop 0 = .v (.int .i64 0) :: (row66 8).drop 1 := rfl
theorem row66_get65 : (row66 8).drop 65 = [.v (.int .i64 0)] := rfl

/-- ReportNobody. -/
def pReportNobody : List D → Option D
  | [.agg xs] => (decNums xs).bind fun l => if l.length = 8 then some (dB true) else none
  | _ => none
theorem hAwake27 : pAwake27 [] = some (.c (.v (.bool true))) := oneP_eq _ _
theorem cls_eq {w : World} : (binOp .eql 43 (.agg #[.int .i64 0, .int .i64 0, .int .i64 0, .int .i64 0, .int .i64 0, .int .i64 0, .int .i64 0, .int .i64 (-1)]) (.agg #[.int .i64 0, .int .i64 0, .int .i64 0, .int .i64 0, .int .i64 0, .int .i64 0, .int .i64 0, .int .i64 (-1)])).run Try.prog w = .ok (.bool true) w := by kernel_rfl
theorem cls_guard {w : World} {x y : Operand} : (eqGuard .eql 43 x y (.agg #[.int .i64 0, .int .i64 0, .int .i64 0, .int .i64 0, .int .i64 0, .int .i64 0, .int .i64 0, .int .i64 (-1)]) (.agg #[.int .i64 0, .int .i64 0, .int .i64 0, .int .i64 0, .int .i64 0, .int .i64 0, .int .i64 0, .int .i64 (-1)])).run Try.prog w = .ok () w := by kernel_rfl

theorem got6 : Try.prog.funcs[6]? = some Try.f6 := by kernel_rfl
theorem meets6 : Meets Try.prog 6 (pureS pReportNobody) := by
  refine meets_of_tri got6 rfl (n := 23) rfl (rs := [ResultVar.tmp 2]) rfl ?_
  rintro args objs Q ⟨rfl, d, hd, hQ⟩
  unfold pReportNobody at hd
  split at hd
  · rename_i xs
    cases hx : decNums xs with
    | none => rw [hx] at hd; cases hd
    | some l =>
      rw [hx] at hd
      simp only [Option.bind_some] at hd
      split at hd
      · rename_i hl
        cases hd
        have := decNums_eq hx
        subst this
        have ht8 : (nums l).take 8 = nums l := by rw [← hl]; exact nums_take l
        have hO : pOf [.c (.v (.pointer none)), .agg (nums l)] = some (.agg (row66 8)) := by
          simp only [pOf, decNums_nums, Option.bind_some, if_pos hl]
        refine seq_run ok0 rfl (by repeat (first | with_reducible exact runf_nil | refine runf_cons (by simp only [runf, xstep, stepf, stepx, evsA, qev, St.ev, St.put, St.with, D.cells, D.cell, D.int, boxA, qload, cellsAt, qmk, C.cpy, TK.agg, qnil, qfieldAddr, qpart, qfield, qindexAddr, qindex, qpick, qint, qshift, qstr, isEq, qeq, isShift, qbin, qun, qconv, qbounds, qslice, qlen, qext, omap, q2, qbuiltin, liveR, C.st, C.cp, C.dat, storeA, putCells, constD, constC, List.getElem?_cons_zero, List.getElem?_cons_succ, List.set_cons_zero, List.set_cons_succ, List.replicate, List.length_cons, List.length_nil, List.cons_append, List.nil_append, List.append_nil, List.map_nil, List.map_cons, List.all_cons, List.all_nil, List.take_succ_cons, List.take_zero, List.drop_succ_cons, List.drop_zero, List.singleton_append, Option.bind_some, Option.bind_none, Option.map_some, Option.map_none, Bool.and_true, Bool.true_and, Nat.reduceAdd, Nat.reduceSub, Nat.reduceMul, Nat.reduceEqDiff, reduceIte, if_true, if_false, and_self, and_true, true_and, decide_true, decide_false, Bool.not_true, Bool.not_false, cond_true, cond_false, forall_const, List.getElem?_toArray, Option.some.injEq, ne_eq, not_false_eq_true, Array.toList, reduceCtorEq, Int.reduceLT, Int.reduceLE, Int.reduceToNat, Nat.reduceLeDiff, Nat.reduceLT, Nat.le_refl, Nat.reduceBNe, Nat.reduceBEq, Bool.false_eq_true, implies_true, Nat.add_zero, Nat.zero_add, bne_self_eq_false, beq_self_eq_true, Bool.and_self, Bool.or_true, Bool.or_false, Bool.true_or, Bool.false_or, Bool.false_and, Bool.and_false, tk3, tsz3, tz3, bo3, tk4, tsz4, tz4, bo4, tk22, tsz22, tz22, bo22, nums_st, nums_len, hl]; rfl) ?_)) ?_
        refine seq_run okN8 rfl (by repeat (first | with_reducible exact runf_nil | refine runf_cons (by simp only [runf, xstep, stepf, stepx, evsA, qev, St.ev, St.put, St.with, D.cells, D.cell, D.int, boxA, qload, cellsAt, qmk, C.cpy, TK.agg, qnil, qfieldAddr, qpart, qfield, qindexAddr, qindex, qpick, qint, qshift, qstr, isEq, qeq, isShift, qbin, qun, qconv, qbounds, qslice, qlen, qext, omap, q2, qbuiltin, liveR, C.st, C.cp, C.dat, storeA, putCells, constD, constC, List.getElem?_cons_zero, List.getElem?_cons_succ, List.set_cons_zero, List.set_cons_succ, List.replicate, List.length_cons, List.length_nil, List.cons_append, List.nil_append, List.append_nil, List.map_nil, List.map_cons, List.all_cons, List.all_nil, List.take_succ_cons, List.take_zero, List.drop_succ_cons, List.drop_zero, List.singleton_append, Option.bind_some, Option.bind_none, Option.map_some, Option.map_none, Bool.and_true, Bool.true_and, Nat.reduceAdd, Nat.reduceSub, Nat.reduceMul, Nat.reduceEqDiff, reduceIte, if_true, if_false, and_self, and_true, true_and, decide_true, decide_false, Bool.not_true, Bool.not_false, cond_true, cond_false, forall_const, List.getElem?_toArray, Option.some.injEq, ne_eq, not_false_eq_true, Array.toList, reduceCtorEq, Int.reduceLT, Int.reduceLE, Int.reduceToNat, Nat.reduceLeDiff, Nat.reduceLT, Nat.le_refl, Nat.reduceBNe, Nat.reduceBEq, Bool.false_eq_true, implies_true, Nat.add_zero, Nat.zero_add, bne_self_eq_false, beq_self_eq_true, Bool.and_self, Bool.or_true, Bool.or_false, Bool.true_or, Bool.false_or, Bool.false_and, Bool.and_false, tk3, tsz3, tz3, bo3, tk4, tsz4, tz4, bo4, tk22, tsz22, tz22, bo22, tk43, tsz43, tz43, bo43, tk44, tsz44, bo44, tk46, tsz46, bo46, tk114, tsz114, tz114, bo114, tz46, nums_st, nums_cp, nums_cpy, nums_len, nums_arg, ht8, hl, row66_st, row66_len, row66_settle, callP, callO, Fs.none, dedup, rootsD, rootsC, List.flatMap_cons, List.flatMap_nil, List.filterMap_cons, List.filterMap_nil, argDs, argD, argC, argCs, List.contains_nil, List.contains_cons, objsAt, objOf, List.idxOf?, List.findIdx?, List.findIdx?.go, setObjs, D.ni, D.ni1, C.ni, C.niRow, settle, settle1, settleC, settleDs, settleCs, List.isEmpty_nil, List.isEmpty_cons, FsN8, hO]; rfl) ?_)) ?_
        refine seq_runR ?_
        refine rr_det okN8 rfl (by simp only [runf, xstep, stepf, stepx, evsA, qev, St.ev, St.put, St.with, D.cells, D.cell, D.int, boxA, qload, cellsAt, qmk, C.cpy, TK.agg, qnil, qfieldAddr, qpart, qfield, qindexAddr, qindex, qpick, qint, qshift, qstr, isEq, qeq, isShift, qbin, qun, qconv, qbounds, qslice, qlen, qext, omap, q2, qbuiltin, liveR, C.st, C.cp, C.dat, storeA, putCells, constD, constC, List.getElem?_cons_zero, List.getElem?_cons_succ, List.set_cons_zero, List.set_cons_succ, List.replicate, List.length_cons, List.length_nil, List.cons_append, List.nil_append, List.append_nil, List.map_nil, List.map_cons, List.all_cons, List.all_nil, List.take_succ_cons, List.take_zero, List.drop_succ_cons, List.drop_zero, List.singleton_append, Option.bind_some, Option.bind_none, Option.map_some, Option.map_none, Bool.and_true, Bool.true_and, Nat.reduceAdd, Nat.reduceSub, Nat.reduceMul, Nat.reduceEqDiff, reduceIte, if_true, if_false, and_self, and_true, true_and, decide_true, decide_false, Bool.not_true, Bool.not_false, cond_true, cond_false, forall_const, List.getElem?_toArray, Option.some.injEq, ne_eq, not_false_eq_true, Array.toList, reduceCtorEq, Int.reduceLT, Int.reduceLE, Int.reduceToNat, Nat.reduceLeDiff, Nat.reduceLT, Nat.le_refl, Nat.reduceBNe, Nat.reduceBEq, Bool.false_eq_true, implies_true, Nat.add_zero, Nat.zero_add, bne_self_eq_false, beq_self_eq_true, Bool.and_self, Bool.or_true, Bool.or_false, Bool.true_or, Bool.false_or, Bool.false_and, Bool.and_false, tk3, tsz3, tz3, bo3, tk4, tsz4, tz4, bo4, tk22, tsz22, tz22, bo22, tk43, tsz43, tz43, bo43, tk44, tsz44, bo44, tk46, tsz46, bo46, tk114, tsz114, tz114, bo114, row66_st, row66_len, row66_take, row66_cpy, row66_cp]; rfl) ?_
        refine rr_det okN8 rfl (by simp only [runf, xstep, stepf, stepx, evsA, qev, St.ev, St.put, St.with, D.cells, D.cell, D.int, boxA, qload, cellsAt, qmk, C.cpy, TK.agg, qnil, qfieldAddr, qpart, qfield, qindexAddr, qindex, qpick, qint, qshift, qstr, isEq, qeq, isShift, qbin, qun, qconv, qbounds, qslice, qlen, qext, omap, q2, qbuiltin, liveR, C.st, C.cp, C.dat, storeA, putCells, constD, constC, List.getElem?_cons_zero, List.getElem?_cons_succ, List.set_cons_zero, List.set_cons_succ, List.replicate, List.length_cons, List.length_nil, List.cons_append, List.nil_append, List.append_nil, List.map_nil, List.map_cons, List.all_cons, List.all_nil, List.take_succ_cons, List.take_zero, List.drop_succ_cons, List.drop_zero, List.singleton_append, Option.bind_some, Option.bind_none, Option.map_some, Option.map_none, Bool.and_true, Bool.true_and, Nat.reduceAdd, Nat.reduceSub, Nat.reduceMul, Nat.reduceEqDiff, reduceIte, if_true, if_false, and_self, and_true, true_and, decide_true, decide_false, Bool.not_true, Bool.not_false, cond_true, cond_false, forall_const, List.getElem?_toArray, Option.some.injEq, ne_eq, not_false_eq_true, Array.toList, reduceCtorEq, Int.reduceLT, Int.reduceLE, Int.reduceToNat, Nat.reduceLeDiff, Nat.reduceLT, Nat.le_refl, Nat.reduceBNe, Nat.reduceBEq, Bool.false_eq_true, implies_true, Nat.add_zero, Nat.zero_add, bne_self_eq_false, beq_self_eq_true, Bool.and_self, Bool.or_true, Bool.or_false, Bool.true_or, Bool.false_or, Bool.false_and, Bool.and_false, tk3, tsz3, tz3, bo3, tk4, tsz4, tz4, bo4, tk43, tsz43, tz43, bo43, row66_arg, callP, callO, Fs.none, dedup, rootsD, rootsC, List.flatMap_cons, List.flatMap_nil, List.filterMap_cons, List.filterMap_nil, argDs, argD, argC, argCs, List.contains_nil, List.contains_cons, objsAt, objOf, List.idxOf?, List.findIdx?, List.findIdx?.go, setObjs, D.ni, D.ni1, C.ni, C.niRow, settle, settle1, settleC, settleDs, settleCs, List.isEmpty_nil, List.isEmpty_cons, FsN8, hSum]; rfl) ?_
        refine rr_det okN8 rfl (by simp only [runf, xstep, stepf, stepx, evsA, qev, St.ev, St.put, St.with, D.cells, D.cell, D.int, boxA, qload, cellsAt, qmk, C.cpy, TK.agg, qnil, qfieldAddr, qpart, qfield, qindexAddr, qindex, qpick, qint, qshift, qstr, isEq, qeq, isShift, qbin, qun, qconv, qbounds, qslice, qlen, qext, omap, q2, qbuiltin, liveR, C.st, C.cp, C.dat, storeA, putCells, constD, constC, List.getElem?_cons_zero, List.getElem?_cons_succ, List.set_cons_zero, List.set_cons_succ, List.replicate, List.length_cons, List.length_nil, List.cons_append, List.nil_append, List.append_nil, List.map_nil, List.map_cons, List.all_cons, List.all_nil, List.take_succ_cons, List.take_zero, List.drop_succ_cons, List.drop_zero, List.singleton_append, Option.bind_some, Option.bind_none, Option.map_some, Option.map_none, Bool.and_true, Bool.true_and, Nat.reduceAdd, Nat.reduceSub, Nat.reduceMul, Nat.reduceEqDiff, reduceIte, if_true, if_false, and_self, and_true, true_and, decide_true, decide_false, Bool.not_true, Bool.not_false, cond_true, cond_false, forall_const, List.getElem?_toArray, Option.some.injEq, ne_eq, not_false_eq_true, Array.toList, reduceCtorEq, Int.reduceLT, Int.reduceLE, Int.reduceToNat, Nat.reduceLeDiff, Nat.reduceLT, Nat.le_refl, Nat.reduceBNe, Nat.reduceBEq, Bool.false_eq_true, implies_true, Nat.add_zero, Nat.zero_add, bne_self_eq_false, beq_self_eq_true, Bool.and_self, Bool.or_true, Bool.or_false, Bool.true_or, Bool.false_or, Bool.false_and, Bool.and_false, tk3, tsz3, tz3, bo3, tk4, tsz4, tz4, bo4, tk43, tsz43, tz43, bo43, buildA, partsA, fillA, placeSt]; rfl) ?_
        refine rr_gen (T := fun v => v = .bool true) rfl rfl ?_ ?_
        · intro e w S E he hc hf
          have h7 : e (.tmp 7) = .agg #[.int .i64 0, .int .i64 0, .int .i64 0, .int .i64 0, .int .i64 0, .int .i64 0, .int .i64 0, .int .i64 (-1)] := agg_ints (l := [0, 0, 0, 0, 0, 0, 0, -1]) (he (.tmp 7) (by simp [Op.operands]) _ rfl)
          have h8 : e (.tmp 8) = .agg #[.int .i64 0, .int .i64 0, .int .i64 0, .int .i64 0, .int .i64 0, .int .i64 0, .int .i64 0, .int .i64 (-1)] := agg_ints (l := [0, 0, 0, 0, 0, 0, 0, -1]) (he (.tmp 8) (by simp [Op.operands]) _ rfl)
          refine ⟨.bool true, w, ?_, .inl rfl, trivial, rfl⟩
          simp only [execOp, h7, h8, Sem.run_bind, cls_guard, cls_eq, Result.andThen_ok, Sem.run_pure]
        rintro _ rfl
        repeat (refine rr_det okN8 rfl (by simp only [runf, xstep, stepf, stepx, evsA, qev, St.ev, St.put, St.with, D.cells, D.cell, D.int, boxA, qload, cellsAt, qmk, C.cpy, TK.agg, qnil, qfieldAddr, qpart, qfield, qindexAddr, qindex, qpick, qint, qshift, qstr, isEq, qeq, isShift, qbin, qun, qconv, qbounds, qslice, qlen, qext, omap, q2, qbuiltin, liveR, C.st, C.cp, C.dat, storeA, putCells, constD, constC, List.getElem?_cons_zero, List.getElem?_cons_succ, List.set_cons_zero, List.set_cons_succ, List.replicate, List.length_cons, List.length_nil, List.cons_append, List.nil_append, List.append_nil, List.map_nil, List.map_cons, List.all_cons, List.all_nil, List.take_succ_cons, List.take_zero, List.drop_succ_cons, List.drop_zero, List.singleton_append, Option.bind_some, Option.bind_none, Option.map_some, Option.map_none, Bool.and_true, Bool.true_and, Nat.reduceAdd, Nat.reduceSub, Nat.reduceMul, Nat.reduceEqDiff, reduceIte, if_true, if_false, and_self, and_true, true_and, decide_true, decide_false, Bool.not_true, Bool.not_false, cond_true, cond_false, forall_const, List.getElem?_toArray, Option.some.injEq, ne_eq, not_false_eq_true, Array.toList, reduceCtorEq, Int.reduceLT, Int.reduceLE, Int.reduceToNat, Nat.reduceLeDiff, Nat.reduceLT, Nat.le_refl, Nat.reduceBNe, Nat.reduceBEq, Bool.false_eq_true, implies_true, Nat.add_zero, Nat.zero_add, bne_self_eq_false, beq_self_eq_true, Bool.and_self, Bool.or_true, Bool.or_false, Bool.true_or, Bool.false_or, Bool.false_and, Bool.and_false, tk3, tsz3, tz3, bo3, tk4, tsz4, tz4, bo4, tk43, tsz43, tz43, bo43, tk44, tsz44, bo44, tk46, tsz46, bo46, row66_get0, row66_get65, row66_len, callP, callO, Fs.none, dedup, rootsD, rootsC, List.flatMap_cons, List.flatMap_nil, List.filterMap_cons, List.filterMap_nil, argDs, argD, argC, argCs, List.contains_nil, List.contains_cons, objsAt, objOf, List.idxOf?, List.findIdx?, List.findIdx?.go, setObjs, D.ni, D.ni1, C.ni, C.niRow, settle, settle1, settleC, settleDs, settleCs, List.isEmpty_nil, List.isEmpty_cons, FsN8, hAwake27]; rfl) ?_)
        refine rr_nil ?_
        refine tri_ret (ends_ret (by simp only [outRes, resDs, resD, outDs, outD, outC, outCs, runf, xstep, stepf, stepx, evsA, qev, St.ev, St.put, St.with, D.cells, D.cell, D.int, boxA, qload, cellsAt, qmk, C.cpy, TK.agg, qnil, qfieldAddr, qpart, qfield, qindexAddr, qindex, qpick, qint, qshift, qstr, isEq, qeq, isShift, qbin, qun, qconv, qbounds, qslice, qlen, qext, omap, q2, qbuiltin, liveR, C.st, C.cp, C.dat, storeA, putCells, constD, constC, List.getElem?_cons_zero, List.getElem?_cons_succ, List.set_cons_zero, List.set_cons_succ, List.replicate, List.length_cons, List.length_nil, List.cons_append, List.nil_append, List.append_nil, List.map_nil, List.map_cons, List.all_cons, List.all_nil, List.take_succ_cons, List.take_zero, List.drop_succ_cons, List.drop_zero, List.singleton_append, Option.bind_some, Option.bind_none, Option.map_some, Option.map_none, Bool.and_true, Bool.true_and, Nat.reduceAdd, Nat.reduceSub, Nat.reduceMul, Nat.reduceEqDiff, reduceIte, if_true, if_false, and_self, and_true, true_and, decide_true, decide_false, Bool.not_true, Bool.not_false, cond_true, cond_false, forall_const, List.getElem?_toArray, Option.some.injEq, ne_eq, not_false_eq_true, Array.toList, reduceCtorEq, Int.reduceLT, Int.reduceLE, Int.reduceToNat, Nat.reduceLeDiff, Nat.reduceLT, Nat.le_refl, Nat.reduceBNe, Nat.reduceBEq, Bool.false_eq_true, implies_true, Nat.add_zero, Nat.zero_add, bne_self_eq_false, beq_self_eq_true, Bool.and_self, Bool.or_true, Bool.or_false, Bool.true_or, Bool.false_or, Bool.false_and, Bool.and_false]; rfl) rfl (by simp) (by simp) ?_)
        exact hQ
      · cases hd
  · cases hd

end Go.Dl
