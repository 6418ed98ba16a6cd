/- The walks of octet's Reader: texts, the end; of bundle.Read. -/
import Derived.Test.YtoamlicfbmhajaaRg
namespace Go.Dl
open Go.RowKit
open Go.Proofs
set_option linter.unusedSimpArgs false
set_option linter.unusedVariables false

theorem oNum_r {r : Rdr} (h : r.ok) (n : Int) : oNum [.c (.p 0 0 0), .c (.v (.int .i64 n))] [rObj r] = some (dI (rNum r n).1, [rObj (rNum r n).2]) := by
  simp only [oNum, decR_rObj h, Option.map_some]

theorem num_ok {r : Rdr} {n : Int} (h : r.ok) : (rNum r n).2.ok := by
  have h1 := raw_ok (n := 1) h
  unfold rNum
  split
  · exact h1
  · rename_i k _ _
    have h2 := raw_ok (n := (k.toNat : Int)) h1
    simp only
    split
    · exact fail_ok h1
    · split
      · exact fail_ok h2
      · split
        · split
          · exact fail_ok h2
          · exact h2
        · exact h2

theorem text_ok {r : Rdr} {n : Int} (h : r.ok) : (rText r n).2.ok := raw_ok (num_ok h)

theorem num_nonneg (r : Rdr) (n : Int) : 0 ≤ (rNum r n).1 := by
  unfold rNum
  split
  · exact Int.le_refl _
  · simp only
    split
    · exact Int.le_refl _
    · split
      · exact Int.le_refl _
      · split
        · split
          · exact Int.le_refl _
          · show (0 : Int) ≤ (valB _ : Nat); omega
        · exact Int.le_refl _

theorem num_le {r : Rdr} {n : Int} (h : 0 ≤ n) : (rNum r n).1 ≤ n := by
  unfold rNum
  split
  · exact h
  · simp only
    split
    · exact h
    · split
      · exact h
      · split
        · split
          · exact h
          · rename_i hm; exact Int.not_lt.1 hm
        · exact h

theorem textsGo_ok {most : Int} : ∀ (n : Nat) {r : Rdr} {out : List ByteArray}, r.ok → (rTextsGo most n r out).2.ok
  | 0, r, out, h => h
  | n + 1, r, out, h => by
    simp only [rTextsGo]
    split
    · exact textsGo_ok n (text_ok h)
    · exact text_ok h

theorem texts_ok {r : Rdr} {m n : Int} (h : r.ok) : (rTexts r m n).2.ok := textsGo_ok _ (num_ok h)

def FsR8 : Fs := { Fs.none with objs := fun k => if k = 97 then some oNum else if k = 99 then some oErr else if k = 101 then some oFail else if k = 136 then some oRaw else none }
theorem okR8 : FsOK Try.prog FsR8 := by
  refine ⟨fun _ _ h => (by cases h), fun k f h => ?_⟩
  simp only [FsR8] at h
  split at h
  · rename_i hk; subst hk; cases h; exact ⟨by kernel_rfl, meets97⟩
  split at h
  · rename_i hk; subst hk; cases h; exact ⟨by kernel_rfl, meets99⟩
  split at h
  · rename_i hk; subst hk; cases h; exact ⟨by kernel_rfl, meets101⟩
  split at h
  · rename_i hk; subst hk; cases h; exact ⟨by kernel_rfl, meets136⟩
  · cases h

/-- Reader.Text. -/
def oText : List D → List Obj → Option (D × List Obj)
  | [.c (.p 0 0 0), .c (.v (.int .i64 n))], [o] => (decR o).map fun r => (dS (rText r n).1, [rObj (rText r n).2])
  | _, _ => none

theorem oText_r {r : Rdr} (h : r.ok) (n : Int) : oText [.c (.p 0 0 0), .c (.v (.int .i64 n))] [rObj r] = some (dS (rText r n).1, [rObj (rText r n).2]) := by
  simp only [oText, decR_rObj h, Option.map_some]

theorem got98 : Try.prog.funcs[98]? = some Try.f98 := by kernel_rfl
theorem meets98 : Meets Try.prog 98 (detS oText) := by
  refine meets_of_tri got98 rfl (n := 10) rfl (rs := [ResultVar.tmp 4]) rfl ?_
  rintro args objs Q ⟨d, os, hd, hQ⟩
  unfold oText at hd
  split at hd
  · rename_i most o
    cases hq : decR o with
    | none => rw [hq] at hd; cases hd
    | some r =>
      rw [hq] at hd
      cases hd
      obtain ⟨rfl, hok⟩ := decR_eq hq
      have hR1 := oNum_r hok most
      have hok1 := num_ok (n := most) hok
      unfold rText at hQ
      generalize rNum r most = q at hR1 hok1 hQ
      obtain ⟨n, r1⟩ := q
      simp only at hR1 hok1 hQ
      have hR2 := oRaw_r hok1 n
      simp only [rObj, dI, dS] at hR1 hR2
      refine seq_run okR8 rfl (by repeat (first | with_reducible exact runf_nil | refine runf_cons (by simp only [runf, xstep, stepf, stepx, evsA, qev, St.ev, St.put, St.with, D.cells, D.cell, D.int, boxA, qload, cellsAt, qmk, C.cpy, TK.agg, qnil, qfieldAddr, qpart, qfield, qindexAddr, qindex, qpick, qint, qshift, qstr, isEq, qeq, isShift, qbin, qun, qconv, qbounds, qslice, qlen, qext, omap, q2, qbuiltin, liveR, C.st, C.cp, C.dat, storeA, putCells, constD, constC, List.getElem?_cons_zero, List.getElem?_cons_succ, List.set_cons_zero, List.set_cons_succ, List.replicate, List.length_cons, List.length_nil, List.cons_append, List.nil_append, List.append_nil, List.map_nil, List.map_cons, List.all_cons, List.all_nil, List.take_succ_cons, List.take_zero, List.drop_succ_cons, List.drop_zero, List.singleton_append, Option.bind_some, Option.bind_none, Option.map_some, Option.map_none, Bool.and_true, Bool.true_and, Nat.reduceAdd, Nat.reduceSub, Nat.reduceMul, Nat.reduceEqDiff, reduceIte, if_true, if_false, and_self, and_true, true_and, decide_true, decide_false, Bool.not_true, Bool.not_false, cond_true, cond_false, forall_const, List.getElem?_toArray, Option.some.injEq, ne_eq, not_false_eq_true, Array.toList, reduceCtorEq, Int.reduceLT, Int.reduceLE, Int.reduceToNat, Nat.reduceLeDiff, Nat.reduceLT, Nat.le_refl, Nat.reduceBNe, Nat.reduceBEq, Bool.false_eq_true, implies_true, Nat.add_zero, Nat.zero_add, bne_self_eq_false, beq_self_eq_true, Bool.and_self, Bool.or_true, Bool.or_false, Bool.true_or, Bool.false_or, Bool.false_and, Bool.and_false]; rfl) ?_)) ?_
      refine seq_run okR8 rfl (by repeat (first | with_reducible exact runf_nil | refine runf_cons (by simp only [runf, xstep, stepf, stepx, evsA, qev, St.ev, St.put, St.with, D.cells, D.cell, D.int, boxA, qload, cellsAt, qmk, C.cpy, TK.agg, qnil, qfieldAddr, qpart, qfield, qindexAddr, qindex, qpick, qint, qshift, qstr, isEq, qeq, isShift, qbin, qun, qconv, qbounds, qslice, qlen, qext, omap, q2, qbuiltin, liveR, C.st, C.cp, C.dat, storeA, putCells, constD, constC, List.getElem?_cons_zero, List.getElem?_cons_succ, List.set_cons_zero, List.set_cons_succ, List.replicate, List.length_cons, List.length_nil, List.cons_append, List.nil_append, List.append_nil, List.map_nil, List.map_cons, List.all_cons, List.all_nil, List.take_succ_cons, List.take_zero, List.drop_succ_cons, List.drop_zero, List.singleton_append, Option.bind_some, Option.bind_none, Option.map_some, Option.map_none, Bool.and_true, Bool.true_and, Nat.reduceAdd, Nat.reduceSub, Nat.reduceMul, Nat.reduceEqDiff, reduceIte, if_true, if_false, and_self, and_true, true_and, decide_true, decide_false, Bool.not_true, Bool.not_false, cond_true, cond_false, forall_const, List.getElem?_toArray, Option.some.injEq, ne_eq, not_false_eq_true, Array.toList, reduceCtorEq, Int.reduceLT, Int.reduceLE, Int.reduceToNat, Nat.reduceLeDiff, Nat.reduceLT, Nat.le_refl, Nat.reduceBNe, Nat.reduceBEq, Bool.false_eq_true, implies_true, Nat.add_zero, Nat.zero_add, bne_self_eq_false, beq_self_eq_true, Bool.and_self, Bool.or_true, Bool.or_false, Bool.true_or, Bool.false_or, Bool.false_and, Bool.and_false, tk3, tsz3, tz3, bo3, tk4, tsz4, tz4, bo4, tk9, tsz9, tz9, bo9, tk35, tsz35, tz35, bo35, tk109, tsz109, tz109, bo109, tk165, tsz165, tz165, bo165, callP, callO, Fs.none, dedup, rootsD, rootsC, List.flatMap_cons, List.flatMap_nil, List.filterMap_cons, List.filterMap_nil, argDs, argD, argC, argCs, List.contains_nil, List.contains_cons, objsAt, objOf, List.idxOf?, List.findIdx?, List.findIdx?.go, setObjs, D.ni, D.ni1, C.ni, C.niRow, settle, settle1, settleC, settleDs, settleCs, List.isEmpty_nil, List.isEmpty_cons, FsR8, rObj, hR1, hR2]; rfl) ?_)) ?_
      refine tri_ret (ends_ret (by simp only [outRes, resDs, resD, outDs, outD, outC, runf, xstep, stepf, stepx, evsA, qev, St.ev, St.put, St.with, D.cells, D.cell, D.int, boxA, qload, cellsAt, qmk, C.cpy, TK.agg, qnil, qfieldAddr, qpart, qfield, qindexAddr, qindex, qpick, qint, qshift, qstr, isEq, qeq, isShift, qbin, qun, qconv, qbounds, qslice, qlen, qext, omap, q2, qbuiltin, liveR, C.st, C.cp, C.dat, storeA, putCells, constD, constC, List.getElem?_cons_zero, List.getElem?_cons_succ, List.set_cons_zero, List.set_cons_succ, List.replicate, List.length_cons, List.length_nil, List.cons_append, List.nil_append, List.append_nil, List.map_nil, List.map_cons, List.all_cons, List.all_nil, List.take_succ_cons, List.take_zero, List.drop_succ_cons, List.drop_zero, List.singleton_append, Option.bind_some, Option.bind_none, Option.map_some, Option.map_none, Bool.and_true, Bool.true_and, Nat.reduceAdd, Nat.reduceSub, Nat.reduceMul, Nat.reduceEqDiff, reduceIte, if_true, if_false, and_self, and_true, true_and, decide_true, decide_false, Bool.not_true, Bool.not_false, cond_true, cond_false, forall_const, List.getElem?_toArray, Option.some.injEq, ne_eq, not_false_eq_true, Array.toList, reduceCtorEq, Int.reduceLT, Int.reduceLE, Int.reduceToNat, Nat.reduceLeDiff, Nat.reduceLT, Nat.le_refl, Nat.reduceBNe, Nat.reduceBEq, Bool.false_eq_true, implies_true, Nat.add_zero, Nat.zero_add, bne_self_eq_false, beq_self_eq_true, Bool.and_self, Bool.or_true, Bool.or_false, Bool.true_or, Bool.false_or, Bool.false_and, Bool.and_false]; rfl) rfl .nil (by simp) ?_)
      exact hQ
  · cases hd

/-- Reader.Left. -/
def oLeft : List D → List Obj → Option (D × List Obj)
  | [.c (.p 0 0 0)], [o] => (decR o).map fun r => (dI (if r.e = 0 then (r.s.size : Int) - r.i else 0), [rObj r])
  | _, _ => none

theorem got100 : Try.prog.funcs[100]? = some Try.f100 := by kernel_rfl
theorem meets100 : Meets Try.prog 100 (detS oLeft) := by
  refine meets_of_tri got100 rfl (n := 16) rfl (rs := [ResultVar.tmp 2]) rfl ?_
  rintro args objs Q ⟨d, os, hd, hQ⟩
  unfold oLeft at hd
  split at hd
  · rename_i o
    cases hq : decR o with
    | none => rw [hq] at hd; cases hd
    | some r =>
      rw [hq] at hd
      cases hd
      obtain ⟨rfl, hok⟩ := decR_eq hq
      have hE := oErr_r hok
      obtain ⟨s, i, e⟩ := r
      obtain ⟨hi, hs⟩ := hok
      simp only at hi hs hQ
      simp only [rObj, dI] at hE
      refine seq_run okR8 rfl (by repeat (first | with_reducible exact runf_nil | refine runf_cons (by simp only [runf, xstep, stepf, stepx, evsA, qev, St.ev, St.put, St.with, D.cells, D.cell, D.int, boxA, qload, cellsAt, qmk, C.cpy, TK.agg, qnil, qfieldAddr, qpart, qfield, qindexAddr, qindex, qpick, qint, qshift, qstr, isEq, qeq, isShift, qbin, qun, qconv, qbounds, qslice, qlen, qext, omap, q2, qbuiltin, liveR, C.st, C.cp, C.dat, storeA, putCells, constD, constC, List.getElem?_cons_zero, List.getElem?_cons_succ, List.set_cons_zero, List.set_cons_succ, List.replicate, List.length_cons, List.length_nil, List.cons_append, List.nil_append, List.append_nil, List.map_nil, List.map_cons, List.all_cons, List.all_nil, List.take_succ_cons, List.take_zero, List.drop_succ_cons, List.drop_zero, List.singleton_append, Option.bind_some, Option.bind_none, Option.map_some, Option.map_none, Bool.and_true, Bool.true_and, Nat.reduceAdd, Nat.reduceSub, Nat.reduceMul, Nat.reduceEqDiff, reduceIte, if_true, if_false, and_self, and_true, true_and, decide_true, decide_false, Bool.not_true, Bool.not_false, cond_true, cond_false, forall_const, List.getElem?_toArray, Option.some.injEq, ne_eq, not_false_eq_true, Array.toList, reduceCtorEq, Int.reduceLT, Int.reduceLE, Int.reduceToNat, Nat.reduceLeDiff, Nat.reduceLT, Nat.le_refl, Nat.reduceBNe, Nat.reduceBEq, Bool.false_eq_true, implies_true, Nat.add_zero, Nat.zero_add, bne_self_eq_false, beq_self_eq_true, Bool.and_self, Bool.or_true, Bool.or_false, Bool.true_or, Bool.false_or, Bool.false_and, Bool.and_false]; rfl) ?_)) ?_
      by_cases he : e = 0
      · subst he
        have hsub : IntKind.wrap .i64 ((s.size : Int) - (i : Int)) = (s.size : Int) - i := wrap_i64 _ (by unfold maxStr at hs; omega) (by unfold maxStr at hs; omega)
        refine seq_in (seq_run okR8 rfl (by repeat (first | with_reducible exact runf_nil | refine runf_cons (by simp only [runf, xstep, stepf, stepx, evsA, qev, St.ev, St.put, St.with, D.cells, D.cell, D.int, boxA, qload, cellsAt, qmk, C.cpy, TK.agg, qnil, qfieldAddr, qpart, qfield, qindexAddr, qindex, qpick, qint, qshift, qstr, isEq, qeq, isShift, qbin, qun, qconv, qbounds, qslice, qlen, qext, omap, q2, qbuiltin, liveR, C.st, C.cp, C.dat, storeA, putCells, constD, constC, List.getElem?_cons_zero, List.getElem?_cons_succ, List.set_cons_zero, List.set_cons_succ, List.replicate, List.length_cons, List.length_nil, List.cons_append, List.nil_append, List.append_nil, List.map_nil, List.map_cons, List.all_cons, List.all_nil, List.take_succ_cons, List.take_zero, List.drop_succ_cons, List.drop_zero, List.singleton_append, Option.bind_some, Option.bind_none, Option.map_some, Option.map_none, Bool.and_true, Bool.true_and, Nat.reduceAdd, Nat.reduceSub, Nat.reduceMul, Nat.reduceEqDiff, reduceIte, if_true, if_false, and_self, and_true, true_and, decide_true, decide_false, Bool.not_true, Bool.not_false, cond_true, cond_false, forall_const, List.getElem?_toArray, Option.some.injEq, ne_eq, not_false_eq_true, Array.toList, reduceCtorEq, Int.reduceLT, Int.reduceLE, Int.reduceToNat, Nat.reduceLeDiff, Nat.reduceLT, Nat.le_refl, Nat.reduceBNe, Nat.reduceBEq, Bool.false_eq_true, implies_true, Nat.add_zero, Nat.zero_add, bne_self_eq_false, beq_self_eq_true, Bool.and_self, Bool.or_true, Bool.or_false, Bool.true_or, Bool.false_or, Bool.false_and, Bool.and_false, tk3, tsz3, tz3, bo3, tk4, tsz4, tz4, bo4, tk9, tsz9, tz9, bo9, tk35, tsz35, tz35, bo35, tk109, tsz109, tz109, bo109, tk165, tsz165, tz165, bo165, callP, callO, Fs.none, dedup, rootsD, rootsC, List.flatMap_cons, List.flatMap_nil, List.filterMap_cons, List.filterMap_nil, argDs, argD, argC, argCs, List.contains_nil, List.contains_cons, objsAt, objOf, List.idxOf?, List.findIdx?, List.findIdx?.go, setObjs, D.ni, D.ni1, C.ni, C.niRow, settle, settle1, settleC, settleDs, settleCs, List.isEmpty_nil, List.isEmpty_cons, FsR8, rObj, hE]; rfl) ?_)) ?_)
        refine tri_cond rfl (fun h => by cases h) (fun _ => then_skip ?_)
        refine seq_any mixed okR8 rfl (by kernel_rfl) (by repeat (first | with_reducible exact runf_nil | refine runf_cons (by simp only [runf, xstep, stepf, stepx, evsA, qev, St.ev, St.put, St.with, D.cells, D.cell, D.int, boxA, qload, cellsAt, qmk, C.cpy, TK.agg, qnil, qfieldAddr, qpart, qfield, qindexAddr, qindex, qpick, qint, qshift, qstr, isEq, qeq, isShift, qbin, qun, qconv, qbounds, qslice, qlen, qext, omap, q2, qbuiltin, liveR, C.st, C.cp, C.dat, storeA, putCells, constD, constC, List.getElem?_cons_zero, List.getElem?_cons_succ, List.set_cons_zero, List.set_cons_succ, List.replicate, List.length_cons, List.length_nil, List.cons_append, List.nil_append, List.append_nil, List.map_nil, List.map_cons, List.all_cons, List.all_nil, List.take_succ_cons, List.take_zero, List.drop_succ_cons, List.drop_zero, List.singleton_append, Option.bind_some, Option.bind_none, Option.map_some, Option.map_none, Bool.and_true, Bool.true_and, Nat.reduceAdd, Nat.reduceSub, Nat.reduceMul, Nat.reduceEqDiff, reduceIte, if_true, if_false, and_self, and_true, true_and, decide_true, decide_false, Bool.not_true, Bool.not_false, cond_true, cond_false, forall_const, List.getElem?_toArray, Option.some.injEq, ne_eq, not_false_eq_true, Array.toList, reduceCtorEq, Int.reduceLT, Int.reduceLE, Int.reduceToNat, Nat.reduceLeDiff, Nat.reduceLT, Nat.le_refl, Nat.reduceBNe, Nat.reduceBEq, Bool.false_eq_true, implies_true, Nat.add_zero, Nat.zero_add, bne_self_eq_false, beq_self_eq_true, Bool.and_self, Bool.or_true, Bool.or_false, Bool.true_or, Bool.false_or, Bool.false_and, Bool.and_false, tk3, tsz3, tz3, bo3, tk4, tsz4, tz4, bo4, tk9, tsz9, tz9, bo9, tk35, tsz35, tz35, bo35, tk109, tsz109, tz109, bo109, tk165, tsz165, tz165, bo165, hs, hsub]; rfl) ?_)) ?_
        refine tri_ret (ends_ret (by simp only [outRes, resDs, resD, outDs, outD, outC, runf, xstep, stepf, stepx, evsA, qev, St.ev, St.put, St.with, D.cells, D.cell, D.int, boxA, qload, cellsAt, qmk, C.cpy, TK.agg, qnil, qfieldAddr, qpart, qfield, qindexAddr, qindex, qpick, qint, qshift, qstr, isEq, qeq, isShift, qbin, qun, qconv, qbounds, qslice, qlen, qext, omap, q2, qbuiltin, liveR, C.st, C.cp, C.dat, storeA, putCells, constD, constC, List.getElem?_cons_zero, List.getElem?_cons_succ, List.set_cons_zero, List.set_cons_succ, List.replicate, List.length_cons, List.length_nil, List.cons_append, List.nil_append, List.append_nil, List.map_nil, List.map_cons, List.all_cons, List.all_nil, List.take_succ_cons, List.take_zero, List.drop_succ_cons, List.drop_zero, List.singleton_append, Option.bind_some, Option.bind_none, Option.map_some, Option.map_none, Bool.and_true, Bool.true_and, Nat.reduceAdd, Nat.reduceSub, Nat.reduceMul, Nat.reduceEqDiff, reduceIte, if_true, if_false, and_self, and_true, true_and, decide_true, decide_false, Bool.not_true, Bool.not_false, cond_true, cond_false, forall_const, List.getElem?_toArray, Option.some.injEq, ne_eq, not_false_eq_true, Array.toList, reduceCtorEq, Int.reduceLT, Int.reduceLE, Int.reduceToNat, Nat.reduceLeDiff, Nat.reduceLT, Nat.le_refl, Nat.reduceBNe, Nat.reduceBEq, Bool.false_eq_true, implies_true, Nat.add_zero, Nat.zero_add, bne_self_eq_false, beq_self_eq_true, Bool.and_self, Bool.or_true, Bool.or_false, Bool.true_or, Bool.false_or, Bool.false_and, Bool.and_false]; rfl) rfl .nil (by simp) ?_)
        rw [if_pos rfl] at hQ
        exact hQ
      · refine seq_in (seq_run okR8 rfl (by repeat (first | with_reducible exact runf_nil | refine runf_cons (by simp only [runf, xstep, stepf, stepx, evsA, qev, St.ev, St.put, St.with, D.cells, D.cell, D.int, boxA, qload, cellsAt, qmk, C.cpy, TK.agg, qnil, qfieldAddr, qpart, qfield, qindexAddr, qindex, qpick, qint, qshift, qstr, isEq, qeq, isShift, qbin, qun, qconv, qbounds, qslice, qlen, qext, omap, q2, qbuiltin, liveR, C.st, C.cp, C.dat, storeA, putCells, constD, constC, List.getElem?_cons_zero, List.getElem?_cons_succ, List.set_cons_zero, List.set_cons_succ, List.replicate, List.length_cons, List.length_nil, List.cons_append, List.nil_append, List.append_nil, List.map_nil, List.map_cons, List.all_cons, List.all_nil, List.take_succ_cons, List.take_zero, List.drop_succ_cons, List.drop_zero, List.singleton_append, Option.bind_some, Option.bind_none, Option.map_some, Option.map_none, Bool.and_true, Bool.true_and, Nat.reduceAdd, Nat.reduceSub, Nat.reduceMul, Nat.reduceEqDiff, reduceIte, if_true, if_false, and_self, and_true, true_and, decide_true, decide_false, Bool.not_true, Bool.not_false, cond_true, cond_false, forall_const, List.getElem?_toArray, Option.some.injEq, ne_eq, not_false_eq_true, Array.toList, reduceCtorEq, Int.reduceLT, Int.reduceLE, Int.reduceToNat, Nat.reduceLeDiff, Nat.reduceLT, Nat.le_refl, Nat.reduceBNe, Nat.reduceBEq, Bool.false_eq_true, implies_true, Nat.add_zero, Nat.zero_add, bne_self_eq_false, beq_self_eq_true, Bool.and_self, Bool.or_true, Bool.or_false, Bool.true_or, Bool.false_or, Bool.false_and, Bool.and_false, tk3, tsz3, tz3, bo3, tk4, tsz4, tz4, bo4, tk9, tsz9, tz9, bo9, tk35, tsz35, tz35, bo35, tk109, tsz109, tz109, bo109, tk165, tsz165, tz165, bo165, callP, callO, Fs.none, dedup, rootsD, rootsC, List.flatMap_cons, List.flatMap_nil, List.filterMap_cons, List.filterMap_nil, argDs, argD, argC, argCs, List.contains_nil, List.contains_cons, objsAt, objOf, List.idxOf?, List.findIdx?, List.findIdx?.go, setObjs, D.ni, D.ni1, C.ni, C.niRow, settle, settle1, settleC, settleDs, settleCs, List.isEmpty_nil, List.isEmpty_cons, FsR8, rObj, hE, he]; rfl) ?_)) ?_)
        refine tri_cond rfl (fun _ => ?_) (fun h => by cases h)
        refine seq_run okR8 rfl (by repeat (first | with_reducible exact runf_nil | refine runf_cons (by simp only [runf, xstep, stepf, stepx, evsA, qev, St.ev, St.put, St.with, D.cells, D.cell, D.int, boxA, qload, cellsAt, qmk, C.cpy, TK.agg, qnil, qfieldAddr, qpart, qfield, qindexAddr, qindex, qpick, qint, qshift, qstr, isEq, qeq, isShift, qbin, qun, qconv, qbounds, qslice, qlen, qext, omap, q2, qbuiltin, liveR, C.st, C.cp, C.dat, storeA, putCells, constD, constC, List.getElem?_cons_zero, List.getElem?_cons_succ, List.set_cons_zero, List.set_cons_succ, List.replicate, List.length_cons, List.length_nil, List.cons_append, List.nil_append, List.append_nil, List.map_nil, List.map_cons, List.all_cons, List.all_nil, List.take_succ_cons, List.take_zero, List.drop_succ_cons, List.drop_zero, List.singleton_append, Option.bind_some, Option.bind_none, Option.map_some, Option.map_none, Bool.and_true, Bool.true_and, Nat.reduceAdd, Nat.reduceSub, Nat.reduceMul, Nat.reduceEqDiff, reduceIte, if_true, if_false, and_self, and_true, true_and, decide_true, decide_false, Bool.not_true, Bool.not_false, cond_true, cond_false, forall_const, List.getElem?_toArray, Option.some.injEq, ne_eq, not_false_eq_true, Array.toList, reduceCtorEq, Int.reduceLT, Int.reduceLE, Int.reduceToNat, Nat.reduceLeDiff, Nat.reduceLT, Nat.le_refl, Nat.reduceBNe, Nat.reduceBEq, Bool.false_eq_true, implies_true, Nat.add_zero, Nat.zero_add, bne_self_eq_false, beq_self_eq_true, Bool.and_self, Bool.or_true, Bool.or_false, Bool.true_or, Bool.false_or, Bool.false_and, Bool.and_false]; rfl) ?_)) ?_
        refine tri_ret (ends_ret (by simp only [outRes, resDs, resD, outDs, outD, outC, runf, xstep, stepf, stepx, evsA, qev, St.ev, St.put, St.with, D.cells, D.cell, D.int, boxA, qload, cellsAt, qmk, C.cpy, TK.agg, qnil, qfieldAddr, qpart, qfield, qindexAddr, qindex, qpick, qint, qshift, qstr, isEq, qeq, isShift, qbin, qun, qconv, qbounds, qslice, qlen, qext, omap, q2, qbuiltin, liveR, C.st, C.cp, C.dat, storeA, putCells, constD, constC, List.getElem?_cons_zero, List.getElem?_cons_succ, List.set_cons_zero, List.set_cons_succ, List.replicate, List.length_cons, List.length_nil, List.cons_append, List.nil_append, List.append_nil, List.map_nil, List.map_cons, List.all_cons, List.all_nil, List.take_succ_cons, List.take_zero, List.drop_succ_cons, List.drop_zero, List.singleton_append, Option.bind_some, Option.bind_none, Option.map_some, Option.map_none, Bool.and_true, Bool.true_and, Nat.reduceAdd, Nat.reduceSub, Nat.reduceMul, Nat.reduceEqDiff, reduceIte, if_true, if_false, and_self, and_true, true_and, decide_true, decide_false, Bool.not_true, Bool.not_false, cond_true, cond_false, forall_const, List.getElem?_toArray, Option.some.injEq, ne_eq, not_false_eq_true, Array.toList, reduceCtorEq, Int.reduceLT, Int.reduceLE, Int.reduceToNat, Nat.reduceLeDiff, Nat.reduceLT, Nat.le_refl, Nat.reduceBNe, Nat.reduceBEq, Bool.false_eq_true, implies_true, Nat.add_zero, Nat.zero_add, bne_self_eq_false, beq_self_eq_true, Bool.and_self, Bool.or_true, Bool.or_false, Bool.true_or, Bool.false_or, Bool.false_and, Bool.and_false]; rfl) rfl .nil (by simp) ?_)
        rw [if_neg he] at hQ
        exact hQ
  · cases hd

theorem oLeft_r {r : Rdr} (h : r.ok) : oLeft [.c (.p 0 0 0)] [rObj r] = some (dI (if r.e = 0 then (r.s.size : Int) - r.i else 0), [rObj r]) := by
  simp only [oLeft, decR_rObj h, Option.map_some]

def FsR9 : Fs := { Fs.none with objs := fun k => if k = 99 then some oErr else if k = 100 then some oLeft else if k = 101 then some oFail else none }
theorem okR9 : FsOK Try.prog FsR9 := by
  refine ⟨fun _ _ h => (by cases h), fun k f h => ?_⟩
  simp only [FsR9] at h
  split at h
  · rename_i hk; subst hk; cases h; exact ⟨by kernel_rfl, meets99⟩
  split at h
  · rename_i hk; subst hk; cases h; exact ⟨by kernel_rfl, meets100⟩
  split at h
  · rename_i hk; subst hk; cases h; exact ⟨by kernel_rfl, meets101⟩
  · cases h

/-- Reader.End. -/
def oEnd : List D → List Obj → Option (D × List Obj)
  | [.c (.p 0 0 0)], [o] => (decR o).map fun r => (dI (rEnd r).1, [rObj (rEnd r).2])
  | _, _ => none

theorem oEnd_r {r : Rdr} (h : r.ok) : oEnd [.c (.p 0 0 0)] [rObj r] = some (dI (rEnd r).1, [rObj (rEnd r).2]) := by
  simp only [oEnd, decR_rObj h, Option.map_some]

theorem got60 : Try.prog.funcs[60]? = some Try.f60 := by kernel_rfl
theorem meets60 : Meets Try.prog 60 (detS oEnd) := by
  refine meets_of_tri got60 rfl (n := 10) rfl (rs := [ResultVar.tmp 2]) rfl ?_
  rintro args objs Q ⟨d, os, hd, hQ⟩
  unfold oEnd at hd
  split at hd
  · rename_i o
    cases hq : decR o with
    | none => rw [hq] at hd; cases hd
    | some r =>
      rw [hq] at hd
      cases hd
      obtain ⟨rfl, hok⟩ := decR_eq hq
      have hL := oLeft_r hok
      by_cases hc : r.e = 0 ∧ r.i < r.s.size
      · have hF := oFail_r hok 4
        have hok4 := fail_ok (e := 4) hok
        have hE := oErr_r hok4
        have hf : r.fail 4 = ⟨r.s, r.i, 4⟩ := by unfold Rdr.fail; rw [if_pos hc.1]
        rw [hf] at hE hF
        rw [if_pos hc.1] at hL
        simp only [rEnd] at hQ
        rw [if_pos hc] at hQ
        simp only [rObj, dI] at hL hE hF hQ
        refine seq_run okR9 rfl (by repeat (first | with_reducible exact runf_nil | refine runf_cons (by simp only [runf, xstep, stepf, stepx, evsA, qev, St.ev, St.put, St.with, D.cells, D.cell, D.int, boxA, qload, cellsAt, qmk, C.cpy, TK.agg, qnil, qfieldAddr, qpart, qfield, qindexAddr, qindex, qpick, qint, qshift, qstr, isEq, qeq, isShift, qbin, qun, qconv, qbounds, qslice, qlen, qext, omap, q2, qbuiltin, liveR, C.st, C.cp, C.dat, storeA, putCells, constD, constC, List.getElem?_cons_zero, List.getElem?_cons_succ, List.set_cons_zero, List.set_cons_succ, List.replicate, List.length_cons, List.length_nil, List.cons_append, List.nil_append, List.append_nil, List.map_nil, List.map_cons, List.all_cons, List.all_nil, List.take_succ_cons, List.take_zero, List.drop_succ_cons, List.drop_zero, List.singleton_append, Option.bind_some, Option.bind_none, Option.map_some, Option.map_none, Bool.and_true, Bool.true_and, Nat.reduceAdd, Nat.reduceSub, Nat.reduceMul, Nat.reduceEqDiff, reduceIte, if_true, if_false, and_self, and_true, true_and, decide_true, decide_false, Bool.not_true, Bool.not_false, cond_true, cond_false, forall_const, List.getElem?_toArray, Option.some.injEq, ne_eq, not_false_eq_true, Array.toList, reduceCtorEq, Int.reduceLT, Int.reduceLE, Int.reduceToNat, Nat.reduceLeDiff, Nat.reduceLT, Nat.le_refl, Nat.reduceBNe, Nat.reduceBEq, Bool.false_eq_true, implies_true, Nat.add_zero, Nat.zero_add, bne_self_eq_false, beq_self_eq_true, Bool.and_self, Bool.or_true, Bool.or_false, Bool.true_or, Bool.false_or, Bool.false_and, Bool.and_false]; rfl) ?_)) ?_
        refine seq_in (seq_run okR9 rfl (by repeat (first | with_reducible exact runf_nil | refine runf_cons (by simp only [runf, xstep, stepf, stepx, evsA, qev, St.ev, St.put, St.with, D.cells, D.cell, D.int, boxA, qload, cellsAt, qmk, C.cpy, TK.agg, qnil, qfieldAddr, qpart, qfield, qindexAddr, qindex, qpick, qint, qshift, qstr, isEq, qeq, isShift, qbin, qun, qconv, qbounds, qslice, qlen, qext, omap, q2, qbuiltin, liveR, C.st, C.cp, C.dat, storeA, putCells, constD, constC, List.getElem?_cons_zero, List.getElem?_cons_succ, List.set_cons_zero, List.set_cons_succ, List.replicate, List.length_cons, List.length_nil, List.cons_append, List.nil_append, List.append_nil, List.map_nil, List.map_cons, List.all_cons, List.all_nil, List.take_succ_cons, List.take_zero, List.drop_succ_cons, List.drop_zero, List.singleton_append, Option.bind_some, Option.bind_none, Option.map_some, Option.map_none, Bool.and_true, Bool.true_and, Nat.reduceAdd, Nat.reduceSub, Nat.reduceMul, Nat.reduceEqDiff, reduceIte, if_true, if_false, and_self, and_true, true_and, decide_true, decide_false, Bool.not_true, Bool.not_false, cond_true, cond_false, forall_const, List.getElem?_toArray, Option.some.injEq, ne_eq, not_false_eq_true, Array.toList, reduceCtorEq, Int.reduceLT, Int.reduceLE, Int.reduceToNat, Nat.reduceLeDiff, Nat.reduceLT, Nat.le_refl, Nat.reduceBNe, Nat.reduceBEq, Bool.false_eq_true, implies_true, Nat.add_zero, Nat.zero_add, bne_self_eq_false, beq_self_eq_true, Bool.and_self, Bool.or_true, Bool.or_false, Bool.true_or, Bool.false_or, Bool.false_and, Bool.and_false, tk3, tsz3, tz3, bo3, tk4, tsz4, tz4, bo4, tk9, tsz9, tz9, bo9, tk35, tsz35, tz35, bo35, tk109, tsz109, tz109, bo109, tk165, tsz165, tz165, bo165, callP, callO, Fs.none, dedup, rootsD, rootsC, List.flatMap_cons, List.flatMap_nil, List.filterMap_cons, List.filterMap_nil, argDs, argD, argC, argCs, List.contains_nil, List.contains_cons, objsAt, objOf, List.idxOf?, List.findIdx?, List.findIdx?.go, setObjs, D.ni, D.ni1, C.ni, C.niRow, settle, settle1, settleC, settleDs, settleCs, List.isEmpty_nil, List.isEmpty_cons, FsR9, rObj, hL, show ((0 : Int) < (r.s.size : Int) - (r.i : Int)) = True from eq_true (by omega)]; rfl) ?_)) ?_)
        refine tri_cond rfl (fun _ => ?_) (fun h => by cases h)
        refine run_end okR9 rfl (by repeat (first | with_reducible exact runf_nil | refine runf_cons (by simp only [runf, xstep, stepf, stepx, evsA, qev, St.ev, St.put, St.with, D.cells, D.cell, D.int, boxA, qload, cellsAt, qmk, C.cpy, TK.agg, qnil, qfieldAddr, qpart, qfield, qindexAddr, qindex, qpick, qint, qshift, qstr, isEq, qeq, isShift, qbin, qun, qconv, qbounds, qslice, qlen, qext, omap, q2, qbuiltin, liveR, C.st, C.cp, C.dat, storeA, putCells, constD, constC, List.getElem?_cons_zero, List.getElem?_cons_succ, List.set_cons_zero, List.set_cons_succ, List.replicate, List.length_cons, List.length_nil, List.cons_append, List.nil_append, List.append_nil, List.map_nil, List.map_cons, List.all_cons, List.all_nil, List.take_succ_cons, List.take_zero, List.drop_succ_cons, List.drop_zero, List.singleton_append, Option.bind_some, Option.bind_none, Option.map_some, Option.map_none, Bool.and_true, Bool.true_and, Nat.reduceAdd, Nat.reduceSub, Nat.reduceMul, Nat.reduceEqDiff, reduceIte, if_true, if_false, and_self, and_true, true_and, decide_true, decide_false, Bool.not_true, Bool.not_false, cond_true, cond_false, forall_const, List.getElem?_toArray, Option.some.injEq, ne_eq, not_false_eq_true, Array.toList, reduceCtorEq, Int.reduceLT, Int.reduceLE, Int.reduceToNat, Nat.reduceLeDiff, Nat.reduceLT, Nat.le_refl, Nat.reduceBNe, Nat.reduceBEq, Bool.false_eq_true, implies_true, Nat.add_zero, Nat.zero_add, bne_self_eq_false, beq_self_eq_true, Bool.and_self, Bool.or_true, Bool.or_false, Bool.true_or, Bool.false_or, Bool.false_and, Bool.and_false, tk3, tsz3, tz3, bo3, tk4, tsz4, tz4, bo4, tk9, tsz9, tz9, bo9, tk35, tsz35, tz35, bo35, tk109, tsz109, tz109, bo109, tk165, tsz165, tz165, bo165, callP, callO, Fs.none, dedup, rootsD, rootsC, List.flatMap_cons, List.flatMap_nil, List.filterMap_cons, List.filterMap_nil, argDs, argD, argC, argCs, List.contains_nil, List.contains_cons, objsAt, objOf, List.idxOf?, List.findIdx?, List.findIdx?.go, setObjs, D.ni, D.ni1, C.ni, C.niRow, settle, settle1, settleC, settleDs, settleCs, List.isEmpty_nil, List.isEmpty_cons, FsR9, hF]; rfl) ?_)) ?_
        refine seq_run okR9 rfl (by repeat (first | with_reducible exact runf_nil | refine runf_cons (by simp only [runf, xstep, stepf, stepx, evsA, qev, St.ev, St.put, St.with, D.cells, D.cell, D.int, boxA, qload, cellsAt, qmk, C.cpy, TK.agg, qnil, qfieldAddr, qpart, qfield, qindexAddr, qindex, qpick, qint, qshift, qstr, isEq, qeq, isShift, qbin, qun, qconv, qbounds, qslice, qlen, qext, omap, q2, qbuiltin, liveR, C.st, C.cp, C.dat, storeA, putCells, constD, constC, List.getElem?_cons_zero, List.getElem?_cons_succ, List.set_cons_zero, List.set_cons_succ, List.replicate, List.length_cons, List.length_nil, List.cons_append, List.nil_append, List.append_nil, List.map_nil, List.map_cons, List.all_cons, List.all_nil, List.take_succ_cons, List.take_zero, List.drop_succ_cons, List.drop_zero, List.singleton_append, Option.bind_some, Option.bind_none, Option.map_some, Option.map_none, Bool.and_true, Bool.true_and, Nat.reduceAdd, Nat.reduceSub, Nat.reduceMul, Nat.reduceEqDiff, reduceIte, if_true, if_false, and_self, and_true, true_and, decide_true, decide_false, Bool.not_true, Bool.not_false, cond_true, cond_false, forall_const, List.getElem?_toArray, Option.some.injEq, ne_eq, not_false_eq_true, Array.toList, reduceCtorEq, Int.reduceLT, Int.reduceLE, Int.reduceToNat, Nat.reduceLeDiff, Nat.reduceLT, Nat.le_refl, Nat.reduceBNe, Nat.reduceBEq, Bool.false_eq_true, implies_true, Nat.add_zero, Nat.zero_add, bne_self_eq_false, beq_self_eq_true, Bool.and_self, Bool.or_true, Bool.or_false, Bool.true_or, Bool.false_or, Bool.false_and, Bool.and_false, tk3, tsz3, tz3, bo3, tk4, tsz4, tz4, bo4, tk9, tsz9, tz9, bo9, tk35, tsz35, tz35, bo35, tk109, tsz109, tz109, bo109, tk165, tsz165, tz165, bo165, callP, callO, Fs.none, dedup, rootsD, rootsC, List.flatMap_cons, List.flatMap_nil, List.filterMap_cons, List.filterMap_nil, argDs, argD, argC, argCs, List.contains_nil, List.contains_cons, objsAt, objOf, List.idxOf?, List.findIdx?, List.findIdx?.go, setObjs, D.ni, D.ni1, C.ni, C.niRow, settle, settle1, settleC, settleDs, settleCs, List.isEmpty_nil, List.isEmpty_cons, FsR9, hE]; rfl) ?_)) ?_
        refine tri_ret (ends_ret (by simp only [outRes, resDs, resD, outDs, outD, outC, runf, xstep, stepf, stepx, evsA, qev, St.ev, St.put, St.with, D.cells, D.cell, D.int, boxA, qload, cellsAt, qmk, C.cpy, TK.agg, qnil, qfieldAddr, qpart, qfield, qindexAddr, qindex, qpick, qint, qshift, qstr, isEq, qeq, isShift, qbin, qun, qconv, qbounds, qslice, qlen, qext, omap, q2, qbuiltin, liveR, C.st, C.cp, C.dat, storeA, putCells, constD, constC, List.getElem?_cons_zero, List.getElem?_cons_succ, List.set_cons_zero, List.set_cons_succ, List.replicate, List.length_cons, List.length_nil, List.cons_append, List.nil_append, List.append_nil, List.map_nil, List.map_cons, List.all_cons, List.all_nil, List.take_succ_cons, List.take_zero, List.drop_succ_cons, List.drop_zero, List.singleton_append, Option.bind_some, Option.bind_none, Option.map_some, Option.map_none, Bool.and_true, Bool.true_and, Nat.reduceAdd, Nat.reduceSub, Nat.reduceMul, Nat.reduceEqDiff, reduceIte, if_true, if_false, and_self, and_true, true_and, decide_true, decide_false, Bool.not_true, Bool.not_false, cond_true, cond_false, forall_const, List.getElem?_toArray, Option.some.injEq, ne_eq, not_false_eq_true, Array.toList, reduceCtorEq, Int.reduceLT, Int.reduceLE, Int.reduceToNat, Nat.reduceLeDiff, Nat.reduceLT, Nat.le_refl, Nat.reduceBNe, Nat.reduceBEq, Bool.false_eq_true, implies_true, Nat.add_zero, Nat.zero_add, bne_self_eq_false, beq_self_eq_true, Bool.and_self, Bool.or_true, Bool.or_false, Bool.true_or, Bool.false_or, Bool.false_and, Bool.and_false]; rfl) rfl .nil (by simp) ?_)
        exact hQ
      · have hE := oErr_r hok
        have hneg : ¬ (0 : Int) < (if r.e = 0 then (r.s.size : Int) - r.i else 0) := by
          split
          · rename_i he; have := fun h => hc ⟨he, h⟩; omega
          · omega
        generalize (if r.e = 0 then (r.s.size : Int) - r.i else 0) = z at hL hneg
        simp only [rEnd] at hQ
        rw [if_neg hc] at hQ
        simp only [rObj, dI] at hL hE hQ
        refine seq_run okR9 rfl (by repeat (first | with_reducible exact runf_nil | refine runf_cons (by simp only [runf, xstep, stepf, stepx, evsA, qev, St.ev, St.put, St.with, D.cells, D.cell, D.int, boxA, qload, cellsAt, qmk, C.cpy, TK.agg, qnil, qfieldAddr, qpart, qfield, qindexAddr, qindex, qpick, qint, qshift, qstr, isEq, qeq, isShift, qbin, qun, qconv, qbounds, qslice, qlen, qext, omap, q2, qbuiltin, liveR, C.st, C.cp, C.dat, storeA, putCells, constD, constC, List.getElem?_cons_zero, List.getElem?_cons_succ, List.set_cons_zero, List.set_cons_succ, List.replicate, List.length_cons, List.length_nil, List.cons_append, List.nil_append, List.append_nil, List.map_nil, List.map_cons, List.all_cons, List.all_nil, List.take_succ_cons, List.take_zero, List.drop_succ_cons, List.drop_zero, List.singleton_append, Option.bind_some, Option.bind_none, Option.map_some, Option.map_none, Bool.and_true, Bool.true_and, Nat.reduceAdd, Nat.reduceSub, Nat.reduceMul, Nat.reduceEqDiff, reduceIte, if_true, if_false, and_self, and_true, true_and, decide_true, decide_false, Bool.not_true, Bool.not_false, cond_true, cond_false, forall_const, List.getElem?_toArray, Option.some.injEq, ne_eq, not_false_eq_true, Array.toList, reduceCtorEq, Int.reduceLT, Int.reduceLE, Int.reduceToNat, Nat.reduceLeDiff, Nat.reduceLT, Nat.le_refl, Nat.reduceBNe, Nat.reduceBEq, Bool.false_eq_true, implies_true, Nat.add_zero, Nat.zero_add, bne_self_eq_false, beq_self_eq_true, Bool.and_self, Bool.or_true, Bool.or_false, Bool.true_or, Bool.false_or, Bool.false_and, Bool.and_false]; rfl) ?_)) ?_
        refine seq_in (seq_run okR9 rfl (by repeat (first | with_reducible exact runf_nil | refine runf_cons (by simp only [runf, xstep, stepf, stepx, evsA, qev, St.ev, St.put, St.with, D.cells, D.cell, D.int, boxA, qload, cellsAt, qmk, C.cpy, TK.agg, qnil, qfieldAddr, qpart, qfield, qindexAddr, qindex, qpick, qint, qshift, qstr, isEq, qeq, isShift, qbin, qun, qconv, qbounds, qslice, qlen, qext, omap, q2, qbuiltin, liveR, C.st, C.cp, C.dat, storeA, putCells, constD, constC, List.getElem?_cons_zero, List.getElem?_cons_succ, List.set_cons_zero, List.set_cons_succ, List.replicate, List.length_cons, List.length_nil, List.cons_append, List.nil_append, List.append_nil, List.map_nil, List.map_cons, List.all_cons, List.all_nil, List.take_succ_cons, List.take_zero, List.drop_succ_cons, List.drop_zero, List.singleton_append, Option.bind_some, Option.bind_none, Option.map_some, Option.map_none, Bool.and_true, Bool.true_and, Nat.reduceAdd, Nat.reduceSub, Nat.reduceMul, Nat.reduceEqDiff, reduceIte, if_true, if_false, and_self, and_true, true_and, decide_true, decide_false, Bool.not_true, Bool.not_false, cond_true, cond_false, forall_const, List.getElem?_toArray, Option.some.injEq, ne_eq, not_false_eq_true, Array.toList, reduceCtorEq, Int.reduceLT, Int.reduceLE, Int.reduceToNat, Nat.reduceLeDiff, Nat.reduceLT, Nat.le_refl, Nat.reduceBNe, Nat.reduceBEq, Bool.false_eq_true, implies_true, Nat.add_zero, Nat.zero_add, bne_self_eq_false, beq_self_eq_true, Bool.and_self, Bool.or_true, Bool.or_false, Bool.true_or, Bool.false_or, Bool.false_and, Bool.and_false, tk3, tsz3, tz3, bo3, tk4, tsz4, tz4, bo4, tk9, tsz9, tz9, bo9, tk35, tsz35, tz35, bo35, tk109, tsz109, tz109, bo109, tk165, tsz165, tz165, bo165, callP, callO, Fs.none, dedup, rootsD, rootsC, List.flatMap_cons, List.flatMap_nil, List.filterMap_cons, List.filterMap_nil, argDs, argD, argC, argCs, List.contains_nil, List.contains_cons, objsAt, objOf, List.idxOf?, List.findIdx?, List.findIdx?.go, setObjs, D.ni, D.ni1, C.ni, C.niRow, settle, settle1, settleC, settleDs, settleCs, List.isEmpty_nil, List.isEmpty_cons, FsR9, rObj, hL, hneg]; rfl) ?_)) ?_)
        refine tri_cond rfl (fun h => by cases h) (fun _ => then_skip ?_)
        refine seq_run okR9 rfl (by repeat (first | with_reducible exact runf_nil | refine runf_cons (by simp only [runf, xstep, stepf, stepx, evsA, qev, St.ev, St.put, St.with, D.cells, D.cell, D.int, boxA, qload, cellsAt, qmk, C.cpy, TK.agg, qnil, qfieldAddr, qpart, qfield, qindexAddr, qindex, qpick, qint, qshift, qstr, isEq, qeq, isShift, qbin, qun, qconv, qbounds, qslice, qlen, qext, omap, q2, qbuiltin, liveR, C.st, C.cp, C.dat, storeA, putCells, constD, constC, List.getElem?_cons_zero, List.getElem?_cons_succ, List.set_cons_zero, List.set_cons_succ, List.replicate, List.length_cons, List.length_nil, List.cons_append, List.nil_append, List.append_nil, List.map_nil, List.map_cons, List.all_cons, List.all_nil, List.take_succ_cons, List.take_zero, List.drop_succ_cons, List.drop_zero, List.singleton_append, Option.bind_some, Option.bind_none, Option.map_some, Option.map_none, Bool.and_true, Bool.true_and, Nat.reduceAdd, Nat.reduceSub, Nat.reduceMul, Nat.reduceEqDiff, reduceIte, if_true, if_false, and_self, and_true, true_and, decide_true, decide_false, Bool.not_true, Bool.not_false, cond_true, cond_false, forall_const, List.getElem?_toArray, Option.some.injEq, ne_eq, not_false_eq_true, Array.toList, reduceCtorEq, Int.reduceLT, Int.reduceLE, Int.reduceToNat, Nat.reduceLeDiff, Nat.reduceLT, Nat.le_refl, Nat.reduceBNe, Nat.reduceBEq, Bool.false_eq_true, implies_true, Nat.add_zero, Nat.zero_add, bne_self_eq_false, beq_self_eq_true, Bool.and_self, Bool.or_true, Bool.or_false, Bool.true_or, Bool.false_or, Bool.false_and, Bool.and_false, tk3, tsz3, tz3, bo3, tk4, tsz4, tz4, bo4, tk9, tsz9, tz9, bo9, tk35, tsz35, tz35, bo35, tk109, tsz109, tz109, bo109, tk165, tsz165, tz165, bo165, callP, callO, Fs.none, dedup, rootsD, rootsC, List.flatMap_cons, List.flatMap_nil, List.filterMap_cons, List.filterMap_nil, argDs, argD, argC, argCs, List.contains_nil, List.contains_cons, objsAt, objOf, List.idxOf?, List.findIdx?, List.findIdx?.go, setObjs, D.ni, D.ni1, C.ni, C.niRow, settle, settle1, settleC, settleDs, settleCs, List.isEmpty_nil, List.isEmpty_cons, FsR9, hE]; rfl) ?_)) ?_
        refine tri_ret (ends_ret (by simp only [outRes, resDs, resD, outDs, outD, outC, runf, xstep, stepf, stepx, evsA, qev, St.ev, St.put, St.with, D.cells, D.cell, D.int, boxA, qload, cellsAt, qmk, C.cpy, TK.agg, qnil, qfieldAddr, qpart, qfield, qindexAddr, qindex, qpick, qint, qshift, qstr, isEq, qeq, isShift, qbin, qun, qconv, qbounds, qslice, qlen, qext, omap, q2, qbuiltin, liveR, C.st, C.cp, C.dat, storeA, putCells, constD, constC, List.getElem?_cons_zero, List.getElem?_cons_succ, List.set_cons_zero, List.set_cons_succ, List.replicate, List.length_cons, List.length_nil, List.cons_append, List.nil_append, List.append_nil, List.map_nil, List.map_cons, List.all_cons, List.all_nil, List.take_succ_cons, List.take_zero, List.drop_succ_cons, List.drop_zero, List.singleton_append, Option.bind_some, Option.bind_none, Option.map_some, Option.map_none, Bool.and_true, Bool.true_and, Nat.reduceAdd, Nat.reduceSub, Nat.reduceMul, Nat.reduceEqDiff, reduceIte, if_true, if_false, and_self, and_true, true_and, decide_true, decide_false, Bool.not_true, Bool.not_false, cond_true, cond_false, forall_const, List.getElem?_toArray, Option.some.injEq, ne_eq, not_false_eq_true, Array.toList, reduceCtorEq, Int.reduceLT, Int.reduceLE, Int.reduceToNat, Nat.reduceLeDiff, Nat.reduceLT, Nat.le_refl, Nat.reduceBNe, Nat.reduceBEq, Bool.false_eq_true, implies_true, Nat.add_zero, Nat.zero_add, bne_self_eq_false, beq_self_eq_true, Bool.and_self, Bool.or_true, Bool.or_false, Bool.true_or, Bool.false_or, Bool.false_and, Bool.and_false]; rfl) rfl .nil (by simp) ?_)
        exact hQ
  · cases hd

/-- octet.Read. -/
def pRead : List D → Option D
  | [.c (.v (.string s))] => some (.c (.o [.v (.string s), .v (.int .i64 0), .v (.int .i64 0)]))
  | _ => none

theorem got58 : Try.prog.funcs[58]? = some Try.f58 := by kernel_rfl
theorem meets58 : Meets Try.prog 58 (pureS pRead) := by
  refine meets_of_tri got58 rfl (n := 6) rfl (rs := [ResultVar.tmp 2]) rfl ?_
  rintro args objs Q ⟨rfl, d, hd, hQ⟩
  unfold pRead at hd
  split at hd
  · rename_i s
    cases hd
    refine seq_run ok0 rfl (by repeat (first | with_reducible exact runf_nil | refine runf_cons (by simp only [runf, xstep, stepf, stepx, evsA, qev, St.ev, St.put, St.with, D.cells, D.cell, D.int, boxA, qload, cellsAt, qmk, C.cpy, TK.agg, qnil, qfieldAddr, qpart, qfield, qindexAddr, qindex, qpick, qint, qshift, qstr, isEq, qeq, isShift, qbin, qun, qconv, qbounds, qslice, qlen, qext, omap, q2, qbuiltin, liveR, C.st, C.cp, C.dat, storeA, putCells, constD, constC, List.getElem?_cons_zero, List.getElem?_cons_succ, List.set_cons_zero, List.set_cons_succ, List.replicate, List.length_cons, List.length_nil, List.cons_append, List.nil_append, List.append_nil, List.map_nil, List.map_cons, List.all_cons, List.all_nil, List.take_succ_cons, List.take_zero, List.drop_succ_cons, List.drop_zero, List.singleton_append, Option.bind_some, Option.bind_none, Option.map_some, Option.map_none, Bool.and_true, Bool.true_and, Nat.reduceAdd, Nat.reduceSub, Nat.reduceMul, Nat.reduceEqDiff, reduceIte, if_true, if_false, and_self, and_true, true_and, decide_true, decide_false, Bool.not_true, Bool.not_false, cond_true, cond_false, forall_const, List.getElem?_toArray, Option.some.injEq, ne_eq, not_false_eq_true, Array.toList, reduceCtorEq, Int.reduceLT, Int.reduceLE, Int.reduceToNat, Nat.reduceLeDiff, Nat.reduceLT, Nat.le_refl, Nat.reduceBNe, Nat.reduceBEq, Bool.false_eq_true, implies_true, Nat.add_zero, Nat.zero_add, bne_self_eq_false, beq_self_eq_true, Bool.and_self, Bool.or_true, Bool.or_false, Bool.true_or, Bool.false_or, Bool.false_and, Bool.and_false]; rfl) ?_)) ?_
    refine seq_run ok0 rfl (by repeat (first | with_reducible exact runf_nil | refine runf_cons (by simp only [runf, xstep, stepf, stepx, evsA, qev, St.ev, St.put, St.with, D.cells, D.cell, D.int, boxA, qload, cellsAt, qmk, C.cpy, TK.agg, qnil, qfieldAddr, qpart, qfield, qindexAddr, qindex, qpick, qint, qshift, qstr, isEq, qeq, isShift, qbin, qun, qconv, qbounds, qslice, qlen, qext, omap, q2, qbuiltin, liveR, C.st, C.cp, C.dat, storeA, putCells, constD, constC, List.getElem?_cons_zero, List.getElem?_cons_succ, List.set_cons_zero, List.set_cons_succ, List.replicate, List.length_cons, List.length_nil, List.cons_append, List.nil_append, List.append_nil, List.map_nil, List.map_cons, List.all_cons, List.all_nil, List.take_succ_cons, List.take_zero, List.drop_succ_cons, List.drop_zero, List.singleton_append, Option.bind_some, Option.bind_none, Option.map_some, Option.map_none, Bool.and_true, Bool.true_and, Nat.reduceAdd, Nat.reduceSub, Nat.reduceMul, Nat.reduceEqDiff, reduceIte, if_true, if_false, and_self, and_true, true_and, decide_true, decide_false, Bool.not_true, Bool.not_false, cond_true, cond_false, forall_const, List.getElem?_toArray, Option.some.injEq, ne_eq, not_false_eq_true, Array.toList, reduceCtorEq, Int.reduceLT, Int.reduceLE, Int.reduceToNat, Nat.reduceLeDiff, Nat.reduceLT, Nat.le_refl, Nat.reduceBNe, Nat.reduceBEq, Bool.false_eq_true, implies_true, Nat.add_zero, Nat.zero_add, bne_self_eq_false, beq_self_eq_true, Bool.and_self, Bool.or_true, Bool.or_false, Bool.true_or, Bool.false_or, Bool.false_and, Bool.and_false, tk3, tsz3, tz3, bo3, tk4, tsz4, tz4, bo4, tk9, tsz9, tz9, bo9, tk35, tsz35, tz35, bo35, tk109, tsz109, tz109, bo109, tk165, tsz165, tz165, bo165, buildA, partsA, fillA, placeSt]; rfl) ?_)) ?_
    refine tri_ret (ends_ret (by simp only [outRes, resDs, resD, outDs, outD, outC, runf, xstep, stepf, stepx, evsA, qev, St.ev, St.put, St.with, D.cells, D.cell, D.int, boxA, qload, cellsAt, qmk, C.cpy, TK.agg, qnil, qfieldAddr, qpart, qfield, qindexAddr, qindex, qpick, qint, qshift, qstr, isEq, qeq, isShift, qbin, qun, qconv, qbounds, qslice, qlen, qext, omap, q2, qbuiltin, liveR, C.st, C.cp, C.dat, storeA, putCells, constD, constC, List.getElem?_cons_zero, List.getElem?_cons_succ, List.set_cons_zero, List.set_cons_succ, List.replicate, List.length_cons, List.length_nil, List.cons_append, List.nil_append, List.append_nil, List.map_nil, List.map_cons, List.all_cons, List.all_nil, List.take_succ_cons, List.take_zero, List.drop_succ_cons, List.drop_zero, List.singleton_append, Option.bind_some, Option.bind_none, Option.map_some, Option.map_none, Bool.and_true, Bool.true_and, Nat.reduceAdd, Nat.reduceSub, Nat.reduceMul, Nat.reduceEqDiff, reduceIte, if_true, if_false, and_self, and_true, true_and, decide_true, decide_false, Bool.not_true, Bool.not_false, cond_true, cond_false, forall_const, List.getElem?_toArray, Option.some.injEq, ne_eq, not_false_eq_true, Array.toList, reduceCtorEq, Int.reduceLT, Int.reduceLE, Int.reduceToNat, Nat.reduceLeDiff, Nat.reduceLT, Nat.le_refl, Nat.reduceBNe, Nat.reduceBEq, Bool.false_eq_true, implies_true, Nat.add_zero, Nat.zero_add, bne_self_eq_false, beq_self_eq_true, Bool.and_self, Bool.or_true, Bool.or_false, Bool.true_or, Bool.false_or, Bool.false_and, Bool.and_false]; rfl) rfl (by simp) (by simp) ?_)
    exact hQ
  · cases hd

end Go.Dl
