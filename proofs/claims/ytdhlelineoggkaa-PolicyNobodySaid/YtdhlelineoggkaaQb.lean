/- The walks of the policy package's queue. -/
import Derived.Test.YtdhlelineoggkaaQa
namespace Go.Dl
open Go.RowKit
open Go.Proofs
set_option linter.unusedSimpArgs false
set_option linter.unusedVariables false

def decDues : List (List C) → Option (List (Int × Int))
  | [] => some []
  | r :: rs => match decDue r, decDues rs with
    | some d, some l => some (d :: l)
    | _, _ => none

theorem decDues_eq : ∀ {rows : List (List C)} {l : List (Int × Int)}, decDues rows = some l → rows = l.map due
  | [], l, h => by cases h; rfl
  | r :: rs, l, h => by
    simp only [decDues] at h
    split at h
    · rename_i d l' h1 h2
      cases h
      rw [decDue_eq h1, decDues_eq h2]; rfl
    · cases h

theorem decDues_map : ∀ l : List (Int × Int), decDues (l.map due) = some l
  | [] => rfl
  | d :: l => by simp only [List.map_cons, decDues, decDues_map l]; rfl

theorem due_cpy (d : Int × Int) : (due d).map C.cpy = due d := rfl
theorem due_take (d : Int × Int) : (due d).take 2 = due d := rfl
theorem due_len (d : Int × Int) : (due d).length = 2 := rfl
theorem due_cp (d : Int × Int) : (due d).all C.cp = true := rfl
theorem due_st (H : List (Option Root)) (d : Int × Int) : (due d).all (C.st H) = true := rfl
theorem due_dat (d : Int × Int) : (due d).all C.dat = true := rfl
theorem due_drop (d : Int × Int) : (due d).drop 2 = [] := rfl
theorem due_arg (H : List (Option Root)) (ρ : List Nat) (d : Int × Int) : argCs H ρ (due d) = some (due d, []) := rfl

/-- A queue. -/
def qObj (l : List (Int × Int)) : Obj := ⟨1, [[.s true 2 (l.map due)]]⟩

def decQ : Obj → Option (List (Int × Int))
  | ⟨1, [[.s true es rows]]⟩ => if es = 2 ∨ (es = 0 ∧ rows.isEmpty = true) then decDues rows else none
  | _ => none

theorem decQ_eq {o : Obj} {l : List (Int × Int)} (h : decQ o = some l) : ∃ es, o = ⟨1, [[.s true es (l.map due)]]⟩ ∧ (es = 2 ∨ (es = 0 ∧ (l.map due).isEmpty = true)) := by
  unfold decQ at h
  split at h
  · split at h
    · rename_i es rows hes
      have := decDues_eq h
      subst this
      exact ⟨es, rfl, hes⟩
    · cases h
  · cases h

theorem decQ_q (l : List (Int × Int)) : decQ (qObj l) = some l := by
  simp only [decQ, qObj, true_or, if_true, decDues_map]

/-- Len. -/
def oLen : List D → List Obj → Option (D × List Obj)
  | [.c (.p 0 0 0)], [o] => (decQ o).bind fun l => if l.length ≤ maxStr then some (dI l.length, [qObj l]) else none
  | [.c (.v (.pointer none))], [] => some (dI 0, [])
  | _, _ => none

theorem open_q {l : List (Int × Int)} {es : Nat} {H : List (Option Root)} (hes : es = 2 ∨ (es = 0 ∧ (l.map due).isEmpty = true)) :
    openA (some ⟨false, 1, [[.s true es (l.map due)]]⟩ :: H) 0 0 0 2 = some (some ⟨false, 1, [[.h (H.length + 1) 0 l.length]]⟩ :: (H ++ [some ⟨true, 2, l.map due⟩])) := by
  simp only [openA, List.getElem?_cons_zero, Bool.false_eq_true, if_false, if_pos hes, List.length_cons, List.length_map, List.set_cons_zero, List.cons_append]

theorem got49 : Try.prog.funcs[9]? = some Try.f9 := by kernel_rfl
theorem meets49 : Meets Try.prog 9 (detS oLen) := by
  refine meets_of_tri got49 rfl (n := 10) rfl (rs := [ResultVar.tmp 2]) rfl ?_
  rintro args objs Q ⟨d, os, hd, hQ⟩
  unfold oLen at hd
  split at hd
  · rename_i o
    cases hq : decQ o with
    | none => rw [hq] at hd; cases hd
    | some l =>
      rw [hq] at hd
      simp only [Option.bind_some] at hd
      split at hd
      · rename_i hlen
        cases hd
        obtain ⟨es, rfl, hes⟩ := decQ_eq hq
        refine seq_run ok0 rfl (by repeat (first | with_reducible exact runf_nil | refine runf_cons (by simp only [runf, xstep, stepf, stepx, evsA, qev, St.ev, St.put, St.with, D.cells, D.cell, D.int, boxA, qload, cellsAt, qmk, C.cpy, TK.agg, qnil, qfieldAddr, qpart, qfield, qindexAddr, qindex, qpick, qint, qshift, qstr, isEq, qeq, isShift, qbin, eqC, eqCs, qun, qconv, qbounds, qslice, qlen, qext, omap, q2, qbuiltin, liveR, C.st, C.cp, C.dat, storeA, putCells, constD, constC, List.getElem?_cons_zero, List.getElem?_cons_succ, List.set_cons_zero, List.set_cons_succ, List.replicate, List.length_cons, List.length_nil, List.cons_append, List.nil_append, List.append_nil, List.map_nil, List.map_cons, List.all_cons, List.all_nil, List.take_succ_cons, List.take_zero, List.drop_succ_cons, List.drop_zero, List.singleton_append, Option.bind_some, Option.bind_none, Option.map_some, Option.map_none, Bool.and_true, Bool.true_and, Nat.reduceAdd, Nat.reduceSub, Nat.reduceMul, Nat.reduceEqDiff, reduceIte, if_true, if_false, and_self, and_true, true_and, decide_true, decide_false, Bool.not_true, Bool.not_false, cond_true, cond_false, forall_const, List.getElem?_toArray, Option.some.injEq, ne_eq, not_false_eq_true, Array.toList, reduceCtorEq, Int.reduceLT, Int.reduceLE, Int.reduceToNat, Nat.reduceLeDiff, Nat.reduceLT, Nat.le_refl, Nat.reduceBNe, Nat.reduceBEq, Bool.false_eq_true, implies_true, Nat.add_zero, Nat.zero_add, bne_self_eq_false, beq_self_eq_true, Bool.and_self, Bool.or_true, Bool.or_false, Bool.true_or, Bool.false_or, Bool.false_and, Bool.and_false]; rfl) ?_)) ?_
        refine seq_in (seq_run ok0 rfl (by repeat (first | with_reducible exact runf_nil | refine runf_cons (by simp only [runf, xstep, stepf, stepx, evsA, qev, St.ev, St.put, St.with, D.cells, D.cell, D.int, boxA, qload, cellsAt, qmk, C.cpy, TK.agg, qnil, qfieldAddr, qpart, qfield, qindexAddr, qindex, qpick, qint, qshift, qstr, isEq, qeq, isShift, qbin, eqC, eqCs, qun, qconv, qbounds, qslice, qlen, qext, omap, q2, qbuiltin, liveR, C.st, C.cp, C.dat, storeA, putCells, constD, constC, List.getElem?_cons_zero, List.getElem?_cons_succ, List.set_cons_zero, List.set_cons_succ, List.replicate, List.length_cons, List.length_nil, List.cons_append, List.nil_append, List.append_nil, List.map_nil, List.map_cons, List.all_cons, List.all_nil, List.take_succ_cons, List.take_zero, List.drop_succ_cons, List.drop_zero, List.singleton_append, Option.bind_some, Option.bind_none, Option.map_some, Option.map_none, Bool.and_true, Bool.true_and, Nat.reduceAdd, Nat.reduceSub, Nat.reduceMul, Nat.reduceEqDiff, reduceIte, if_true, if_false, and_self, and_true, true_and, decide_true, decide_false, Bool.not_true, Bool.not_false, cond_true, cond_false, forall_const, List.getElem?_toArray, Option.some.injEq, ne_eq, not_false_eq_true, Array.toList, reduceCtorEq, Int.reduceLT, Int.reduceLE, Int.reduceToNat, Nat.reduceLeDiff, Nat.reduceLT, Nat.le_refl, Nat.reduceBNe, Nat.reduceBEq, Bool.false_eq_true, implies_true, Nat.add_zero, Nat.zero_add, bne_self_eq_false, beq_self_eq_true, Bool.and_self, Bool.or_true, Bool.or_false, Bool.true_or, Bool.false_or, Bool.false_and, Bool.and_false, tk24]; rfl) ?_)) ?_)
        refine tri_cond rfl (fun h => by cases h) (fun _ => then_skip ?_)
        refine tri_open 0 0 0 2 (open_q hes) ?_
        refine seq_run ok0 rfl (by repeat (first | with_reducible exact runf_nil | refine runf_cons (by simp only [runf, xstep, stepf, stepx, evsA, qev, St.ev, St.put, St.with, D.cells, D.cell, D.int, boxA, qload, cellsAt, qmk, C.cpy, TK.agg, qnil, qfieldAddr, qpart, qfield, qindexAddr, qindex, qpick, qint, qshift, qstr, isEq, qeq, isShift, qbin, eqC, eqCs, qun, qconv, qbounds, qslice, qlen, qext, omap, q2, qbuiltin, liveR, C.st, C.cp, C.dat, storeA, putCells, constD, constC, List.getElem?_cons_zero, List.getElem?_cons_succ, List.set_cons_zero, List.set_cons_succ, List.replicate, List.length_cons, List.length_nil, List.cons_append, List.nil_append, List.append_nil, List.map_nil, List.map_cons, List.all_cons, List.all_nil, List.take_succ_cons, List.take_zero, List.drop_succ_cons, List.drop_zero, List.singleton_append, Option.bind_some, Option.bind_none, Option.map_some, Option.map_none, Bool.and_true, Bool.true_and, Nat.reduceAdd, Nat.reduceSub, Nat.reduceMul, Nat.reduceEqDiff, reduceIte, if_true, if_false, and_self, and_true, true_and, decide_true, decide_false, Bool.not_true, Bool.not_false, cond_true, cond_false, forall_const, List.getElem?_toArray, Option.some.injEq, ne_eq, not_false_eq_true, Array.toList, reduceCtorEq, Int.reduceLT, Int.reduceLE, Int.reduceToNat, Nat.reduceLeDiff, Nat.reduceLT, Nat.le_refl, Nat.reduceBNe, Nat.reduceBEq, Bool.false_eq_true, implies_true, Nat.add_zero, Nat.zero_add, bne_self_eq_false, beq_self_eq_true, Bool.and_self, Bool.or_true, Bool.or_false, Bool.true_or, Bool.false_or, Bool.false_and, Bool.and_false, tk36, tsz31, tk31, hlen]; rfl) ?_)) ?_
        refine tri_close 0 0 0 (by simp only [closeA, runf, xstep, stepf, stepx, evsA, qev, St.ev, St.put, St.with, D.cells, D.cell, D.int, boxA, qload, cellsAt, qmk, C.cpy, TK.agg, qnil, qfieldAddr, qpart, qfield, qindexAddr, qindex, qpick, qint, qshift, qstr, isEq, qeq, isShift, qbin, eqC, eqCs, qun, qconv, qbounds, qslice, qlen, qext, omap, q2, qbuiltin, liveR, C.st, C.cp, C.dat, storeA, putCells, constD, constC, List.getElem?_cons_zero, List.getElem?_cons_succ, List.set_cons_zero, List.set_cons_succ, List.replicate, List.length_cons, List.length_nil, List.cons_append, List.nil_append, List.append_nil, List.map_nil, List.map_cons, List.all_cons, List.all_nil, List.take_succ_cons, List.take_zero, List.drop_succ_cons, List.drop_zero, List.singleton_append, Option.bind_some, Option.bind_none, Option.map_some, Option.map_none, Bool.and_true, Bool.true_and, Nat.reduceAdd, Nat.reduceSub, Nat.reduceMul, Nat.reduceEqDiff, reduceIte, if_true, if_false, and_self, and_true, true_and, decide_true, decide_false, Bool.not_true, Bool.not_false, cond_true, cond_false, forall_const, List.getElem?_toArray, Option.some.injEq, ne_eq, not_false_eq_true, Array.toList, reduceCtorEq, Int.reduceLT, Int.reduceLE, Int.reduceToNat, Nat.reduceLeDiff, Nat.reduceLT, Nat.le_refl, Nat.reduceBNe, Nat.reduceBEq, Bool.false_eq_true, implies_true, Nat.add_zero, Nat.zero_add, bne_self_eq_false, beq_self_eq_true, Bool.and_self, Bool.or_true, Bool.or_false, Bool.true_or, Bool.false_or, Bool.false_and, Bool.and_false, List.length_map]; rfl) ?_
        refine tri_ret (ends_ret (by simp only [outRes, resDs, resD, outD, outC, runf, xstep, stepf, stepx, evsA, qev, St.ev, St.put, St.with, D.cells, D.cell, D.int, boxA, qload, cellsAt, qmk, C.cpy, TK.agg, qnil, qfieldAddr, qpart, qfield, qindexAddr, qindex, qpick, qint, qshift, qstr, isEq, qeq, isShift, qbin, eqC, eqCs, qun, qconv, qbounds, qslice, qlen, qext, omap, q2, qbuiltin, liveR, C.st, C.cp, C.dat, storeA, putCells, constD, constC, List.getElem?_cons_zero, List.getElem?_cons_succ, List.set_cons_zero, List.set_cons_succ, List.replicate, List.length_cons, List.length_nil, List.cons_append, List.nil_append, List.append_nil, List.map_nil, List.map_cons, List.all_cons, List.all_nil, List.take_succ_cons, List.take_zero, List.drop_succ_cons, List.drop_zero, List.singleton_append, Option.bind_some, Option.bind_none, Option.map_some, Option.map_none, Bool.and_true, Bool.true_and, Nat.reduceAdd, Nat.reduceSub, Nat.reduceMul, Nat.reduceEqDiff, reduceIte, if_true, if_false, and_self, and_true, true_and, decide_true, decide_false, Bool.not_true, Bool.not_false, cond_true, cond_false, forall_const, List.getElem?_toArray, Option.some.injEq, ne_eq, not_false_eq_true, Array.toList, reduceCtorEq, Int.reduceLT, Int.reduceLE, Int.reduceToNat, Nat.reduceLeDiff, Nat.reduceLT, Nat.le_refl, Nat.reduceBNe, Nat.reduceBEq, Bool.false_eq_true, implies_true, Nat.add_zero, Nat.zero_add, bne_self_eq_false, beq_self_eq_true, Bool.and_self, Bool.or_true, Bool.or_false, Bool.true_or, Bool.false_or, Bool.false_and, Bool.and_false, St.kill, D.kill, D.no, C.no]; rfl) rfl .nil (by simp) ?_)
        exact hQ
      · cases hd
  · cases hd
    refine seq_run ok0 rfl (by repeat (first | with_reducible exact runf_nil | refine runf_cons (by simp only [runf, xstep, stepf, stepx, evsA, qev, St.ev, St.put, St.with, D.cells, D.cell, D.int, boxA, qload, cellsAt, qmk, C.cpy, TK.agg, qnil, qfieldAddr, qpart, qfield, qindexAddr, qindex, qpick, qint, qshift, qstr, isEq, qeq, isShift, qbin, eqC, eqCs, qun, qconv, qbounds, qslice, qlen, qext, omap, q2, qbuiltin, liveR, C.st, C.cp, C.dat, storeA, putCells, constD, constC, List.getElem?_cons_zero, List.getElem?_cons_succ, List.set_cons_zero, List.set_cons_succ, List.replicate, List.length_cons, List.length_nil, List.cons_append, List.nil_append, List.append_nil, List.map_nil, List.map_cons, List.all_cons, List.all_nil, List.take_succ_cons, List.take_zero, List.drop_succ_cons, List.drop_zero, List.singleton_append, Option.bind_some, Option.bind_none, Option.map_some, Option.map_none, Bool.and_true, Bool.true_and, Nat.reduceAdd, Nat.reduceSub, Nat.reduceMul, Nat.reduceEqDiff, reduceIte, if_true, if_false, and_self, and_true, true_and, decide_true, decide_false, Bool.not_true, Bool.not_false, cond_true, cond_false, forall_const, List.getElem?_toArray, Option.some.injEq, ne_eq, not_false_eq_true, Array.toList, reduceCtorEq, Int.reduceLT, Int.reduceLE, Int.reduceToNat, Nat.reduceLeDiff, Nat.reduceLT, Nat.le_refl, Nat.reduceBNe, Nat.reduceBEq, Bool.false_eq_true, implies_true, Nat.add_zero, Nat.zero_add, bne_self_eq_false, beq_self_eq_true, Bool.and_self, Bool.or_true, Bool.or_false, Bool.true_or, Bool.false_or, Bool.false_and, Bool.and_false]; rfl) ?_)) ?_
    refine seq_in (seq_run ok0 rfl (by repeat (first | with_reducible exact runf_nil | refine runf_cons (by simp only [runf, xstep, stepf, stepx, evsA, qev, St.ev, St.put, St.with, D.cells, D.cell, D.int, boxA, qload, cellsAt, qmk, C.cpy, TK.agg, qnil, qfieldAddr, qpart, qfield, qindexAddr, qindex, qpick, qint, qshift, qstr, isEq, qeq, isShift, qbin, eqC, eqCs, qun, qconv, qbounds, qslice, qlen, qext, omap, q2, qbuiltin, liveR, C.st, C.cp, C.dat, storeA, putCells, constD, constC, List.getElem?_cons_zero, List.getElem?_cons_succ, List.set_cons_zero, List.set_cons_succ, List.replicate, List.length_cons, List.length_nil, List.cons_append, List.nil_append, List.append_nil, List.map_nil, List.map_cons, List.all_cons, List.all_nil, List.take_succ_cons, List.take_zero, List.drop_succ_cons, List.drop_zero, List.singleton_append, Option.bind_some, Option.bind_none, Option.map_some, Option.map_none, Bool.and_true, Bool.true_and, Nat.reduceAdd, Nat.reduceSub, Nat.reduceMul, Nat.reduceEqDiff, reduceIte, if_true, if_false, and_self, and_true, true_and, decide_true, decide_false, Bool.not_true, Bool.not_false, cond_true, cond_false, forall_const, List.getElem?_toArray, Option.some.injEq, ne_eq, not_false_eq_true, Array.toList, reduceCtorEq, Int.reduceLT, Int.reduceLE, Int.reduceToNat, Nat.reduceLeDiff, Nat.reduceLT, Nat.le_refl, Nat.reduceBNe, Nat.reduceBEq, Bool.false_eq_true, implies_true, Nat.add_zero, Nat.zero_add, bne_self_eq_false, beq_self_eq_true, Bool.and_self, Bool.or_true, Bool.or_false, Bool.true_or, Bool.false_or, Bool.false_and, Bool.and_false, tk24]; rfl) ?_)) ?_)
    refine tri_cond rfl (fun _ => ?_) (fun h => by cases h)
    refine seq_run ok0 rfl (by repeat (first | with_reducible exact runf_nil | refine runf_cons (by simp only [runf, xstep, stepf, stepx, evsA, qev, St.ev, St.put, St.with, D.cells, D.cell, D.int, boxA, qload, cellsAt, qmk, C.cpy, TK.agg, qnil, qfieldAddr, qpart, qfield, qindexAddr, qindex, qpick, qint, qshift, qstr, isEq, qeq, isShift, qbin, eqC, eqCs, qun, qconv, qbounds, qslice, qlen, qext, omap, q2, qbuiltin, liveR, C.st, C.cp, C.dat, storeA, putCells, constD, constC, List.getElem?_cons_zero, List.getElem?_cons_succ, List.set_cons_zero, List.set_cons_succ, List.replicate, List.length_cons, List.length_nil, List.cons_append, List.nil_append, List.append_nil, List.map_nil, List.map_cons, List.all_cons, List.all_nil, List.take_succ_cons, List.take_zero, List.drop_succ_cons, List.drop_zero, List.singleton_append, Option.bind_some, Option.bind_none, Option.map_some, Option.map_none, Bool.and_true, Bool.true_and, Nat.reduceAdd, Nat.reduceSub, Nat.reduceMul, Nat.reduceEqDiff, reduceIte, if_true, if_false, and_self, and_true, true_and, decide_true, decide_false, Bool.not_true, Bool.not_false, cond_true, cond_false, forall_const, List.getElem?_toArray, Option.some.injEq, ne_eq, not_false_eq_true, Array.toList, reduceCtorEq, Int.reduceLT, Int.reduceLE, Int.reduceToNat, Nat.reduceLeDiff, Nat.reduceLT, Nat.le_refl, Nat.reduceBNe, Nat.reduceBEq, Bool.false_eq_true, implies_true, Nat.add_zero, Nat.zero_add, bne_self_eq_false, beq_self_eq_true, Bool.and_self, Bool.or_true, Bool.or_false, Bool.true_or, Bool.false_or, Bool.false_and, Bool.and_false]; rfl) ?_)) ?_
    refine tri_ret (ends_ret (by simp only [outRes, resDs, resD, outD, outC, runf, xstep, stepf, stepx, evsA, qev, St.ev, St.put, St.with, D.cells, D.cell, D.int, boxA, qload, cellsAt, qmk, C.cpy, TK.agg, qnil, qfieldAddr, qpart, qfield, qindexAddr, qindex, qpick, qint, qshift, qstr, isEq, qeq, isShift, qbin, eqC, eqCs, qun, qconv, qbounds, qslice, qlen, qext, omap, q2, qbuiltin, liveR, C.st, C.cp, C.dat, storeA, putCells, constD, constC, List.getElem?_cons_zero, List.getElem?_cons_succ, List.set_cons_zero, List.set_cons_succ, List.replicate, List.length_cons, List.length_nil, List.cons_append, List.nil_append, List.append_nil, List.map_nil, List.map_cons, List.all_cons, List.all_nil, List.take_succ_cons, List.take_zero, List.drop_succ_cons, List.drop_zero, List.singleton_append, Option.bind_some, Option.bind_none, Option.map_some, Option.map_none, Bool.and_true, Bool.true_and, Nat.reduceAdd, Nat.reduceSub, Nat.reduceMul, Nat.reduceEqDiff, reduceIte, if_true, if_false, and_self, and_true, true_and, decide_true, decide_false, Bool.not_true, Bool.not_false, cond_true, cond_false, forall_const, List.getElem?_toArray, Option.some.injEq, ne_eq, not_false_eq_true, Array.toList, reduceCtorEq, Int.reduceLT, Int.reduceLE, Int.reduceToNat, Nat.reduceLeDiff, Nat.reduceLT, Nat.le_refl, Nat.reduceBNe, Nat.reduceBEq, Bool.false_eq_true, implies_true, Nat.add_zero, Nat.zero_add, bne_self_eq_false, beq_self_eq_true, Bool.and_self, Bool.or_true, Bool.or_false, Bool.true_or, Bool.false_or, Bool.false_and, Bool.and_false]; rfl) rfl .nil (by simp) ?_)
    exact hQ
  · cases hd

/-- One entry moved up. -/
def swapQ (l : List (Int × Int)) (i j : Nat) : List (Int × Int) :=
  match l[i]?, l[j]? with
  | some x, some y => (l.set i y).set j x
  | _, _ => l

def siftUp : Nat → List (Int × Int) → Nat → List (Int × Int)
  | 0, l, _ => l
  | f + 1, l, i => if i = 0 then l else match l[(i - 1) / 2]?, l[i]? with
    | some p, some c => if ordD p c ≤ 0 then l else siftUp f (swapQ l ((i - 1) / 2) i) ((i - 1) / 2)
    | _, _ => l

/-- A queue with one more. -/
def addQ (l : List (Int × Int)) (d : Int × Int) : List (Int × Int) := siftUp (l.length + 1) (l ++ [d]) l.length

def oAdd : List D → List Obj → Option (D × List Obj)
  | [.c (.p 0 0 0), .agg xs], [o] => (decQ o).bind fun l => (decDue xs).bind fun d => if (l.length + 1) * 16 ≤ 140737488355328 then some (.t [], [qObj (addQ l d)]) else none
  | _, _ => none

def FsC : Fs := { Fs.none with pure := fun k => if k = 12 then some pOrder else none }
theorem okC : FsOK Try.prog FsC := by
  refine ⟨fun k f h => ?_, fun _ _ h => (by cases h)⟩
  simp only [FsC] at h
  split at h
  · rename_i hk; subst hk; cases h; exact ⟨by kernel_rfl, meets83⟩
  · cases h

theorem len_max {n : Nat} (h : (n + 1) * 16 ≤ 140737488355328) : n + 1 ≤ maxStr := by unfold maxStr; omega

theorem half (i : Nat) (h : 0 < i) : IntKind.wrap .i64 ((IntKind.wrap .i64 ((i : Int) - 1)).tdiv 2) = (((i - 1) / 2 : Nat) : Int) ∨ ¬ i ≤ maxStr := by
  by_cases hm : i ≤ maxStr
  · left
    unfold maxStr at hm
    rw [wrap_i64 ((i : Int) - 1) (by omega) (by omega), show (i : Int) - 1 = ((i - 1 : Nat) : Int) by omega, show ((i - 1 : Nat) : Int).tdiv 2 = (((i - 1) / 2 : Nat) : Int) from rfl, wrap_i64 _ (by omega) (by omega)]
  · exact .inr hm

theorem got42 : Try.prog.funcs[4]? = some Try.f4 := by kernel_rfl
theorem meets42 : Meets Try.prog 4 (detS oAdd) := by
  refine meets_of_tri got42 rfl (n := 72) rfl (rs := []) rfl ?_
  rintro args objs Q ⟨d, os, hd, hQ⟩
  unfold oAdd at hd
  split at hd
  · rename_i xs o
    cases hq : decQ o with
    | none => rw [hq] at hd; cases hd
    | some l =>
      cases hx : decDue xs with
      | none => rw [hq, hx] at hd; cases hd
      | some du =>
        rw [hq, hx] at hd
        simp only [Option.bind_some] at hd
        split at hd
        · rename_i hlen
          cases hd
          obtain ⟨es, rfl, hes⟩ := decQ_eq hq
          have := decDue_eq hx
          subst this
          refine seq_run ok0 rfl (by repeat (first | with_reducible exact runf_nil | refine runf_cons (by simp only [runf, xstep, stepf, stepx, evsA, qev, St.ev, St.put, St.with, D.cells, D.cell, D.int, boxA, qload, cellsAt, qmk, C.cpy, TK.agg, qnil, qfieldAddr, qpart, qfield, qindexAddr, qindex, qpick, qint, qshift, qstr, isEq, qeq, isShift, qbin, eqC, eqCs, qun, qconv, qbounds, qslice, qlen, qext, omap, q2, qbuiltin, liveR, C.st, C.cp, C.dat, storeA, putCells, constD, constC, List.getElem?_cons_zero, List.getElem?_cons_succ, List.set_cons_zero, List.set_cons_succ, List.replicate, List.length_cons, List.length_nil, List.cons_append, List.nil_append, List.append_nil, List.map_nil, List.map_cons, List.all_cons, List.all_nil, List.take_succ_cons, List.take_zero, List.drop_succ_cons, List.drop_zero, List.singleton_append, Option.bind_some, Option.bind_none, Option.map_some, Option.map_none, Bool.and_true, Bool.true_and, Nat.reduceAdd, Nat.reduceSub, Nat.reduceMul, Nat.reduceEqDiff, reduceIte, if_true, if_false, and_self, and_true, true_and, decide_true, decide_false, Bool.not_true, Bool.not_false, cond_true, cond_false, forall_const, List.getElem?_toArray, Option.some.injEq, ne_eq, not_false_eq_true, Array.toList, reduceCtorEq, Int.reduceLT, Int.reduceLE, Int.reduceToNat, Nat.reduceLeDiff, Nat.reduceLT, Nat.le_refl, Nat.reduceBNe, Nat.reduceBEq, Bool.false_eq_true, implies_true, Nat.add_zero, Nat.zero_add, bne_self_eq_false, beq_self_eq_true, Bool.and_self, Bool.or_true, Bool.or_false, Bool.true_or, Bool.false_or, Bool.false_and, Bool.and_false, due]; rfl) ?_)) ?_
          refine seq_in (seq_run ok0 rfl (by repeat (first | with_reducible exact runf_nil | refine runf_cons (by simp only [runf, xstep, stepf, stepx, evsA, qev, St.ev, St.put, St.with, D.cells, D.cell, D.int, boxA, qload, cellsAt, qmk, C.cpy, TK.agg, qnil, qfieldAddr, qpart, qfield, qindexAddr, qindex, qpick, qint, qshift, qstr, isEq, qeq, isShift, qbin, eqC, eqCs, qun, qconv, qbounds, qslice, qlen, qext, omap, q2, qbuiltin, liveR, C.st, C.cp, C.dat, storeA, putCells, constD, constC, List.getElem?_cons_zero, List.getElem?_cons_succ, List.set_cons_zero, List.set_cons_succ, List.replicate, List.length_cons, List.length_nil, List.cons_append, List.nil_append, List.append_nil, List.map_nil, List.map_cons, List.all_cons, List.all_nil, List.take_succ_cons, List.take_zero, List.drop_succ_cons, List.drop_zero, List.singleton_append, Option.bind_some, Option.bind_none, Option.map_some, Option.map_none, Bool.and_true, Bool.true_and, Nat.reduceAdd, Nat.reduceSub, Nat.reduceMul, Nat.reduceEqDiff, reduceIte, if_true, if_false, and_self, and_true, true_and, decide_true, decide_false, Bool.not_true, Bool.not_false, cond_true, cond_false, forall_const, List.getElem?_toArray, Option.some.injEq, ne_eq, not_false_eq_true, Array.toList, reduceCtorEq, Int.reduceLT, Int.reduceLE, Int.reduceToNat, Nat.reduceLeDiff, Nat.reduceLT, Nat.le_refl, Nat.reduceBNe, Nat.reduceBEq, Bool.false_eq_true, implies_true, Nat.add_zero, Nat.zero_add, bne_self_eq_false, beq_self_eq_true, Bool.and_self, Bool.or_true, Bool.or_false, Bool.true_or, Bool.false_or, Bool.false_and, Bool.and_false, tk24]; rfl) ?_)) ?_)
          refine tri_cond rfl (fun h => by cases h) (fun _ => then_skip ?_)
          refine tri_open 0 0 0 2 (open_q hes) ?_
          have htake : (l.map due).take l.length = l.map due := List.take_of_length_le (by simp)
          refine seq_any mixed okC rfl (by kernel_rfl) (by repeat (first | with_reducible exact runf_nil | refine runf_cons (by simp only [runf, xstep, stepf, stepx, evsA, qev, St.ev, St.put, St.with, D.cells, D.cell, D.int, boxA, qload, cellsAt, qmk, C.cpy, TK.agg, qnil, qfieldAddr, qpart, qfield, qindexAddr, qindex, qpick, qint, qshift, qstr, isEq, qeq, isShift, qbin, eqC, eqCs, qun, qconv, qbounds, qslice, qlen, qext, omap, q2, qbuiltin, liveR, C.st, C.cp, C.dat, storeA, putCells, constD, constC, List.getElem?_cons_zero, List.getElem?_cons_succ, List.set_cons_zero, List.set_cons_succ, List.replicate, List.length_cons, List.length_nil, List.cons_append, List.nil_append, List.append_nil, List.map_nil, List.map_cons, List.all_cons, List.all_nil, List.take_succ_cons, List.take_zero, List.drop_succ_cons, List.drop_zero, List.singleton_append, Option.bind_some, Option.bind_none, Option.map_some, Option.map_none, Bool.and_true, Bool.true_and, Nat.reduceAdd, Nat.reduceSub, Nat.reduceMul, Nat.reduceEqDiff, reduceIte, if_true, if_false, and_self, and_true, true_and, decide_true, decide_false, Bool.not_true, Bool.not_false, cond_true, cond_false, forall_const, List.getElem?_toArray, Option.some.injEq, ne_eq, not_false_eq_true, Array.toList, reduceCtorEq, Int.reduceLT, Int.reduceLE, Int.reduceToNat, Nat.reduceLeDiff, Nat.reduceLT, Nat.le_refl, Nat.reduceBNe, Nat.reduceBEq, Bool.false_eq_true, implies_true, Nat.add_zero, Nat.zero_add, bne_self_eq_false, beq_self_eq_true, Bool.and_self, Bool.or_true, Bool.or_false, Bool.true_or, Bool.false_or, Bool.false_and, Bool.and_false, htake, hlen, due, tk24, tk36, tk23, tk31, tsz31, tsz23, tz23, bo23, buildSliceA, partsA, fillA, reps, chop, tkApp, appendA, srcRows, srcOther, D.kill, D.no, C.no, C.kill, killH, Root.kill, C.nos]; rfl) ?_)) ?_
          refine seq_run okC rfl (by repeat (first | with_reducible exact runf_nil | refine runf_cons (by simp only [runf, xstep, stepf, stepx, evsA, qev, St.ev, St.put, St.with, D.cells, D.cell, D.int, boxA, qload, cellsAt, qmk, C.cpy, TK.agg, qnil, qfieldAddr, qpart, qfield, qindexAddr, qindex, qpick, qint, qshift, qstr, isEq, qeq, isShift, qbin, eqC, eqCs, qun, qconv, qbounds, qslice, qlen, qext, omap, q2, qbuiltin, liveR, C.st, C.cp, C.dat, storeA, putCells, constD, constC, List.getElem?_cons_zero, List.getElem?_cons_succ, List.set_cons_zero, List.set_cons_succ, List.replicate, List.length_cons, List.length_nil, List.cons_append, List.nil_append, List.append_nil, List.map_nil, List.map_cons, List.all_cons, List.all_nil, List.take_succ_cons, List.take_zero, List.drop_succ_cons, List.drop_zero, List.singleton_append, Option.bind_some, Option.bind_none, Option.map_some, Option.map_none, Bool.and_true, Bool.true_and, Nat.reduceAdd, Nat.reduceSub, Nat.reduceMul, Nat.reduceEqDiff, reduceIte, if_true, if_false, and_self, and_true, true_and, decide_true, decide_false, Bool.not_true, Bool.not_false, cond_true, cond_false, forall_const, List.getElem?_toArray, Option.some.injEq, ne_eq, not_false_eq_true, Array.toList, reduceCtorEq, Int.reduceLT, Int.reduceLE, Int.reduceToNat, Nat.reduceLeDiff, Nat.reduceLT, Nat.le_refl, Nat.reduceBNe, Nat.reduceBEq, Bool.false_eq_true, implies_true, Nat.add_zero, Nat.zero_add, bne_self_eq_false, beq_self_eq_true, Bool.and_self, Bool.or_true, Bool.or_false, Bool.true_or, Bool.false_or, Bool.false_and, Bool.and_false, tk24, tk36, tk31, tsz31, show l.length + 1 ≤ maxStr from len_max hlen]; rfl) ?_)) ?_
          refine tri_block ?_
          refine tri_loop_le (fun n A => ∃ (i : Nat) (m : List (Int × Int)), n = i ∧ i < m.length ∧ m.length = l.length + 1 ∧ (∃ f, i < f ∧ siftUp f m i = addQ l du) ∧
            A = ⟨[.c (.p 0 0 0), .top, .top, .top, dI i, .top, .top, .top, .top, .top, .top, .top, .top, .top, .top, .top, .top, .top, .top, .top, .top, .top, .top, .top, .top, .top, .top, .top, .top, .top, .top, .top, .top, .top, .top, .top, .top, .top, .top, .top, .top, .top, .top, .top, .top, .top, .top, .top, .top, .top, .top, .top, .top, .top, .top, .top, .top, .top, .top, .top, .top, .top, .top, .top, .top, .top, .top, .top, .top, .top, .top, .top], [some ⟨false, 1, [[.h 2 0 (l.length + 1)]]⟩, some ⟨false, 2, [due du]⟩, some ⟨true, 2, m.map due⟩, some ⟨true, 2, [due du]⟩]⟩)
            l.length (B := ⟨[.c (.p 0 0 0), .top, .top, .top, dI l.length, .top, .top, .top, .top, .top, .top, .top, .top, .top, .top, .top, .top, .top, .top, .top, .top, .top, .top, .top, .top, .top, .top, .top, .top, .top, .top, .top, .top, .top, .top, .top, .top, .top, .top, .top, .top, .top, .top, .top, .top, .top, .top, .top, .top, .top, .top, .top, .top, .top, .top, .top, .top, .top, .top, .top, .top, .top, .top, .top, .top, .top, .top, .top, .top, .top, .top, .top], [some ⟨false, 1, [[.h 2 0 (l.length + 1)]]⟩, some ⟨false, 2, [due du]⟩, some ⟨true, 2, (l ++ [du]).map due⟩, some ⟨true, 2, [due du]⟩]⟩) ?_ ⟨l.length, l ++ [du], rfl, by simp, by simp, ⟨l.length + 1, by omega, rfl⟩, rfl⟩ ?_
          · have hlast : IntKind.wrap .i64 (((l.length + 1 : Nat) : Int) - 1) = (l.length : Int) := by
              have := len_max hlen
              unfold maxStr at this
              rw [wrap_i64 _ (by omega) (by omega)]; omega
            rw [hlast]
            refine ⟨by repeat (first | exact .nil | refine .same ?_ | refine .top ?_), ?_⟩
            simp [due]
          rintro i A ⟨_, m, rfl, him, hml, ⟨f, hif, hf⟩, rfl⟩
          have hi8 : i < maxStr := by have := len_max hlen; unfold maxStr at *; omega
          refine seq_in (seq_run okC rfl (by repeat (first | with_reducible exact runf_nil | refine runf_cons (by simp only [runf, xstep, stepf, stepx, evsA, qev, St.ev, St.put, St.with, D.cells, D.cell, D.int, boxA, qload, cellsAt, qmk, C.cpy, TK.agg, qnil, qfieldAddr, qpart, qfield, qindexAddr, qindex, qpick, qint, qshift, qstr, isEq, qeq, isShift, qbin, eqC, eqCs, qun, qconv, qbounds, qslice, qlen, qext, omap, q2, qbuiltin, liveR, C.st, C.cp, C.dat, storeA, putCells, constD, constC, List.getElem?_cons_zero, List.getElem?_cons_succ, List.set_cons_zero, List.set_cons_succ, List.replicate, List.length_cons, List.length_nil, List.cons_append, List.nil_append, List.append_nil, List.map_nil, List.map_cons, List.all_cons, List.all_nil, List.take_succ_cons, List.take_zero, List.drop_succ_cons, List.drop_zero, List.singleton_append, Option.bind_some, Option.bind_none, Option.map_some, Option.map_none, Bool.and_true, Bool.true_and, Nat.reduceAdd, Nat.reduceSub, Nat.reduceMul, Nat.reduceEqDiff, reduceIte, if_true, if_false, and_self, and_true, true_and, decide_true, decide_false, Bool.not_true, Bool.not_false, cond_true, cond_false, forall_const, List.getElem?_toArray, Option.some.injEq, ne_eq, not_false_eq_true, Array.toList, reduceCtorEq, Int.reduceLT, Int.reduceLE, Int.reduceToNat, Nat.reduceLeDiff, Nat.reduceLT, Nat.le_refl, Nat.reduceBNe, Nat.reduceBEq, Bool.false_eq_true, implies_true, Nat.add_zero, Nat.zero_add, bne_self_eq_false, beq_self_eq_true, Bool.and_self, Bool.or_true, Bool.or_false, Bool.true_or, Bool.false_or, Bool.false_and, Bool.and_false, dI]; rfl) ?_)) ?_)
          refine tri_cond rfl (fun h => then_skip ?_) (fun h => ?_)
          · have hi0 : 0 < i := by have := of_decide_eq_true h; omega
            have hwr : IntKind.wrap .i64 ((IntKind.wrap .i64 ((i : Int) - 1)).tdiv 2) = (((i - 1) / 2 : Nat) : Int) := (half i hi0).resolve_right (by omega)
            obtain ⟨y, hy⟩ : ∃ y, m[i]? = some y := ⟨m[i], List.getElem?_eq_getElem him⟩
            obtain ⟨x, hx⟩ : ∃ x, m[(i - 1) / 2]? = some x := ⟨m[(i - 1) / 2]'(by omega), List.getElem?_eq_getElem _⟩
            have hord : ∀ a b, pOrder [.agg (due a), .agg (due b)] = some (dI (ordD a b)) := fun a b => rfl
            refine tri_block ?_
            refine seq_run okC rfl (by repeat (first | with_reducible exact runf_nil | refine runf_cons (by simp only [runf, xstep, stepf, stepx, evsA, qev, St.ev, St.put, St.with, D.cells, D.cell, D.int, boxA, qload, cellsAt, qmk, C.cpy, TK.agg, qnil, qfieldAddr, qpart, qfield, qindexAddr, qindex, qpick, qint, qshift, qstr, isEq, qeq, isShift, qbin, eqC, eqCs, qun, qconv, qbounds, qslice, qlen, qext, omap, q2, qbuiltin, liveR, C.st, C.cp, C.dat, storeA, putCells, constD, constC, List.getElem?_cons_zero, List.getElem?_cons_succ, List.set_cons_zero, List.set_cons_succ, List.replicate, List.length_cons, List.length_nil, List.cons_append, List.nil_append, List.append_nil, List.map_nil, List.map_cons, List.all_cons, List.all_nil, List.take_succ_cons, List.take_zero, List.drop_succ_cons, List.drop_zero, List.singleton_append, Option.bind_some, Option.bind_none, Option.map_some, Option.map_none, Bool.and_true, Bool.true_and, Nat.reduceAdd, Nat.reduceSub, Nat.reduceMul, Nat.reduceEqDiff, reduceIte, if_true, if_false, and_self, and_true, true_and, decide_true, decide_false, Bool.not_true, Bool.not_false, cond_true, cond_false, forall_const, List.getElem?_toArray, Option.some.injEq, ne_eq, not_false_eq_true, Array.toList, reduceCtorEq, Int.reduceLT, Int.reduceLE, Int.reduceToNat, Nat.reduceLeDiff, Nat.reduceLT, Nat.le_refl, Nat.reduceBNe, Nat.reduceBEq, Bool.false_eq_true, implies_true, Nat.add_zero, Nat.zero_add, bne_self_eq_false, beq_self_eq_true, Bool.and_self, Bool.or_true, Bool.or_false, Bool.true_or, Bool.false_or, Bool.false_and, Bool.and_false, dI, hwr, show ((2 : Int) = 0) = False from eq_false (by decide)]; rfl) ?_)) ?_
            refine seq_in (seq_any mixed okC rfl (by kernel_rfl) (by repeat (first | with_reducible exact runf_nil | refine runf_cons (by simp only [runf, xstep, stepf, stepx, evsA, qev, St.ev, St.put, St.with, D.cells, D.cell, D.int, boxA, qload, cellsAt, qmk, C.cpy, TK.agg, qnil, qfieldAddr, qpart, qfield, qindexAddr, qindex, qpick, qint, qshift, qstr, isEq, qeq, isShift, qbin, eqC, eqCs, qun, qconv, qbounds, qslice, qlen, qext, omap, q2, qbuiltin, liveR, C.st, C.cp, C.dat, storeA, putCells, constD, constC, List.getElem?_cons_zero, List.getElem?_cons_succ, List.set_cons_zero, List.set_cons_succ, List.replicate, List.length_cons, List.length_nil, List.cons_append, List.nil_append, List.append_nil, List.map_nil, List.map_cons, List.all_cons, List.all_nil, List.take_succ_cons, List.take_zero, List.drop_succ_cons, List.drop_zero, List.singleton_append, Option.bind_some, Option.bind_none, Option.map_some, Option.map_none, Bool.and_true, Bool.true_and, Nat.reduceAdd, Nat.reduceSub, Nat.reduceMul, Nat.reduceEqDiff, reduceIte, if_true, if_false, and_self, and_true, true_and, decide_true, decide_false, Bool.not_true, Bool.not_false, cond_true, cond_false, forall_const, List.getElem?_toArray, Option.some.injEq, ne_eq, not_false_eq_true, Array.toList, reduceCtorEq, Int.reduceLT, Int.reduceLE, Int.reduceToNat, Nat.reduceLeDiff, Nat.reduceLT, Nat.le_refl, Nat.reduceBNe, Nat.reduceBEq, Bool.false_eq_true, implies_true, Nat.add_zero, Nat.zero_add, bne_self_eq_false, beq_self_eq_true, Bool.and_self, Bool.or_true, Bool.or_false, Bool.true_or, Bool.false_or, Bool.false_and, Bool.and_false, dI, tk24, tk36, tk31, tk23, tsz31, tsz23, hwr, List.length_map, Int.toNat_natCast, List.getElem?_map, hx, hy, Int.natCast_nonneg, hord, due_take, due_cpy, due_len, due_cp, due_arg, callP, FsC, argDs, argD, argCs, argC, D.ni, settle, settle1, settleC, List.isEmpty_nil,
                show ((((i - 1) / 2 : Nat) : Int) < ((l.length + 1 : Nat) : Int)) = True from eq_true (by omega), show ((i : Int) < ((l.length + 1 : Nat) : Int)) = True from eq_true (by omega)]; rfl) ?_)) ?_)
            have hpl : (i - 1) / 2 < m.length := by omega
            have hne : (i - 1) / 2 ≠ i := by omega
            refine tri_cond rfl (fun h => ?_) (fun h => then_skip ?_)
            · -- in order
              have hle : ordD x y ≤ 0 := of_decide_eq_true h
              have hm : m = addQ l du := by
                rw [← hf]
                cases f with
                | zero => omega
                | succ f => simp only [siftUp, if_neg (show ¬ i = 0 by omega), hx, hy, if_pos hle]
              refine tri_close 0 0 0 (by simp only [closeA, runf, xstep, stepf, stepx, evsA, qev, St.ev, St.put, St.with, D.cells, D.cell, D.int, boxA, qload, cellsAt, qmk, C.cpy, TK.agg, qnil, qfieldAddr, qpart, qfield, qindexAddr, qindex, qpick, qint, qshift, qstr, isEq, qeq, isShift, qbin, eqC, eqCs, qun, qconv, qbounds, qslice, qlen, qext, omap, q2, qbuiltin, liveR, C.st, C.cp, C.dat, storeA, putCells, constD, constC, List.getElem?_cons_zero, List.getElem?_cons_succ, List.set_cons_zero, List.set_cons_succ, List.replicate, List.length_cons, List.length_nil, List.cons_append, List.nil_append, List.append_nil, List.map_nil, List.map_cons, List.all_cons, List.all_nil, List.take_succ_cons, List.take_zero, List.drop_succ_cons, List.drop_zero, List.singleton_append, Option.bind_some, Option.bind_none, Option.map_some, Option.map_none, Bool.and_true, Bool.true_and, Nat.reduceAdd, Nat.reduceSub, Nat.reduceMul, Nat.reduceEqDiff, reduceIte, if_true, if_false, and_self, and_true, true_and, decide_true, decide_false, Bool.not_true, Bool.not_false, cond_true, cond_false, forall_const, List.getElem?_toArray, Option.some.injEq, ne_eq, not_false_eq_true, Array.toList, reduceCtorEq, Int.reduceLT, Int.reduceLE, Int.reduceToNat, Nat.reduceLeDiff, Nat.reduceLT, Nat.le_refl, Nat.reduceBNe, Nat.reduceBEq, Bool.false_eq_true, implies_true, Nat.add_zero, Nat.zero_add, bne_self_eq_false, beq_self_eq_true, Bool.and_self, Bool.or_true, Bool.or_false, Bool.true_or, Bool.false_or, Bool.false_and, Bool.and_false, List.length_map, hml]; rfl) ?_
              refine tri_exit ?_
              refine ends_norm rfl rfl .nil (by simp) ?_
              rw [← hm] at hQ
              exact hQ
            · -- swapped
              have hle : ¬ ordD x y ≤ 0 := of_decide_eq_false h
              refine seq_any mixed okC rfl (by kernel_rfl) (by repeat (first | with_reducible exact runf_nil | refine runf_cons (by simp only [runf, xstep, stepf, stepx, evsA, qev, St.ev, St.put, St.with, D.cells, D.cell, D.int, boxA, qload, cellsAt, qmk, C.cpy, TK.agg, qnil, qfieldAddr, qpart, qfield, qindexAddr, qindex, qpick, qint, qshift, qstr, isEq, qeq, isShift, qbin, eqC, eqCs, qun, qconv, qbounds, qslice, qlen, qext, omap, q2, qbuiltin, liveR, C.st, C.cp, C.dat, storeA, putCells, constD, constC, List.getElem?_cons_zero, List.getElem?_cons_succ, List.set_cons_zero, List.set_cons_succ, List.replicate, List.length_cons, List.length_nil, List.cons_append, List.nil_append, List.append_nil, List.map_nil, List.map_cons, List.all_cons, List.all_nil, List.take_succ_cons, List.take_zero, List.drop_succ_cons, List.drop_zero, List.singleton_append, Option.bind_some, Option.bind_none, Option.map_some, Option.map_none, Bool.and_true, Bool.true_and, Nat.reduceAdd, Nat.reduceSub, Nat.reduceMul, Nat.reduceEqDiff, reduceIte, if_true, if_false, and_self, and_true, true_and, decide_true, decide_false, Bool.not_true, Bool.not_false, cond_true, cond_false, forall_const, List.getElem?_toArray, Option.some.injEq, ne_eq, not_false_eq_true, Array.toList, reduceCtorEq, Int.reduceLT, Int.reduceLE, Int.reduceToNat, Nat.reduceLeDiff, Nat.reduceLT, Nat.le_refl, Nat.reduceBNe, Nat.reduceBEq, Bool.false_eq_true, implies_true, Nat.add_zero, Nat.zero_add, bne_self_eq_false, beq_self_eq_true, Bool.and_self, Bool.or_true, Bool.or_false, Bool.true_or, Bool.false_or, Bool.false_and, Bool.and_false, tk24, tk36, tk31, tk23, tsz31, tsz23, List.length_map, Int.toNat_natCast, List.getElem?_map, hx, hy, Int.natCast_nonneg, due_take, due_cpy, due_len, due_cp, due_st, due_dat, due_drop, List.length_set, List.getElem?_set_ne hne, show ((((i - 1) / 2 : Nat) : Int) < ((l.length + 1 : Nat) : Int)) = True from eq_true (by omega), show ((i : Int) < ((l.length + 1 : Nat) : Int)) = True from eq_true (by omega)]; rfl) ?_)) ?_
              refine run_end okC rfl (by repeat (first | with_reducible exact runf_nil | refine runf_cons (by simp only [runf, xstep, stepf, stepx, evsA, qev, St.ev, St.put, St.with, D.cells, D.cell, D.int, boxA, qload, cellsAt, qmk, C.cpy, TK.agg, qnil, qfieldAddr, qpart, qfield, qindexAddr, qindex, qpick, qint, qshift, qstr, isEq, qeq, isShift, qbin, eqC, eqCs, qun, qconv, qbounds, qslice, qlen, qext, omap, q2, qbuiltin, liveR, C.st, C.cp, C.dat, storeA, putCells, constD, constC, List.getElem?_cons_zero, List.getElem?_cons_succ, List.set_cons_zero, List.set_cons_succ, List.replicate, List.length_cons, List.length_nil, List.cons_append, List.nil_append, List.append_nil, List.map_nil, List.map_cons, List.all_cons, List.all_nil, List.take_succ_cons, List.take_zero, List.drop_succ_cons, List.drop_zero, List.singleton_append, Option.bind_some, Option.bind_none, Option.map_some, Option.map_none, Bool.and_true, Bool.true_and, Nat.reduceAdd, Nat.reduceSub, Nat.reduceMul, Nat.reduceEqDiff, reduceIte, if_true, if_false, and_self, and_true, true_and, decide_true, decide_false, Bool.not_true, Bool.not_false, cond_true, cond_false, forall_const, List.getElem?_toArray, Option.some.injEq, ne_eq, not_false_eq_true, Array.toList, reduceCtorEq, Int.reduceLT, Int.reduceLE, Int.reduceToNat, Nat.reduceLeDiff, Nat.reduceLT, Nat.le_refl, Nat.reduceBNe, Nat.reduceBEq, Bool.false_eq_true, implies_true, Nat.add_zero, Nat.zero_add, bne_self_eq_false, beq_self_eq_true, Bool.and_self, Bool.or_true, Bool.or_false, Bool.true_or, Bool.false_or, Bool.false_and, Bool.and_false]; rfl) ?_)) ?_
              have hsw : swapQ m ((i - 1) / 2) i = (m.set ((i - 1) / 2) y).set i x := by simp only [swapQ, hx, hy]
              refine ⟨(i - 1) / 2, by omega, ⟨[.c (.p 0 0 0), .top, .top, .top, dI ((i - 1) / 2 : Nat), .top, .top, .top, .top, .top, .top, .top, .top, .top, .top, .top, .top, .top, .top, .top, .top, .top, .top, .top, .top, .top, .top, .top, .top, .top, .top, .top, .top, .top, .top, .top, .top, .top, .top, .top, .top, .top, .top, .top, .top, .top, .top, .top, .top, .top, .top, .top, .top, .top, .top, .top, .top, .top, .top, .top, .top, .top, .top, .top, .top, .top, .top, .top, .top, .top, .top, .top], [some ⟨false, 1, [[.h 2 0 (l.length + 1)]]⟩, some ⟨false, 2, [due du]⟩, some ⟨true, 2, (swapQ m ((i - 1) / 2) i).map due⟩, some ⟨true, 2, [due du]⟩]⟩, ?_,
                (i - 1) / 2, swapQ m ((i - 1) / 2) i, rfl, by rw [hsw]; simpa using hpl, by rw [hsw]; simpa using hml, ⟨f - 1, by omega, ?_⟩, rfl⟩
              · refine ⟨by repeat (first | exact .nil | refine .same ?_ | refine .top ?_), ?_⟩
                rw [hsw, map_set', map_set']
              · rw [← hf]
                cases f with
                | zero => omega
                | succ f => simp only [siftUp, if_neg (show ¬ i = 0 by omega), hx, hy, if_neg hle]; rfl
          · have hi0 : i = 0 := by have := of_decide_eq_false h; omega
            subst hi0
            have hm : m = addQ l du := by
              rw [← hf]
              cases f with
              | zero => omega
              | succ f => simp only [siftUp, if_true]
            refine tri_close 0 0 0 (by simp only [closeA, runf, xstep, stepf, stepx, evsA, qev, St.ev, St.put, St.with, D.cells, D.cell, D.int, boxA, qload, cellsAt, qmk, C.cpy, TK.agg, qnil, qfieldAddr, qpart, qfield, qindexAddr, qindex, qpick, qint, qshift, qstr, isEq, qeq, isShift, qbin, eqC, eqCs, qun, qconv, qbounds, qslice, qlen, qext, omap, q2, qbuiltin, liveR, C.st, C.cp, C.dat, storeA, putCells, constD, constC, List.getElem?_cons_zero, List.getElem?_cons_succ, List.set_cons_zero, List.set_cons_succ, List.replicate, List.length_cons, List.length_nil, List.cons_append, List.nil_append, List.append_nil, List.map_nil, List.map_cons, List.all_cons, List.all_nil, List.take_succ_cons, List.take_zero, List.drop_succ_cons, List.drop_zero, List.singleton_append, Option.bind_some, Option.bind_none, Option.map_some, Option.map_none, Bool.and_true, Bool.true_and, Nat.reduceAdd, Nat.reduceSub, Nat.reduceMul, Nat.reduceEqDiff, reduceIte, if_true, if_false, and_self, and_true, true_and, decide_true, decide_false, Bool.not_true, Bool.not_false, cond_true, cond_false, forall_const, List.getElem?_toArray, Option.some.injEq, ne_eq, not_false_eq_true, Array.toList, reduceCtorEq, Int.reduceLT, Int.reduceLE, Int.reduceToNat, Nat.reduceLeDiff, Nat.reduceLT, Nat.le_refl, Nat.reduceBNe, Nat.reduceBEq, Bool.false_eq_true, implies_true, Nat.add_zero, Nat.zero_add, bne_self_eq_false, beq_self_eq_true, Bool.and_self, Bool.or_true, Bool.or_false, Bool.true_or, Bool.false_or, Bool.false_and, Bool.and_false, List.length_map, hml]; rfl) ?_
            refine tri_exit ?_
            refine ends_norm rfl rfl .nil (by simp) ?_
            rw [← hm] at hQ
            exact hQ
        · cases hd
  · cases hd

end Go.Dl
