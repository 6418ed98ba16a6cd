/- The walks of word, value. -/
import Derived.Test.YtbefgbljlmnfoaaC17
namespace Go.Dl
open Go.RowKit
open Go.Proofs
set_option linter.unusedSimpArgs false
set_option linter.unusedVariables false

theorem tokC_inj {x y : Tok} (h : tokC x = tokC y) : x = y := by
  obtain ⟨a, b, c⟩ := x
  obtain ⟨a', b', c'⟩ := y
  simp only [tokC, List.cons.injEq, C.v.injEq, Value.int.injEq, Value.string.injEq, true_and, and_true] at h
  obtain ⟨rfl, rfl, rfl⟩ := h; rfl
theorem toks_inj : ∀ {l l' : List Tok}, l.map tokC = l'.map tokC → l = l'
  | [], [], _ => rfl
  | [], _ :: _, h => by simp at h
  | _ :: _, [], h => by simp at h
  | a :: l, b :: l', h => by
    simp only [List.map_cons, List.cons.injEq] at h
    rw [tokC_inj h.1, toks_inj h.2]
theorem pa_inj {l l' : List Tok} {i i' : Nat} {e e' bad bad' : Int} (h : paObj l i e bad = paObj l' i' e' bad') : l = l' ∧ i = i' ∧ e = e' ∧ bad = bad' := by
  simp only [paObj, Obj.mk.injEq, List.cons.injEq, C.s.injEq, C.v.injEq, Value.int.injEq, true_and, and_true] at h
  exact ⟨toks_inj h.1, by omega, h.2.2.1, h.2.2.2⟩
theorem pa_inj4 {β : Type} {f : List Tok × Nat × Int × Int → β} (x y : List Tok × Nat × Int × Int)
    (h : ((([.c (.p 0 0 0)], [paObj x.1 x.2.1 x.2.2.1 x.2.2.2]) : List D × List Obj) = ([.c (.p 0 0 0)], [paObj y.1 y.2.1 y.2.2.1 y.2.2.2]))) : f x = f y := by
  simp only [Prod.mk.injEq, List.cons.injEq, and_true, true_and] at h
  obtain ⟨a, b, c, d⟩ := x
  obtain ⟨a', b', c', d'⟩ := y
  obtain ⟨h1, h2, h3, h4⟩ := pa_inj h
  dsimp only at h1 h2 h3 h4
  subst h1 h2 h3 h4; rfl

theorem float_at {l : List Tok} (i : Nat) (e bad : Int) (h : paPre l i) : oFloat [.c (.p 0 0 0)] [⟨4, [[.s false 3 (l.map tokC), .v (.int .i64 i), .v (.int .i64 e), .v (.int .i64 bad)]]⟩] =
    some (.agg (valC (floatF l i e bad).1), [⟨4, [[.s false 3 (l.map tokC), .v (.int .i64 (floatF l i e bad).2.1), .v (.int .i64 e), .v (.int .i64 (floatF l i e bad).2.2)]]⟩]) :=
  famO_at (fun x y h => pa_inj4 x y h) (l, i, e, bad) h rfl
theorem count_at {l : List Tok} (i : Nat) (e bad : Int) (h : paPre l i) : oCount [.c (.p 0 0 0)] [⟨4, [[.s false 3 (l.map tokC), .v (.int .i64 i), .v (.int .i64 e), .v (.int .i64 bad)]]⟩] =
    some (.c (.v (.int .u64 (countF l i e bad).1)), [⟨4, [[.s false 3 (l.map tokC), .v (.int .i64 (countF l i e bad).2.1), .v (.int .i64 e), .v (.int .i64 (countF l i e bad).2.2)]]⟩]) :=
  famO_at (fun x y h => pa_inj4 x y h) (l, i, e, bad) h rfl
theorem number_at {l : List Tok} (i : Nat) (e bad : Int) (h : paPre l i) {r : Int × Nat × Int} (hr : numberF l i e bad = some r) : oNumber [.c (.p 0 0 0)] [⟨4, [[.s false 3 (l.map tokC), .v (.int .i64 i), .v (.int .i64 e), .v (.int .i64 bad)]]⟩] =
    some (.c (.v (.int .i64 r.1)), [⟨4, [[.s false 3 (l.map tokC), .v (.int .i64 r.2.1), .v (.int .i64 e), .v (.int .i64 r.2.2)]]⟩]) := by
  have := decPa_pa (e := e) (bad := bad) h.1 (show i ≤ 1000000 by have := h.1; have := h.2.1; omega)
  simp only [paObj] at this
  simp only [oNumber, this, Option.bind_some, hr, Option.map_some, paObj]

def nullW : ByteArray := ⟨#[110, 117, 108, 108]⟩
def trueW : ByteArray := ⟨#[116, 114, 117, 101]⟩
def falseW : ByteArray := ⟨#[102, 97, 108, 115, 101]⟩
def floatW : ByteArray := ⟨#[102, 108, 111, 97, 116]⟩
def wordF (l : List Tok) (i : Nat) (e bad : Int) (w : ByteArray) : Val × Nat × Int :=
  if strEq w nullW = true then (val0, i + 1, bad)
  else if strEq w trueW = true then ((1, true, 0, 0, noText), i + 1, bad)
  else if strEq w falseW = true then ((1, false, 0, 0, noText), i + 1, bad)
  else if strEq w floatW = true then floatF l (i + 1) e bad
  else (val0, i, failF l i e bad)

noncomputable def FsH1 : Fs := { pure := fun _ => none, objs := fun k => if k = 62 then some oFail else if k = 77 then some oFloat else none }
theorem okH1 : FsOK Try.prog FsH1 := by
  refine ⟨fun k f h => ?_, fun k f h => ?_⟩
  · cases h
  · simp only [FsH1] at h
    split at h
    · rename_i hk; subst hk; cases h; exact ⟨by kernel_rfl, meets62⟩
    split at h
    · rename_i hk; subst hk; cases h; exact ⟨by kernel_rfl, meets77⟩
    · cases h
noncomputable def oWord := famO (fun x : List Tok × Nat × Int × Int × ByteArray => paPre x.1 x.2.1 ∧ x.2.1 < x.1.length) (fun x => ([.c (.p 0 0 0), .c (.v (.string x.2.2.2.2))], [paObj x.1 x.2.1 x.2.2.1 x.2.2.2.1]))
  (fun x => (.agg (valC (wordF x.1 x.2.1 x.2.2.1 x.2.2.2.1 x.2.2.2.2).1), [paObj x.1 (wordF x.1 x.2.1 x.2.2.1 x.2.2.2.1 x.2.2.2.2).2.1 x.2.2.1 (wordF x.1 x.2.1 x.2.2.1 x.2.2.2.1 x.2.2.2.2).2.2]))
theorem meets64 : Meets Try.prog 64 (detS oWord) := by
  refine meets_famO (show Try.prog.funcs[64]? = some Try.f64 by kernel_rfl) rfl (n := 43) rfl (rs := [ResultVar.cell 4 39]) rfl ?_
  rintro ⟨l, i, e, bad, w⟩ ⟨⟨hl, hi, hsz⟩, hlt⟩ Q hQ
  dsimp only at hl hi hsz hQ hlt
  simp only [paObj] at hQ
  have hq1 : (i : Int) + 1 = ((i + 1 : Nat) : Int) := by omega
  have hA := float_at (l := l) (i + 1) e bad ⟨hl, by omega, hsz⟩
  have hF := fail_at hl i e bad hi
  have hlm : l.length ≤ maxStr := by unfold maxStr; omega
  refine seq_run okH1 rfl (by repeat (first | with_reducible exact runf_nil | refine runf_cons (by simp only [xstep, stepf, stepx, St.put, St.with, boxA, C.st, List.set_cons_zero, List.set_cons_succ, List.replicate, List.length_cons, List.length_nil, List.cons_append, List.nil_append, List.map_nil, List.map_cons, List.all_cons, List.all_nil, Option.bind_some, Option.map_some, Nat.reduceAdd, Nat.reduceSub, if_true, Option.some.injEq, Nat.zero_add, Bool.and_self, paObj, tz39]; rfl) ?_)) ?_
  refine seq_in ?_
  refine seq_run okH1 rfl (by repeat (first | with_reducible exact runf_nil | refine runf_cons (by simp only [xstep, stepf, stepx, qev, St.ev, St.put, List.getElem?_cons_zero, List.getElem?_cons_succ, List.set_cons_zero, List.set_cons_succ, Option.map_some, Option.some.injEq]; rfl) ?_)) ?_
  refine tri_block ?_
  refine seq_run okH1 rfl (by repeat (first | with_reducible exact runf_nil | refine runf_cons (by simp only [xstep, stepf, stepx, qev, St.ev, St.put, qstr, qbin, constD, constC, List.getElem?_cons_zero, List.getElem?_cons_succ, List.set_cons_zero, List.set_cons_succ, Option.map_some, Option.some.injEq]; rfl) ?_)) ?_
  refine tri_cond rfl (fun a0 => ?_) (fun a0 => ?_)
  ·
    refine seq_run okH1 rfl (by repeat (first | with_reducible exact runf_nil | refine runf_cons (by simp only [xstep, stepf, stepx, qev, St.ev, St.put, D.cells, qload, cellsAt, qmk, C.cpy, TK.agg, qnil, qfieldAddr, qint, qshift, isShift, qbin, liveR, C.st, C.cp, C.dat, storeA, putCells, constD, constC, List.getElem?_cons_zero, List.getElem?_cons_succ, List.set_cons_zero, List.set_cons_succ, List.length_cons, List.length_nil, List.cons_append, List.nil_append, List.map_nil, List.map_cons, List.all_cons, List.all_nil, List.take_succ_cons, List.take_zero, List.drop_succ_cons, List.drop_zero, Option.bind_some, Option.map_some, Option.map_none, Nat.reduceAdd, if_true, if_false, and_self, Option.some.injEq, ne_eq, not_false_eq_true, reduceCtorEq, Nat.reduceLeDiff, Bool.false_eq_true, implies_true, Nat.zero_add, Bool.and_self, hq1, tsz3, a0, tk80, tk3, show IntKind.i64.wrap (↑(i + 1) : Int) = _ from wrap_i64 _ (by omega) (by omega)]; rfl) ?_)) ?_
    refine seq_run okH1 rfl (by repeat (first | with_reducible exact runf_nil | refine runf_cons (by simp only [xstep, stepf, stepx, St.ev, St.put, D.cells, C.st, C.dat, storeA, putCells, List.getElem?_cons_zero, List.getElem?_cons_succ, List.set_cons_zero, List.set_cons_succ, List.length_cons, List.length_nil, List.nil_append, List.append_nil, List.all_cons, List.all_nil, List.take_zero, List.drop_succ_cons, List.drop_zero, Option.bind_some, Option.map_some, Nat.reduceAdd, if_true, and_self, Option.some.injEq, ne_eq, not_false_eq_true, reduceCtorEq, Nat.le_refl, Nat.reduceBNe, Bool.false_eq_true, implies_true, Nat.zero_add, Bool.and_self, tk39, tsz39, tsz2, tsz3, tsz4, tsz9, tsz37, buildA, partsA, fillA, tz39]; rfl) ?_)) ?_
    refine tri_ret (ends_ret (by simp only [outRes, resDs, resD, outD, outC, outCs, qload, cellsAt, qmk, C.cpy, TK.agg, C.cp, C.dat, List.getElem?_cons_zero, List.getElem?_cons_succ, List.length_cons, List.length_nil, List.append_nil, List.map_nil, List.map_cons, List.all_cons, List.all_nil, List.take_succ_cons, List.take_zero, List.drop_zero, Option.bind_some, Option.map_some, Nat.reduceAdd, if_true, and_self, Option.some.injEq, Nat.zero_add, Bool.and_self, tk39, tsz39]; rfl) rfl (by simp) (by simp) ?_)
    simp only [List.nil_append]
    (simp only [reduceIte, ↓reduceIte, wordF, valC, val0, noText, nullW, a0] at hQ; with_reducible exact hQ)
  ·
    refine seq_in ?_
    refine seq_run okH1 rfl (by repeat (first | with_reducible exact runf_nil | refine runf_cons (by simp only [xstep, stepf, stepx, qev, St.ev, St.put, qstr, qbin, constD, constC, List.getElem?_cons_zero, List.getElem?_cons_succ, List.set_cons_zero, List.set_cons_succ, Option.map_some, Option.some.injEq, a0]; rfl) ?_)) ?_
    refine tri_cond rfl (fun a1 => ?_) (fun a1 => ?_)
    ·
      refine then_skip ?_
      refine tri_cond rfl (fun a2 => ?_) (fun a2 => ?_)
      ·
        refine seq_run okH1 rfl (by repeat (first | with_reducible exact runf_nil | refine runf_cons (by simp only [xstep, stepf, stepx, qev, St.ev, St.put, D.cells, qload, cellsAt, qmk, C.cpy, TK.agg, qnil, qfieldAddr, qint, qshift, isShift, qbin, liveR, C.st, C.cp, C.dat, storeA, putCells, constD, constC, List.getElem?_cons_zero, List.getElem?_cons_succ, List.set_cons_zero, List.set_cons_succ, List.length_cons, List.length_nil, List.cons_append, List.nil_append, List.map_nil, List.map_cons, List.all_cons, List.all_nil, List.take_succ_cons, List.take_zero, List.drop_succ_cons, List.drop_zero, Option.bind_some, Option.map_some, Option.map_none, Nat.reduceAdd, if_true, if_false, and_self, Option.some.injEq, ne_eq, not_false_eq_true, reduceCtorEq, Nat.reduceLeDiff, Bool.false_eq_true, implies_true, Nat.zero_add, Bool.and_self, hq1, tsz3, a1, tk80, tk3, show IntKind.i64.wrap (↑(i + 1) : Int) = _ from wrap_i64 _ (by omega) (by omega)]; rfl) ?_)) ?_
        refine seq_run okH1 rfl (by repeat (first | with_reducible exact runf_nil | refine runf_cons (by simp only [xstep, stepf, stepx, qev, St.ev, St.put, D.cells, qstr, qbin, C.st, C.dat, storeA, putCells, constD, constC, List.getElem?_cons_zero, List.getElem?_cons_succ, List.set_cons_zero, List.set_cons_succ, List.length_cons, List.length_nil, List.cons_append, List.nil_append, List.append_nil, List.all_cons, List.all_nil, List.take_succ_cons, List.take_zero, List.drop_succ_cons, List.drop_zero, Option.bind_some, Option.map_some, Nat.reduceAdd, if_true, and_self, Option.some.injEq, ne_eq, not_false_eq_true, reduceCtorEq, Nat.reduceLeDiff, Nat.le_refl, Nat.reduceBNe, Bool.false_eq_true, implies_true, Nat.zero_add, Bool.and_self, tk39, tsz39, tsz2, tsz3, tsz4, tsz9, tsz37, buildA, partsA, fillA, placeSt, tz39, a1]; rfl) ?_)) ?_
        refine tri_ret (ends_ret (by simp only [outRes, resDs, resD, outD, outC, outCs, qload, cellsAt, qmk, C.cpy, TK.agg, C.cp, C.dat, List.getElem?_cons_zero, List.getElem?_cons_succ, List.length_cons, List.length_nil, List.append_nil, List.map_nil, List.map_cons, List.all_cons, List.all_nil, List.take_succ_cons, List.take_zero, List.drop_zero, Option.bind_some, Option.map_some, Nat.reduceAdd, if_true, and_self, Option.some.injEq, Nat.zero_add, Bool.and_self, tk39, tsz39]; rfl) rfl (by simp) (by simp) ?_)
        simp only [List.nil_append]
        (simp only [reduceIte, Bool.false_eq_true, ↓reduceIte, wordF, valC, noText, nullW, trueW, a0, a1] at hQ; with_reducible exact hQ)
      ·
        (simp only [a1, Bool.true_eq_false] at a2; done)
    ·
      refine run_end okH1 rfl (by repeat (first | with_reducible exact runf_nil | refine runf_cons (by simp only [xstep, stepf, stepx, qev, St.ev, St.put, qstr, qbin, constD, constC, List.getElem?_cons_zero, List.getElem?_cons_succ, List.set_cons_zero, List.set_cons_succ, Option.map_some, Option.some.injEq, a1]; rfl) ?_)) ?_
      show Tri _ _ _ _
      refine tri_cond rfl (fun a3 => ?_) (fun a3 => ?_)
      ·
        refine seq_run okH1 rfl (by repeat (first | with_reducible exact runf_nil | refine runf_cons (by simp only [xstep, stepf, stepx, qev, St.ev, St.put, D.cells, qload, cellsAt, qmk, C.cpy, TK.agg, qnil, qfieldAddr, qint, qshift, isShift, qbin, liveR, C.st, C.cp, C.dat, storeA, putCells, constD, constC, List.getElem?_cons_zero, List.getElem?_cons_succ, List.set_cons_zero, List.set_cons_succ, List.length_cons, List.length_nil, List.cons_append, List.nil_append, List.map_nil, List.map_cons, List.all_cons, List.all_nil, List.take_succ_cons, List.take_zero, List.drop_succ_cons, List.drop_zero, Option.bind_some, Option.map_some, Option.map_none, Nat.reduceAdd, if_true, if_false, and_self, Option.some.injEq, ne_eq, not_false_eq_true, reduceCtorEq, Nat.reduceLeDiff, Bool.false_eq_true, implies_true, Nat.zero_add, Bool.and_self, hq1, tsz3, a3, tk80, tk3, show IntKind.i64.wrap (↑(i + 1) : Int) = _ from wrap_i64 _ (by omega) (by omega)]; rfl) ?_)) ?_
        refine seq_run okH1 rfl (by repeat (first | with_reducible exact runf_nil | refine runf_cons (by simp only [xstep, stepf, stepx, qev, St.ev, St.put, D.cells, qstr, qbin, C.st, C.dat, storeA, putCells, constD, constC, List.getElem?_cons_zero, List.getElem?_cons_succ, List.set_cons_zero, List.set_cons_succ, List.length_cons, List.length_nil, List.cons_append, List.nil_append, List.append_nil, List.all_cons, List.all_nil, List.take_succ_cons, List.take_zero, List.drop_succ_cons, List.drop_zero, Option.bind_some, Option.map_some, Nat.reduceAdd, if_true, and_self, Option.some.injEq, ne_eq, not_false_eq_true, reduceCtorEq, Nat.reduceLeDiff, Nat.le_refl, Nat.reduceBNe, Bool.false_eq_true, implies_true, Nat.zero_add, Bool.and_self, tk39, tsz39, tsz2, tsz3, tsz4, tsz9, tsz37, buildA, partsA, fillA, placeSt, tz39, a1]; rfl) ?_)) ?_
        refine tri_ret (ends_ret (by simp only [outRes, resDs, resD, outD, outC, outCs, qload, cellsAt, qmk, C.cpy, TK.agg, C.cp, C.dat, List.getElem?_cons_zero, List.getElem?_cons_succ, List.length_cons, List.length_nil, List.append_nil, List.map_nil, List.map_cons, List.all_cons, List.all_nil, List.take_succ_cons, List.take_zero, List.drop_zero, Option.bind_some, Option.map_some, Nat.reduceAdd, if_true, and_self, Option.some.injEq, Nat.zero_add, Bool.and_self, tk39, tsz39]; rfl) rfl (by simp) (by simp) ?_)
        simp only [List.nil_append]
        (simp only [reduceIte, Bool.false_eq_true, ↓reduceIte, wordF, valC, noText, nullW, trueW, falseW, a0, a1, a3] at hQ; with_reducible exact hQ)
      ·
        refine seq_run okH1 rfl (by repeat (first | with_reducible exact runf_nil | refine runf_cons (by simp only [xstep, stepf, stepx, qev, St.ev, St.put, qstr, qbin, constD, constC, List.getElem?_cons_zero, List.getElem?_cons_succ, List.set_cons_zero, List.set_cons_succ, Option.map_some, Option.some.injEq, a3]; rfl) ?_)) ?_
        refine tri_cond rfl (fun a4 => ?_) (fun a4 => ?_)
        ·
          refine seq_run okH1 rfl (by repeat (first | with_reducible exact runf_nil | refine runf_cons (by simp only [xstep, stepf, stepx, qev, St.ev, St.put, D.cells, qload, cellsAt, qmk, C.cpy, TK.agg, qnil, qfieldAddr, qint, qshift, isShift, qbin, liveR, C.st, C.cp, C.dat, storeA, putCells, constD, constC, List.getElem?_cons_zero, List.getElem?_cons_succ, List.set_cons_zero, List.set_cons_succ, List.length_cons, List.length_nil, List.cons_append, List.nil_append, List.map_nil, List.map_cons, List.all_cons, List.all_nil, List.take_succ_cons, List.take_zero, List.drop_succ_cons, List.drop_zero, Option.bind_some, Option.map_some, Option.map_none, Nat.reduceAdd, if_true, if_false, and_self, Option.some.injEq, ne_eq, not_false_eq_true, reduceCtorEq, Nat.reduceLeDiff, Bool.false_eq_true, implies_true, Nat.zero_add, Bool.and_self, hq1, tsz3, a4, tk80, tk3, show IntKind.i64.wrap (↑(i + 1) : Int) = _ from wrap_i64 _ (by omega) (by omega)]; rfl) ?_)) ?_
          refine seq_run okH1 rfl (by repeat (first | with_reducible exact runf_nil | refine runf_cons (by simp only [xstep, stepf, stepx, evsA, qev, St.ev, St.put, St.with, D.cells, D.cell, C.st, C.dat, storeA, putCells, List.getElem?_cons_zero, List.getElem?_cons_succ, List.set_cons_zero, List.set_cons_succ, List.length_cons, List.length_nil, List.nil_append, List.append_nil, List.map_nil, List.all_cons, List.all_nil, List.take_zero, List.drop_succ_cons, List.drop_zero, Option.bind_some, Option.map_some, Bool.and_true, Bool.true_and, Nat.reduceAdd, Nat.reduceEqDiff, if_true, if_false, and_self, Option.some.injEq, ne_eq, not_false_eq_true, reduceCtorEq, Nat.le_refl, Bool.false_eq_true, implies_true, Nat.zero_add, beq_self_eq_true, Bool.and_self, Bool.true_or, callP, callO, dedup, rootsD, rootsC, List.flatMap_cons, List.flatMap_nil, List.filterMap_cons, List.filterMap_nil, argDs, argD, argC, List.contains_nil, objsAt, objOf, List.idxOf?, List.findIdx?, List.findIdx?.go, setObjs, D.ni, D.ni1, C.ni, C.niRow, settle, settle1, settleC, settleCs, List.isEmpty_nil, FsH1, hA, valC, tsz39]; rfl) ?_)) ?_
          refine tri_ret (ends_ret (by simp only [outRes, resDs, resD, outD, outC, outCs, qload, cellsAt, qmk, C.cpy, TK.agg, C.cp, C.dat, List.getElem?_cons_zero, List.getElem?_cons_succ, List.length_cons, List.length_nil, List.append_nil, List.map_nil, List.map_cons, List.all_cons, List.all_nil, List.take_succ_cons, List.take_zero, List.drop_zero, Option.bind_some, Option.map_some, Nat.reduceAdd, if_true, and_self, Option.some.injEq, Nat.zero_add, Bool.and_self, tk39, tsz39]; rfl) rfl (by simp) (by simp) ?_)
          simp only [List.nil_append]
          (simp only [reduceIte, Bool.false_eq_true, ↓reduceIte, wordF, valC, nullW, trueW, falseW, floatW, a0, a1, a3, a4] at hQ; with_reducible exact hQ)
        ·
          refine tri_skip ?_
          show Tri _ _ _ _
          refine seq_run okH1 rfl (by repeat (first | with_reducible exact runf_nil | refine runf_cons (by simp only [xstep, stepf, stepx, evsA, qev, St.ev, St.put, St.with, D.cell, C.dat, List.getElem?_cons_zero, List.getElem?_cons_succ, List.set_cons_zero, List.set_cons_succ, List.length_cons, List.length_nil, List.nil_append, List.append_nil, List.map_nil, List.all_cons, List.all_nil, Option.bind_some, Option.map_some, Bool.and_true, Bool.true_and, Nat.reduceEqDiff, if_true, if_false, and_self, Option.some.injEq, Bool.false_eq_true, Nat.zero_add, beq_self_eq_true, Bool.and_self, Bool.true_or, callP, callO, dedup, rootsD, rootsC, List.flatMap_cons, List.flatMap_nil, List.filterMap_cons, List.filterMap_nil, argDs, argD, argC, List.contains_nil, objsAt, objOf, List.idxOf?, List.findIdx?, List.findIdx?.go, setObjs, D.ni, settle, settleDs, List.isEmpty_nil, FsH1, hF, a4]; rfl) ?_)) ?_
          refine seq_run okH1 rfl (by repeat (first | with_reducible exact runf_nil | refine runf_cons (by simp only [xstep, stepf, stepx, St.ev, St.put, D.cells, C.st, C.dat, storeA, putCells, List.getElem?_cons_zero, List.getElem?_cons_succ, List.set_cons_zero, List.set_cons_succ, List.length_cons, List.length_nil, List.nil_append, List.append_nil, List.all_cons, List.all_nil, List.take_zero, List.drop_succ_cons, List.drop_zero, Option.bind_some, Option.map_some, Nat.reduceAdd, if_true, and_self, Option.some.injEq, ne_eq, not_false_eq_true, reduceCtorEq, Nat.le_refl, Nat.reduceBNe, Bool.false_eq_true, implies_true, Nat.zero_add, Bool.and_self, tk39, tsz39, tsz2, tsz3, tsz4, tsz9, tsz37, buildA, partsA, fillA, tz39]; rfl) ?_)) ?_
          refine tri_ret (ends_ret (by simp only [outRes, resDs, resD, outD, outC, outCs, qload, cellsAt, qmk, C.cpy, TK.agg, C.cp, C.dat, List.getElem?_cons_zero, List.getElem?_cons_succ, List.length_cons, List.length_nil, List.append_nil, List.map_nil, List.map_cons, List.all_cons, List.all_nil, List.take_succ_cons, List.take_zero, List.drop_zero, Option.bind_some, Option.map_some, Nat.reduceAdd, if_true, and_self, Option.some.injEq, Nat.zero_add, Bool.and_self, tk39, tsz39]; rfl) rfl (by simp) (by simp) ?_)
          simp only [List.nil_append]
          (simp only [reduceIte, Bool.false_eq_true, ↓reduceIte, wordF, valC, val0, noText, nullW, trueW, falseW, floatW, a0, a1, a3, a4] at hQ; with_reducible exact hQ)

def valueF (l : List Tok) (i : Nat) (e bad : Int) : Val × Nat × Int :=
  if 0 ≤ bad then (val0, i, failF l i e bad)
  else match l[i]? with
    | none => (val0, i, failF l i e bad)
    | some t => if t.1 = 1 then (match numberF l i e bad with | some r => ((2, false, r.1, 0, noText), r.2.1, r.2.2) | none => (val0, i, bad))
      else if t.1 = 2 then ((4, false, 0, 0, t.2.1), i + 1, bad)
      else if t.1 = 0 then wordF l i e bad t.2.1
      else (val0, i, failF l i e bad)
theorem word_at {l : List Tok} (i : Nat) (e bad : Int) (w : ByteArray) (h : paPre l i) (hi : i < l.length) : oWord [.c (.p 0 0 0), .c (.v (.string w))] [⟨4, [[.s false 3 (l.map tokC), .v (.int .i64 i), .v (.int .i64 e), .v (.int .i64 bad)]]⟩] =
    some (.agg (valC (wordF l i e bad w).1), [⟨4, [[.s false 3 (l.map tokC), .v (.int .i64 (wordF l i e bad w).2.1), .v (.int .i64 e), .v (.int .i64 (wordF l i e bad w).2.2)]]⟩]) :=
  famO_at (fun x y h => by
    simp only [Prod.mk.injEq, List.cons.injEq, and_true, true_and, D.c.injEq, C.v.injEq, Value.string.injEq] at h
    obtain ⟨a, b, c, d, w⟩ := x
    obtain ⟨a', b', c', d', w'⟩ := y
    obtain ⟨h1, h2, h3, h4⟩ := pa_inj h.2
    have h5 := h.1
    dsimp only at h1 h2 h3 h4 h5
    subst h1 h2 h3 h4 h5; rfl) (l, i, e, bad, w) ⟨h, hi⟩ rfl
/-- A number's text is not empty. -/
def numPre (l : List Tok) : Prop := ∀ t ∈ l, t.1 = 1 → 0 < t.2.1.size
theorem numberF_some {l : List Tok} {i : Nat} {e bad : Int} (h : paPre l i) (hn : numPre l) {t : Tok} (ht : l[i]? = some t) (h1 : t.1 = 1) : ∃ r, numberF l i e bad = some r := by
  have hs : 0 ≤ bad ∨ 0 < (takeF l i e bad 1).1.size := by
    by_cases hb : 0 ≤ bad
    · exact .inl hb
    · right
      unfold takeF
      rw [if_neg hb, ht]
      simp only [if_pos h1]
      exact hn _ (List.mem_of_getElem? ht) h1
  have hz := takeF_size (i := i) (e := e) (bad := bad) (k := 1) h.2.2
  unfold numberF
  split
  · exact ⟨_, rfl⟩
  · rename_i hb
    have hs' : 0 < (takeF l i e bad 1).1.size := by
      rcases hs with h0 | h0
      · exfalso; apply hb; unfold takeF; rw [if_pos h0]; exact h0
      · exact h0
    rw [if_pos ⟨hs', hz⟩]
    split <;> split <;> exact ⟨_, rfl⟩
noncomputable def FsH2 : Fs := { pure := fun _ => none, objs := fun k => if k = 62 then some oFail else if k = 63 then some oNumber else if k = 64 then some oWord else none }
theorem okH2 : FsOK Try.prog FsH2 := by
  refine ⟨fun k f h => ?_, fun k f h => ?_⟩
  · cases h
  · simp only [FsH2] at h
    split at h
    · rename_i hk; subst hk; cases h; exact ⟨by kernel_rfl, meets62⟩
    split at h
    · rename_i hk; subst hk; cases h; exact ⟨by kernel_rfl, meets63⟩
    split at h
    · rename_i hk; subst hk; cases h; exact ⟨by kernel_rfl, meets64⟩
    · cases h
noncomputable def oValue := famO (fun x : List Tok × Nat × Int × Int => paPre x.1 x.2.1 ∧ numPre x.1) (fun x => ([.c (.p 0 0 0)], [paObj x.1 x.2.1 x.2.2.1 x.2.2.2]))
  (fun x => (.agg (valC (valueF x.1 x.2.1 x.2.2.1 x.2.2.2).1), [paObj x.1 (valueF x.1 x.2.1 x.2.2.1 x.2.2.2).2.1 x.2.2.1 (valueF x.1 x.2.1 x.2.2.1 x.2.2.2).2.2]))
theorem meets39 : Meets Try.prog 39 (detS oValue) := by
  refine meets_famO (show Try.prog.funcs[39]? = some Try.f39 by kernel_rfl) rfl (n := 62) rfl (rs := [ResultVar.cell 2 39]) rfl ?_
  rintro ⟨l, i, e, bad⟩ ⟨⟨hl, hi, hsz⟩, hnum⟩ Q hQ
  dsimp only at hl hi hsz hQ hnum
  simp only [paObj] at hQ
  have hq1 : (i : Int) + 1 = ((i + 1 : Nat) : Int) := by omega
  have hF := fail_at hl i e bad hi
  have hlm : l.length ≤ maxStr := by unfold maxStr; omega
  by_cases hlt : i < l.length
  · obtain ⟨t, ht⟩ : ∃ t, l[i]? = some t := ⟨l[i], List.getElem?_eq_getElem hlt⟩
    have hW := word_at (l := l) i e bad t.2.1 ⟨hl, hi, hsz⟩ hlt
    by_cases h1 : t.1 = 1
    · obtain ⟨r, hr⟩ := numberF_some (e := e) (bad := bad) ⟨hl, hi, hsz⟩ hnum ht h1
      have hN := number_at (l := l) i e bad ⟨hl, hi, hsz⟩ hr
      refine seq_run okH2 rfl (by repeat (first | with_reducible exact runf_nil | refine runf_cons (by simp only [xstep, stepf, stepx, St.put, St.with, boxA, C.st, List.set_cons_zero, List.set_cons_succ, List.replicate, List.length_cons, List.length_nil, List.cons_append, List.nil_append, List.map_nil, List.map_cons, List.all_cons, List.all_nil, Option.bind_some, Option.map_some, Nat.reduceAdd, Nat.reduceSub, if_true, Option.some.injEq, Nat.zero_add, Bool.and_self, paObj, tz39]; rfl) ?_)) ?_
      refine seq_in ?_
      refine seq_anyE mixed okH2 rfl (by kernel_rfl) ?_
      by_cases a0 : (0 ≤ bad)
      ·
        refine ⟨_, (by repeat (first | with_reducible exact runf_nil | refine runf_cons (by simp only [xstep, stepf, stepx, qev, St.ev, St.put, qload, cellsAt, qmk, C.cpy, TK.agg, qnil, qfieldAddr, qpick, qint, qshift, isEq, isShift, qbin, qlen, qbuiltin, liveR, C.cp, constD, constC, List.getElem?_cons_zero, List.getElem?_cons_succ, List.set_cons_zero, List.set_cons_succ, List.length_cons, List.length_nil, List.map_nil, List.map_cons, List.all_cons, List.all_nil, List.take_succ_cons, List.take_zero, List.drop_succ_cons, List.drop_zero, Option.bind_some, Option.bind_none, Option.map_some, Option.map_none, if_true, if_false, and_self, decide_true, cond_true, List.getElem?_toArray, Option.some.injEq, reduceCtorEq, Bool.false_eq_true, Nat.zero_add, Bool.and_self, tsz3, tk80, tk3, eq_true a0]; rfl) ?_)), ?_⟩
        refine tri_cond (b := true) rfl (fun _ => ?_) (fun h => by cases h)
        refine seq_run okH2 rfl (by repeat (first | with_reducible exact runf_nil | refine runf_cons (by simp only [xstep, stepf, stepx, evsA, qev, St.ev, St.put, St.with, D.cell, C.dat, List.getElem?_cons_zero, List.getElem?_cons_succ, List.set_cons_zero, List.set_cons_succ, List.length_cons, List.length_nil, List.nil_append, List.append_nil, List.map_nil, List.all_cons, List.all_nil, Option.bind_some, Option.map_some, Bool.and_true, Bool.true_and, Nat.reduceEqDiff, if_true, if_false, and_self, Option.some.injEq, Bool.false_eq_true, Nat.zero_add, beq_self_eq_true, Bool.and_self, Bool.true_or, callP, callO, dedup, rootsD, rootsC, List.flatMap_cons, List.flatMap_nil, List.filterMap_cons, List.filterMap_nil, argDs, argD, argC, List.contains_nil, objsAt, objOf, List.idxOf?, List.findIdx?, List.findIdx?.go, setObjs, D.ni, settle, settleDs, List.isEmpty_nil, FsH2, hF]; rfl) ?_)) ?_
        refine seq_run okH2 rfl (by repeat (first | with_reducible exact runf_nil | refine runf_cons (by simp only [xstep, stepf, stepx, St.ev, St.put, D.cells, C.st, C.dat, storeA, putCells, List.getElem?_cons_zero, List.getElem?_cons_succ, List.set_cons_zero, List.set_cons_succ, List.length_cons, List.length_nil, List.nil_append, List.append_nil, List.all_cons, List.all_nil, List.take_zero, List.drop_succ_cons, List.drop_zero, Option.bind_some, Option.map_some, Nat.reduceAdd, if_true, and_self, Option.some.injEq, ne_eq, not_false_eq_true, reduceCtorEq, Nat.le_refl, Nat.reduceBNe, Bool.false_eq_true, implies_true, Nat.zero_add, Bool.and_self, tk39, tsz39, tsz2, tsz3, tsz4, tsz9, tsz37, buildA, partsA, fillA, tz39]; rfl) ?_)) ?_
        refine tri_ret (ends_ret (by simp only [outRes, resDs, resD, outD, outC, outCs, qload, cellsAt, qmk, C.cpy, TK.agg, C.cp, C.dat, List.getElem?_cons_zero, List.getElem?_cons_succ, List.length_cons, List.length_nil, List.append_nil, List.map_nil, List.map_cons, List.all_cons, List.all_nil, List.take_succ_cons, List.take_zero, List.drop_zero, Option.bind_some, Option.map_some, Nat.reduceAdd, if_true, and_self, Option.some.injEq, Nat.zero_add, Bool.and_self, tk39, tsz39]; rfl) rfl (by simp) (by simp) ?_)
        simp only [List.nil_append]
        (simp only [reduceIte, ↓reduceIte, valueF, valC, val0, noText, eq_true a0] at hQ; with_reducible exact hQ)
      ·
        refine ⟨_, (by repeat (first | with_reducible exact runf_nil | refine runf_cons (by simp only [xstep, stepf, stepx, qev, St.ev, St.put, qload, cellsAt, qmk, C.cpy, TK.agg, qnil, qfieldAddr, qpick, qint, qshift, isShift, qbin, qlen, qbuiltin, liveR, C.cp, constD, constC, List.getElem?_cons_zero, List.getElem?_cons_succ, List.set_cons_zero, List.set_cons_succ, List.length_cons, List.length_nil, List.map_nil, List.map_cons, List.all_cons, List.all_nil, List.take_succ_cons, List.take_zero, List.drop_succ_cons, List.drop_zero, Option.bind_some, Option.map_some, Option.map_none, if_true, if_false, and_self, decide_false, cond_false, List.getElem?_toArray, Option.some.injEq, reduceCtorEq, Bool.false_eq_true, Nat.add_zero, Nat.zero_add, Bool.and_self, hlm, tsz3, List.length_map, tk80, tk3, eq_false a0, tsz23, tk23]; rfl) ?_)), ?_⟩
        refine tri_cond rfl (fun a1 => ?_) (fun a1 => ?_)
        ·
          simp only [decide_eq_true_eq] at a1
          (exfalso; omega)
        ·
          simp only [decide_eq_false_iff_not] at a1
          refine then_skip ?_
          refine seq_in ?_
          refine seq_anyE mixed okH2 rfl (by kernel_rfl) ?_
          refine ⟨_, (by repeat (first | with_reducible exact runf_nil | refine runf_cons (by simp only [xstep, stepf, stepx, qev, St.ev, St.put, St.with, D.cells, D.int, boxA, qload, cellsAt, qmk, C.cpy, TK.agg, qnil, qfieldAddr, qindexAddr, liveR, C.st, C.cp, C.dat, storeA, putCells, List.getElem?_cons_zero, List.getElem?_cons_succ, List.set_cons_zero, List.set_cons_succ, List.length_cons, List.length_nil, List.cons_append, List.nil_append, List.append_nil, List.map_nil, List.map_cons, List.all_cons, List.all_nil, List.take_succ_cons, List.take_zero, List.drop_succ_cons, List.drop_zero, Option.bind_some, Option.map_some, Nat.reduceAdd, if_true, if_false, and_self, decide_false, Option.some.injEq, ne_eq, not_false_eq_true, reduceCtorEq, Nat.le_refl, Bool.false_eq_true, implies_true, Nat.add_zero, Nat.zero_add, Bool.and_self, tsz3, tokC, List.getElem?_map, ht, h1, List.length_map, Int.toNat_natCast, Int.natCast_nonneg, tk80, tk3, tsz23, tk23, a1, tsz33, show ((↑i : Int) < (↑l.length : Int)) = True from eq_true (by omega), tk33, tz33]; rfl) ?_)), ?_⟩
          refine seq_run okH2 rfl (by repeat (first | with_reducible exact runf_nil | refine runf_cons (by simp only [xstep, stepf, stepx, qev, St.ev, St.put, qload, cellsAt, qmk, C.cpy, TK.agg, qfieldAddr, liveR, C.cp, List.getElem?_cons_zero, List.getElem?_cons_succ, List.set_cons_zero, List.set_cons_succ, List.length_cons, List.length_nil, List.map_nil, List.map_cons, List.all_cons, List.all_nil, List.take_succ_cons, List.take_zero, List.drop_zero, Option.bind_some, Option.map_some, if_true, if_false, and_self, Option.some.injEq, reduceCtorEq, Bool.false_eq_true, Nat.add_zero, Nat.zero_add, Bool.and_self, tsz3, tk3, tk33]; rfl) ?_)) ?_
          refine tri_block ?_
          refine seq_run okH2 rfl (by repeat (first | with_reducible exact runf_nil | refine runf_cons (by simp only [xstep, stepf, stepx, qev, St.ev, St.put, qint, qshift, isShift, qbin, constD, constC, List.getElem?_cons_zero, List.getElem?_cons_succ, List.set_cons_zero, List.set_cons_succ, Option.map_some, Option.map_none, if_true, if_false, decide_true, Option.some.injEq, Bool.false_eq_true]; rfl) ?_)) ?_
          refine tri_cond (b := true) rfl (fun _ => ?_) (fun h => by cases h)
          refine seq_run okH2 rfl (by repeat (first | with_reducible exact runf_nil | refine runf_cons (by simp only [xstep, stepf, stepx, evsA, qev, St.ev, St.put, St.with, D.cells, D.cell, C.st, C.dat, storeA, putCells, constD, constC, List.getElem?_cons_zero, List.getElem?_cons_succ, List.set_cons_zero, List.set_cons_succ, List.length_cons, List.length_nil, List.cons_append, List.nil_append, List.append_nil, List.map_nil, List.all_cons, List.all_nil, List.take_succ_cons, List.take_zero, List.drop_succ_cons, List.drop_zero, Option.bind_some, Option.map_some, Bool.and_true, Bool.true_and, Nat.reduceAdd, Nat.reduceEqDiff, if_true, if_false, and_self, Option.some.injEq, ne_eq, not_false_eq_true, reduceCtorEq, Nat.reduceLeDiff, Nat.le_refl, Nat.reduceBNe, Bool.false_eq_true, implies_true, Nat.zero_add, beq_self_eq_true, Bool.and_self, Bool.true_or, callP, callO, dedup, rootsD, rootsC, List.flatMap_cons, List.flatMap_nil, List.filterMap_cons, List.filterMap_nil, argDs, argD, argC, List.contains_nil, objsAt, objOf, List.idxOf?, List.findIdx?, List.findIdx?.go, setObjs, D.ni, D.ni1, C.ni, settle, settle1, settleC, List.isEmpty_nil, FsH2, hN, tk39, tsz39, tsz2, tsz3, tsz4, tsz9, tsz37, buildA, partsA, fillA, placeSt, tz39]; rfl) ?_)) ?_
          refine tri_ret (ends_ret (by simp only [outRes, resDs, resD, outD, outC, outCs, qload, cellsAt, qmk, C.cpy, TK.agg, C.cp, C.dat, List.getElem?_cons_zero, List.getElem?_cons_succ, List.length_cons, List.length_nil, List.append_nil, List.map_nil, List.map_cons, List.all_cons, List.all_nil, List.take_succ_cons, List.take_zero, List.drop_zero, Option.bind_some, Option.map_some, Nat.reduceAdd, if_true, and_self, Option.some.injEq, Nat.zero_add, Bool.and_self, tk39, tsz39]; rfl) rfl (by simp) (by simp) ?_)
          simp only [List.nil_append]
          (simp only [reduceIte, ↓reduceIte, valueF, hr, ht, h1, valC, noText, eq_false a0] at hQ; with_reducible exact hQ)
    ·
      refine seq_run okH2 rfl (by repeat (first | with_reducible exact runf_nil | refine runf_cons (by simp only [xstep, stepf, stepx, St.put, St.with, boxA, C.st, List.set_cons_zero, List.set_cons_succ, List.replicate, List.length_cons, List.length_nil, List.cons_append, List.nil_append, List.map_nil, List.map_cons, List.all_cons, List.all_nil, Option.bind_some, Option.map_some, Nat.reduceAdd, Nat.reduceSub, if_true, Option.some.injEq, Nat.zero_add, Bool.and_self, paObj, tz39]; rfl) ?_)) ?_
      refine seq_in ?_
      refine seq_anyE mixed okH2 rfl (by kernel_rfl) ?_
      by_cases a0 : (0 ≤ bad)
      ·
        refine ⟨_, (by repeat (first | with_reducible exact runf_nil | refine runf_cons (by simp only [xstep, stepf, stepx, qev, St.ev, St.put, qload, cellsAt, qmk, C.cpy, TK.agg, qnil, qfieldAddr, qpick, qint, qshift, isEq, isShift, qbin, qlen, qbuiltin, liveR, C.cp, constD, constC, List.getElem?_cons_zero, List.getElem?_cons_succ, List.set_cons_zero, List.set_cons_succ, List.length_cons, List.length_nil, List.map_nil, List.map_cons, List.all_cons, List.all_nil, List.take_succ_cons, List.take_zero, List.drop_succ_cons, List.drop_zero, Option.bind_some, Option.bind_none, Option.map_some, Option.map_none, if_true, if_false, and_self, decide_true, cond_true, List.getElem?_toArray, Option.some.injEq, reduceCtorEq, Bool.false_eq_true, Nat.zero_add, Bool.and_self, tsz3, tk80, tk3, eq_true a0]; rfl) ?_)), ?_⟩
        refine tri_cond (b := true) rfl (fun _ => ?_) (fun h => by cases h)
        refine seq_run okH2 rfl (by repeat (first | with_reducible exact runf_nil | refine runf_cons (by simp only [xstep, stepf, stepx, evsA, qev, St.ev, St.put, St.with, D.cell, C.dat, List.getElem?_cons_zero, List.getElem?_cons_succ, List.set_cons_zero, List.set_cons_succ, List.length_cons, List.length_nil, List.nil_append, List.append_nil, List.map_nil, List.all_cons, List.all_nil, Option.bind_some, Option.map_some, Bool.and_true, Bool.true_and, Nat.reduceEqDiff, if_true, if_false, and_self, Option.some.injEq, Bool.false_eq_true, Nat.zero_add, beq_self_eq_true, Bool.and_self, Bool.true_or, callP, callO, dedup, rootsD, rootsC, List.flatMap_cons, List.flatMap_nil, List.filterMap_cons, List.filterMap_nil, argDs, argD, argC, List.contains_nil, objsAt, objOf, List.idxOf?, List.findIdx?, List.findIdx?.go, setObjs, D.ni, settle, settleDs, List.isEmpty_nil, FsH2, hF]; rfl) ?_)) ?_
        refine seq_run okH2 rfl (by repeat (first | with_reducible exact runf_nil | refine runf_cons (by simp only [xstep, stepf, stepx, St.ev, St.put, D.cells, C.st, C.dat, storeA, putCells, List.getElem?_cons_zero, List.getElem?_cons_succ, List.set_cons_zero, List.set_cons_succ, List.length_cons, List.length_nil, List.nil_append, List.append_nil, List.all_cons, List.all_nil, List.take_zero, List.drop_succ_cons, List.drop_zero, Option.bind_some, Option.map_some, Nat.reduceAdd, if_true, and_self, Option.some.injEq, ne_eq, not_false_eq_true, reduceCtorEq, Nat.le_refl, Nat.reduceBNe, Bool.false_eq_true, implies_true, Nat.zero_add, Bool.and_self, tk39, tsz39, tsz2, tsz3, tsz4, tsz9, tsz37, buildA, partsA, fillA, tz39]; rfl) ?_)) ?_
        refine tri_ret (ends_ret (by simp only [outRes, resDs, resD, outD, outC, outCs, qload, cellsAt, qmk, C.cpy, TK.agg, C.cp, C.dat, List.getElem?_cons_zero, List.getElem?_cons_succ, List.length_cons, List.length_nil, List.append_nil, List.map_nil, List.map_cons, List.all_cons, List.all_nil, List.take_succ_cons, List.take_zero, List.drop_zero, Option.bind_some, Option.map_some, Nat.reduceAdd, if_true, and_self, Option.some.injEq, Nat.zero_add, Bool.and_self, tk39, tsz39]; rfl) rfl (by simp) (by simp) ?_)
        simp only [List.nil_append]
        (simp only [reduceIte, ↓reduceIte, valueF, valC, val0, noText, eq_true a0] at hQ; with_reducible exact hQ)
      ·
        refine ⟨_, (by repeat (first | with_reducible exact runf_nil | refine runf_cons (by simp only [xstep, stepf, stepx, qev, St.ev, St.put, qload, cellsAt, qmk, C.cpy, TK.agg, qnil, qfieldAddr, qpick, qint, qshift, isShift, qbin, qlen, qbuiltin, liveR, C.cp, constD, constC, List.getElem?_cons_zero, List.getElem?_cons_succ, List.set_cons_zero, List.set_cons_succ, List.length_cons, List.length_nil, List.map_nil, List.map_cons, List.all_cons, List.all_nil, List.take_succ_cons, List.take_zero, List.drop_succ_cons, List.drop_zero, Option.bind_some, Option.map_some, Option.map_none, if_true, if_false, and_self, decide_false, cond_false, List.getElem?_toArray, Option.some.injEq, reduceCtorEq, Bool.false_eq_true, Nat.add_zero, Nat.zero_add, Bool.and_self, hlm, tsz3, List.length_map, tk80, tk3, eq_false a0, tsz23, tk23]; rfl) ?_)), ?_⟩
        refine tri_cond rfl (fun a1 => ?_) (fun a1 => ?_)
        ·
          simp only [decide_eq_true_eq] at a1
          (exfalso; omega)
        ·
          simp only [decide_eq_false_iff_not] at a1
          refine then_skip ?_
          refine seq_in ?_
          refine seq_anyE mixed okH2 rfl (by kernel_rfl) ?_
          refine ⟨_, (by repeat (first | with_reducible exact runf_nil | refine runf_cons (by simp only [xstep, stepf, stepx, qev, St.ev, St.put, St.with, D.cells, D.int, boxA, qload, cellsAt, qmk, C.cpy, TK.agg, qnil, qfieldAddr, qindexAddr, liveR, C.st, C.cp, C.dat, storeA, putCells, List.getElem?_cons_zero, List.getElem?_cons_succ, List.set_cons_zero, List.set_cons_succ, List.length_cons, List.length_nil, List.cons_append, List.nil_append, List.append_nil, List.map_nil, List.map_cons, List.all_cons, List.all_nil, List.take_succ_cons, List.take_zero, List.drop_succ_cons, List.drop_zero, Option.bind_some, Option.map_some, Nat.reduceAdd, if_true, if_false, and_self, decide_false, Option.some.injEq, ne_eq, not_false_eq_true, reduceCtorEq, Nat.le_refl, Bool.false_eq_true, implies_true, Nat.add_zero, Nat.zero_add, Bool.and_self, tsz3, tokC, List.getElem?_map, ht, List.length_map, Int.toNat_natCast, Int.natCast_nonneg, tk80, tk3, tsz23, tk23, a1, tsz33, show ((↑i : Int) < (↑l.length : Int)) = True from eq_true (by omega), tk33, tz33]; rfl) ?_)), ?_⟩
          refine seq_run okH2 rfl (by repeat (first | with_reducible exact runf_nil | refine runf_cons (by simp only [xstep, stepf, stepx, qev, St.ev, St.put, qload, cellsAt, qmk, C.cpy, TK.agg, qfieldAddr, liveR, C.cp, List.getElem?_cons_zero, List.getElem?_cons_succ, List.set_cons_zero, List.set_cons_succ, List.length_cons, List.length_nil, List.map_nil, List.map_cons, List.all_cons, List.all_nil, List.take_succ_cons, List.take_zero, List.drop_zero, Option.bind_some, Option.map_some, if_true, if_false, and_self, Option.some.injEq, reduceCtorEq, Bool.false_eq_true, Nat.add_zero, Nat.zero_add, Bool.and_self, tsz3, tk3, tk33]; rfl) ?_)) ?_
          refine tri_block ?_
          refine seq_run okH2 rfl (by repeat (first | with_reducible exact runf_nil | refine runf_cons (by simp only [xstep, stepf, stepx, qev, St.ev, St.put, qint, qshift, isShift, qbin, constD, constC, List.getElem?_cons_zero, List.getElem?_cons_succ, List.set_cons_zero, List.set_cons_succ, Option.map_some, Option.map_none, if_true, if_false, decide_false, Option.some.injEq, Bool.false_eq_true, h1]; rfl) ?_)) ?_
          refine tri_cond (b := false) rfl (fun h => by cases h) (fun _ => ?_)
          refine seq_run okH2 rfl (by repeat (first | with_reducible exact runf_nil | refine runf_cons (by simp only [xstep, stepf, stepx, qev, St.ev, St.put, qint, qshift, isShift, qbin, constD, constC, List.getElem?_cons_zero, List.getElem?_cons_succ, List.set_cons_zero, List.set_cons_succ, Option.map_some, Option.map_none, if_true, if_false, Option.some.injEq, Bool.false_eq_true]; rfl) ?_)) ?_
          refine tri_cond rfl (fun a2 => ?_) (fun a2 => ?_)
          ·
            simp only [decide_eq_true_eq] at a2
            refine seq_run okH2 rfl (by repeat (first | with_reducible exact runf_nil | refine runf_cons (by simp only [xstep, stepf, stepx, qev, St.ev, St.put, D.cells, qload, cellsAt, qmk, C.cpy, TK.agg, qnil, qfieldAddr, qint, qshift, isShift, qbin, liveR, C.st, C.cp, C.dat, storeA, putCells, constD, constC, List.getElem?_cons_zero, List.getElem?_cons_succ, List.set_cons_zero, List.set_cons_succ, List.length_cons, List.length_nil, List.cons_append, List.nil_append, List.map_nil, List.map_cons, List.all_cons, List.all_nil, List.take_succ_cons, List.take_zero, List.drop_succ_cons, List.drop_zero, Option.bind_some, Option.map_some, Option.map_none, Nat.reduceAdd, if_true, if_false, and_self, decide_true, Option.some.injEq, ne_eq, not_false_eq_true, reduceCtorEq, Nat.reduceLeDiff, Bool.false_eq_true, implies_true, Nat.zero_add, Bool.and_self, hq1, tsz3, tk80, tk3, a2, show IntKind.i64.wrap (↑(i + 1) : Int) = _ from wrap_i64 _ (by omega) (by omega)]; rfl) ?_)) ?_
            refine seq_run okH2 rfl (by repeat (first | with_reducible exact runf_nil | refine runf_cons (by simp only [xstep, stepf, stepx, qev, St.ev, St.put, D.cells, qload, cellsAt, qmk, C.cpy, TK.agg, qfieldAddr, liveR, C.st, C.cp, C.dat, storeA, putCells, constD, constC, List.getElem?_cons_zero, List.getElem?_cons_succ, List.set_cons_zero, List.set_cons_succ, List.length_cons, List.length_nil, List.cons_append, List.nil_append, List.append_nil, List.map_nil, List.map_cons, List.all_cons, List.all_nil, List.take_succ_cons, List.take_zero, List.drop_succ_cons, List.drop_zero, Option.bind_some, Option.map_some, Nat.reduceAdd, if_true, if_false, and_self, Option.some.injEq, ne_eq, not_false_eq_true, reduceCtorEq, Nat.reduceLeDiff, Nat.le_refl, Nat.reduceBNe, Bool.false_eq_true, implies_true, Nat.zero_add, Bool.and_self, tk39, tsz39, tsz2, tsz3, tsz4, tsz9, tsz37, buildA, partsA, fillA, placeSt, tz39, tk33, tk9]; rfl) ?_)) ?_
            refine tri_ret (ends_ret (by simp only [outRes, resDs, resD, outD, outC, outCs, qload, cellsAt, qmk, C.cpy, TK.agg, C.cp, C.dat, List.getElem?_cons_zero, List.getElem?_cons_succ, List.length_cons, List.length_nil, List.append_nil, List.map_nil, List.map_cons, List.all_cons, List.all_nil, List.take_succ_cons, List.take_zero, List.drop_zero, Option.bind_some, Option.map_some, Nat.reduceAdd, if_true, and_self, Option.some.injEq, Nat.zero_add, Bool.and_self, tk39, tsz39]; rfl) rfl (by simp) (by simp) ?_)
            simp only [List.nil_append]
            (simp only [reduceIte, ↓reduceIte, Int.reduceEq, valueF, ht, valC, eq_false a0, a2] at hQ; with_reducible exact hQ)
          ·
            simp only [decide_eq_false_iff_not] at a2
            refine seq_run okH2 rfl (by repeat (first | with_reducible exact runf_nil | refine runf_cons (by simp only [xstep, stepf, stepx, qev, St.ev, St.put, qint, qshift, isShift, qbin, constD, constC, List.getElem?_cons_zero, List.getElem?_cons_succ, List.set_cons_zero, List.set_cons_succ, Option.map_some, Option.map_none, if_true, if_false, decide_false, Option.some.injEq, Bool.false_eq_true, a2]; rfl) ?_)) ?_
            refine tri_cond rfl (fun a3 => ?_) (fun a3 => ?_)
            ·
              simp only [decide_eq_true_eq] at a3
              refine seq_run okH2 rfl (by repeat (first | with_reducible exact runf_nil | refine runf_cons (by simp only [xstep, stepf, stepx, evsA, qev, St.ev, St.put, St.with, D.cells, D.cell, qload, cellsAt, qmk, C.cpy, TK.agg, qfieldAddr, liveR, C.st, C.cp, C.dat, storeA, putCells, List.getElem?_cons_zero, List.getElem?_cons_succ, List.set_cons_zero, List.set_cons_succ, List.length_cons, List.length_nil, List.nil_append, List.append_nil, List.map_nil, List.map_cons, List.all_cons, List.all_nil, List.take_succ_cons, List.take_zero, List.drop_succ_cons, List.drop_zero, Option.bind_some, Option.map_some, Bool.and_true, Bool.true_and, Nat.reduceAdd, Nat.reduceEqDiff, if_true, if_false, and_self, decide_true, Option.some.injEq, ne_eq, not_false_eq_true, reduceCtorEq, Nat.le_refl, Bool.false_eq_true, implies_true, Nat.zero_add, beq_self_eq_true, Bool.and_self, Bool.true_or, callP, callO, dedup, rootsD, rootsC, List.flatMap_cons, List.flatMap_nil, List.filterMap_cons, List.filterMap_nil, argDs, argD, argC, List.contains_nil, objsAt, objOf, List.idxOf?, List.findIdx?, List.findIdx?.go, setObjs, D.ni, D.ni1, C.ni, C.niRow, settle, settle1, settleC, settleCs, List.isEmpty_nil, FsH2, hW, valC, tsz39, tsz9, tk33, a3, tk9]; rfl) ?_)) ?_
              refine tri_ret (ends_ret (by simp only [outRes, resDs, resD, outD, outC, outCs, qload, cellsAt, qmk, C.cpy, TK.agg, C.cp, C.dat, List.getElem?_cons_zero, List.getElem?_cons_succ, List.length_cons, List.length_nil, List.append_nil, List.map_nil, List.map_cons, List.all_cons, List.all_nil, List.take_succ_cons, List.take_zero, List.drop_zero, Option.bind_some, Option.map_some, Nat.reduceAdd, if_true, and_self, Option.some.injEq, Nat.zero_add, Bool.and_self, tk39, tsz39]; rfl) rfl (by simp) (by simp) ?_)
              simp only [List.nil_append]
              (simp only [reduceIte, ↓reduceIte, Int.reduceEq, valueF, ht, valC, eq_false a0, a3] at hQ; with_reducible exact hQ)
            ·
              simp only [decide_eq_false_iff_not] at a3
              refine tri_skip ?_
              show Tri _ _ _ _
              refine seq_run okH2 rfl (by repeat (first | with_reducible exact runf_nil | refine runf_cons (by simp only [xstep, stepf, stepx, evsA, qev, St.ev, St.put, St.with, D.cell, C.dat, List.getElem?_cons_zero, List.getElem?_cons_succ, List.set_cons_zero, List.set_cons_succ, List.length_cons, List.length_nil, List.nil_append, List.append_nil, List.map_nil, List.all_cons, List.all_nil, Option.bind_some, Option.map_some, Bool.and_true, Bool.true_and, Nat.reduceEqDiff, if_true, if_false, and_self, decide_false, Option.some.injEq, Bool.false_eq_true, Nat.zero_add, beq_self_eq_true, Bool.and_self, Bool.true_or, callP, callO, dedup, rootsD, rootsC, List.flatMap_cons, List.flatMap_nil, List.filterMap_cons, List.filterMap_nil, argDs, argD, argC, List.contains_nil, objsAt, objOf, List.idxOf?, List.findIdx?, List.findIdx?.go, setObjs, D.ni, settle, settleDs, List.isEmpty_nil, FsH2, hF, a3]; rfl) ?_)) ?_
              refine seq_run okH2 rfl (by repeat (first | with_reducible exact runf_nil | refine runf_cons (by simp only [xstep, stepf, stepx, St.ev, St.put, D.cells, C.st, C.dat, storeA, putCells, List.getElem?_cons_zero, List.getElem?_cons_succ, List.set_cons_zero, List.set_cons_succ, List.length_cons, List.length_nil, List.nil_append, List.append_nil, List.all_cons, List.all_nil, List.take_zero, List.drop_succ_cons, List.drop_zero, Option.bind_some, Option.map_some, Nat.reduceAdd, if_true, and_self, Option.some.injEq, ne_eq, not_false_eq_true, reduceCtorEq, Nat.le_refl, Nat.reduceBNe, Bool.false_eq_true, implies_true, Nat.zero_add, Bool.and_self, tk39, tsz39, tsz2, tsz3, tsz4, tsz9, tsz37, buildA, partsA, fillA, tz39]; rfl) ?_)) ?_
              refine tri_ret (ends_ret (by simp only [outRes, resDs, resD, outD, outC, outCs, qload, cellsAt, qmk, C.cpy, TK.agg, C.cp, C.dat, List.getElem?_cons_zero, List.getElem?_cons_succ, List.length_cons, List.length_nil, List.append_nil, List.map_nil, List.map_cons, List.all_cons, List.all_nil, List.take_succ_cons, List.take_zero, List.drop_zero, Option.bind_some, Option.map_some, Nat.reduceAdd, if_true, and_self, Option.some.injEq, Nat.zero_add, Bool.and_self, tk39, tsz39]; rfl) rfl (by simp) (by simp) ?_)
              simp only [List.nil_append]
              (simp only [reduceIte, ↓reduceIte, valueF, ht, h1, valC, val0, noText, eq_false a0, a2, a3] at hQ; with_reducible exact hQ)
  · have hno : l[i]? = none := List.getElem?_eq_none (by omega)
    refine seq_run okH2 rfl (by repeat (first | with_reducible exact runf_nil | refine runf_cons (by simp only [xstep, stepf, stepx, St.put, St.with, boxA, C.st, List.set_cons_zero, List.set_cons_succ, List.replicate, List.length_cons, List.length_nil, List.cons_append, List.nil_append, List.map_nil, List.map_cons, List.all_cons, List.all_nil, Option.bind_some, Option.map_some, Nat.reduceAdd, Nat.reduceSub, if_true, Option.some.injEq, Nat.zero_add, Bool.and_self, paObj, tz39]; rfl) ?_)) ?_
    refine seq_in ?_
    refine seq_anyE mixed okH2 rfl (by kernel_rfl) ?_
    by_cases a0 : (0 ≤ bad)
    ·
      refine ⟨_, (by repeat (first | with_reducible exact runf_nil | refine runf_cons (by simp only [xstep, stepf, stepx, qev, St.ev, St.put, qload, cellsAt, qmk, C.cpy, TK.agg, qnil, qfieldAddr, qpick, qint, qshift, isEq, isShift, qbin, qlen, qbuiltin, liveR, C.cp, constD, constC, List.getElem?_cons_zero, List.getElem?_cons_succ, List.set_cons_zero, List.set_cons_succ, List.length_cons, List.length_nil, List.map_nil, List.map_cons, List.all_cons, List.all_nil, List.take_succ_cons, List.take_zero, List.drop_succ_cons, List.drop_zero, Option.bind_some, Option.bind_none, Option.map_some, Option.map_none, if_true, if_false, and_self, decide_true, cond_true, List.getElem?_toArray, Option.some.injEq, reduceCtorEq, Bool.false_eq_true, Nat.zero_add, Bool.and_self, tsz3, tk80, tk3, eq_true a0]; rfl) ?_)), ?_⟩
      refine tri_cond (b := true) rfl (fun _ => ?_) (fun h => by cases h)
      refine seq_run okH2 rfl (by repeat (first | with_reducible exact runf_nil | refine runf_cons (by simp only [xstep, stepf, stepx, evsA, qev, St.ev, St.put, St.with, D.cell, C.dat, List.getElem?_cons_zero, List.getElem?_cons_succ, List.set_cons_zero, List.set_cons_succ, List.length_cons, List.length_nil, List.nil_append, List.append_nil, List.map_nil, List.all_cons, List.all_nil, Option.bind_some, Option.map_some, Bool.and_true, Bool.true_and, Nat.reduceEqDiff, if_true, if_false, and_self, Option.some.injEq, Bool.false_eq_true, Nat.zero_add, beq_self_eq_true, Bool.and_self, Bool.true_or, callP, callO, dedup, rootsD, rootsC, List.flatMap_cons, List.flatMap_nil, List.filterMap_cons, List.filterMap_nil, argDs, argD, argC, List.contains_nil, objsAt, objOf, List.idxOf?, List.findIdx?, List.findIdx?.go, setObjs, D.ni, settle, settleDs, List.isEmpty_nil, FsH2, hF]; rfl) ?_)) ?_
      refine seq_run okH2 rfl (by repeat (first | with_reducible exact runf_nil | refine runf_cons (by simp only [xstep, stepf, stepx, St.ev, St.put, D.cells, C.st, C.dat, storeA, putCells, List.getElem?_cons_zero, List.getElem?_cons_succ, List.set_cons_zero, List.set_cons_succ, List.length_cons, List.length_nil, List.nil_append, List.append_nil, List.all_cons, List.all_nil, List.take_zero, List.drop_succ_cons, List.drop_zero, Option.bind_some, Option.map_some, Nat.reduceAdd, if_true, and_self, Option.some.injEq, ne_eq, not_false_eq_true, reduceCtorEq, Nat.le_refl, Nat.reduceBNe, Bool.false_eq_true, implies_true, Nat.zero_add, Bool.and_self, tk39, tsz39, tsz2, tsz3, tsz4, tsz9, tsz37, buildA, partsA, fillA, tz39]; rfl) ?_)) ?_
      refine tri_ret (ends_ret (by simp only [outRes, resDs, resD, outD, outC, outCs, qload, cellsAt, qmk, C.cpy, TK.agg, C.cp, C.dat, List.getElem?_cons_zero, List.getElem?_cons_succ, List.length_cons, List.length_nil, List.append_nil, List.map_nil, List.map_cons, List.all_cons, List.all_nil, List.take_succ_cons, List.take_zero, List.drop_zero, Option.bind_some, Option.map_some, Nat.reduceAdd, if_true, and_self, Option.some.injEq, Nat.zero_add, Bool.and_self, tk39, tsz39]; rfl) rfl (by simp) (by simp) ?_)
      simp only [List.nil_append]
      (simp only [reduceIte, ↓reduceIte, valueF, valC, val0, noText, eq_true a0] at hQ; with_reducible exact hQ)
    ·
      refine ⟨_, (by repeat (first | with_reducible exact runf_nil | refine runf_cons (by simp only [xstep, stepf, stepx, qev, St.ev, St.put, qload, cellsAt, qmk, C.cpy, TK.agg, qnil, qfieldAddr, qpick, qint, qshift, isShift, qbin, qlen, qbuiltin, liveR, C.cp, constD, constC, List.getElem?_cons_zero, List.getElem?_cons_succ, List.set_cons_zero, List.set_cons_succ, List.length_cons, List.length_nil, List.map_nil, List.map_cons, List.all_cons, List.all_nil, List.take_succ_cons, List.take_zero, List.drop_succ_cons, List.drop_zero, Option.bind_some, Option.map_some, Option.map_none, if_true, if_false, and_self, decide_false, cond_false, List.getElem?_toArray, Option.some.injEq, reduceCtorEq, Bool.false_eq_true, Nat.add_zero, Nat.zero_add, Bool.and_self, hlm, tsz3, List.length_map, tk80, tk3, eq_false a0, tsz23, tk23]; rfl) ?_)), ?_⟩
      refine tri_cond rfl (fun a1 => ?_) (fun a1 => ?_)
      ·
        simp only [decide_eq_true_eq] at a1
        refine seq_run okH2 rfl (by repeat (first | with_reducible exact runf_nil | refine runf_cons (by simp only [xstep, stepf, stepx, evsA, qev, St.ev, St.put, St.with, D.cell, C.dat, List.getElem?_cons_zero, List.getElem?_cons_succ, List.set_cons_zero, List.set_cons_succ, List.length_cons, List.length_nil, List.nil_append, List.append_nil, List.map_nil, List.all_cons, List.all_nil, Option.bind_some, Option.map_some, Bool.and_true, Bool.true_and, Nat.reduceEqDiff, if_true, if_false, and_self, decide_true, Option.some.injEq, Bool.false_eq_true, Nat.zero_add, beq_self_eq_true, Bool.and_self, Bool.true_or, callP, callO, dedup, rootsD, rootsC, List.flatMap_cons, List.flatMap_nil, List.filterMap_cons, List.filterMap_nil, argDs, argD, argC, List.contains_nil, objsAt, objOf, List.idxOf?, List.findIdx?, List.findIdx?.go, setObjs, D.ni, settle, settleDs, List.isEmpty_nil, FsH2, hF, a1]; rfl) ?_)) ?_
        refine seq_run okH2 rfl (by repeat (first | with_reducible exact runf_nil | refine runf_cons (by simp only [xstep, stepf, stepx, St.ev, St.put, D.cells, C.st, C.dat, storeA, putCells, List.getElem?_cons_zero, List.getElem?_cons_succ, List.set_cons_zero, List.set_cons_succ, List.length_cons, List.length_nil, List.nil_append, List.append_nil, List.all_cons, List.all_nil, List.take_zero, List.drop_succ_cons, List.drop_zero, Option.bind_some, Option.map_some, Nat.reduceAdd, if_true, and_self, Option.some.injEq, ne_eq, not_false_eq_true, reduceCtorEq, Nat.le_refl, Nat.reduceBNe, Bool.false_eq_true, implies_true, Nat.zero_add, Bool.and_self, tk39, tsz39, tsz2, tsz3, tsz4, tsz9, tsz37, buildA, partsA, fillA, tz39]; rfl) ?_)) ?_
        refine tri_ret (ends_ret (by simp only [outRes, resDs, resD, outD, outC, outCs, qload, cellsAt, qmk, C.cpy, TK.agg, C.cp, C.dat, List.getElem?_cons_zero, List.getElem?_cons_succ, List.length_cons, List.length_nil, List.append_nil, List.map_nil, List.map_cons, List.all_cons, List.all_nil, List.take_succ_cons, List.take_zero, List.drop_zero, Option.bind_some, Option.map_some, Nat.reduceAdd, if_true, and_self, Option.some.injEq, Nat.zero_add, Bool.and_self, tk39, tsz39]; rfl) rfl (by simp) (by simp) ?_)
        simp only [List.nil_append]
        (simp only [reduceIte, ↓reduceIte, valueF, hno, valC, val0, noText, eq_false a0] at hQ; with_reducible exact hQ)
      ·
        simp only [decide_eq_false_iff_not] at a1
        (exfalso; omega)
end Go.Dl
