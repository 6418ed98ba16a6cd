/- The walk of names; 'Dl', part Zq: structs by value whose slices nobody will change; Plain facts of the parser's parts; the walk of paper. -/
import Derived.Test.YtbefgbljlmnfoaaE12
import Derived.Test.YtbefgbljlmnfoaaE09
namespace Go.Dl
open Go.RowKit
open Go.Proofs
set_option linter.unusedSimpArgs false
set_option linter.unusedVariables false

def strC (s : ByteArray) : List C := [.v (.string s)]
theorem str_nb (l : List ByteArray) : rowsNB (l.map strC) = true := nb_map (fun _ => rfl)
def lbr : ByteArray := ⟨#[91]⟩
def rbr : ByteArray := ⟨#[93]⟩
def comma : ByteArray := ⟨#[44]⟩
def posPre (l : List Tok) (e : Int) : Prop := 0 ≤ e ∧ ∀ t ∈ l, 0 ≤ t.2.2
theorem fail_pos {l : List Tok} {e : Int} (h : posPre l e) (i : Nat) (bad : Int) : 0 ≤ failF l i e bad := by
  unfold failF hereF
  split
  · split
    · rename_i t ht; exact h.2 _ (List.mem_of_getElem? ht)
    · exact h.1
  · omega
theorem take_bad {l : List Tok} {i : Nat} {e bad k : Int} (h : 0 ≤ bad) : 0 ≤ (takeF l i e bad k).2.2 := by
  unfold takeF; rw [if_pos h]; exact h
/-- The names within brackets. -/
def namesGo (l : List Tok) (e : Int) : Nat → Nat → Nat → Int → List ByteArray → List ByteArray × Nat × Int
  | 0, _, i, bad, acc => (acc, i, bad)
  | k + 1, c, i, bad, acc => if bad < 0 then (if peekF l i bad rbr = true then (acc, i, bad)
      else if (0 : Int) < (c : Int) then (if (100 : Int) ≤ (c : Int) then namesGo l e k (c + 1) (takeF l (markF l i e bad comma).1 e (failF l (markF l i e bad comma).1 e (markF l i e bad comma).2) 2).2.1 (takeF l (markF l i e bad comma).1 e (failF l (markF l i e bad comma).1 e (markF l i e bad comma).2) 2).2.2 (acc ++ [(takeF l (markF l i e bad comma).1 e (failF l (markF l i e bad comma).1 e (markF l i e bad comma).2) 2).1])
        else namesGo l e k (c + 1) (takeF l (markF l i e bad comma).1 e (markF l i e bad comma).2 2).2.1 (takeF l (markF l i e bad comma).1 e (markF l i e bad comma).2 2).2.2 (acc ++ [(takeF l (markF l i e bad comma).1 e (markF l i e bad comma).2 2).1]))
      else namesGo l e k (c + 1) (takeF l i e bad 2).2.1 (takeF l i e bad 2).2.2 (acc ++ [(takeF l i e bad 2).1]))
    else (acc, i, bad)
def namesR (l : List Tok) (i : Nat) (e bad : Int) : List ByteArray × Nat × Int := namesGo l e 102 0 (markF l i e bad lbr).1 (markF l i e bad lbr).2 []
def namesF (l : List Tok) (i : Nat) (e bad : Int) : List ByteArray × Nat × Int := ((namesR l i e bad).1, markF l (namesR l i e bad).2.1 e (namesR l i e bad).2.2 rbr)

theorem names_eq {l : List Tok} {i : Nat} {e bad : Int} {r : List ByteArray × Nat × Int} (h : namesR l i e bad = r) : namesF l i e bad = (r.1, markF l r.2.1 e r.2.2 rbr) := by subst h; rfl

noncomputable def FsI1 : Fs := { pure := fun _ => none, objs := fun k => if k = 62 then some oFail else if k = 68 then some oTakeP else if k = 70 then some oMark else if k = 82 then some oPeek else none }
theorem okI1 : FsOK Try.prog FsI1 := by
  refine ⟨fun k f h => ?_, fun k f h => ?_⟩
  · cases h
  · simp only [FsI1] at h
    split at h
    · rename_i hk; subst hk; cases h; exact ⟨by kernel_rfl, meets62⟩
    split at h
    · rename_i hk; subst hk; cases h; exact ⟨by kernel_rfl, meets68⟩
    split at h
    · rename_i hk; subst hk; cases h; exact ⟨by kernel_rfl, meets70⟩
    split at h
    · rename_i hk; subst hk; cases h; exact ⟨by kernel_rfl, meets82⟩
    · cases h
noncomputable def oNames := famO (fun x : List Tok × Nat × Int × Int => paPre x.1 x.2.1 ∧ posPre x.1 x.2.2.1) (fun x => ([.c (.p 0 0 0)], [paObj x.1 x.2.1 x.2.2.1 x.2.2.2]))
  (fun x => (.c (.s true 1 ((namesF x.1 x.2.1 x.2.2.1 x.2.2.2).1.map strC)), [paObj x.1 (namesF x.1 x.2.1 x.2.2.1 x.2.2.2).2.1 x.2.2.1 (namesF x.1 x.2.1 x.2.2.1 x.2.2.2).2.2]))
theorem meets79 : Meets Try.prog 79 (detS oNames) := by
  refine meets_famO (show Try.prog.funcs[79]? = some Try.f79 by kernel_rfl) rfl (n := 35) rfl (rs := [ResultVar.tmp 2]) rfl ?_
  rintro ⟨l, i0, e, bad0⟩ ⟨⟨hl, hi0, hsz⟩, hpos⟩ Q hQ
  dsimp only at hl hi0 hsz hQ hpos
  simp only [paObj] at hQ
  have hM0 : oMark [.c (.p 0 0 0), .c (.v (.string ⟨#[91]⟩))] _ = _ := mark_at hl i0 e bad0 lbr hi0
  have hj0 : (markF l i0 e bad0 lbr).1 ≤ l.length := markF_le hi0
  obtain ⟨res, hres⟩ : ∃ res, namesR l i0 e bad0 = res := ⟨_, rfl⟩
  rw [names_eq hres] at hQ
  have hQ2 : ∀ a j b, (a, j, b) = res → Q (.c (.s true 1 (a.map strC))) [⟨4, [[.s false 3 (l.map tokC), .v (.int .i64 (markF l j e b rbr).1), .v (.int .i64 e), .v (.int .i64 (markF l j e b rbr).2)]]⟩] := by
    intro a j b h
    subst h
    exact hQ
  clear hQ
  simp only [namesR] at hres
  generalize hk0 : (102 : Nat) = k0 at hres
  generalize hm0 : markF l i0 e bad0 lbr = m0 at hres hM0 hj0
  obtain ⟨i1, bad1⟩ := m0
  dsimp only at hres hM0 hj0
  refine seq_run okI1 rfl (by repeat (first | with_reducible exact runf_nil | refine runf_cons (by simp only [xstep, stepf, stepx, qev, St.ev, St.put, constD, constC, Z5, Z6, List.replicate, Z9, Z10, Z23, Z12, Z13, Z24, Z4, Nat.reduceSub, Z3, Z14, paObj]; rfl) ?_)) ?_
  refine seq_run okI1 rfl (by repeat (first | with_reducible exact runf_nil | refine runf_cons (by simp only [xstep, stepf, stepx, qev, St.ev, St.put, constD, constC, Z5, Z6, Z4, Z3]; rfl) ?_)) ?_
  refine seq_run okI1 rfl (by repeat (first | with_reducible exact runf_nil | refine runf_cons (by simp only [xstep, stepf, stepx, evsA, qev, St.ev, St.put, St.with, D.cell, C.cpy, C.cp, C.dat, constD, constC, Z1, Z2, Z5, Z6, Z9, Z10, Z12, Z15, Z13, Z16, Z18, Z8, Z4, Bool.and_true, Bool.true_and, Nat.reduceEqDiff, if_true, if_false, and_self, Z3, Z7, Z14, beq_self_eq_true, Z26, Bool.true_or, callP, callO, dedup, rootsD, rootsC, List.flatMap_cons, List.flatMap_nil, List.filterMap_cons, List.filterMap_nil, argDs, argD, argC, List.contains_nil, objsAt, objOf, List.idxOf?, List.findIdx?, List.findIdx?.go, setObjs, D.ni, settle, settleDs, Z25, FsI1, hM0]; rfl) ?_)) ?_
  refine seq_in ?_
  refine seq_run okI1 rfl (by repeat (first | with_reducible exact runf_nil | refine runf_cons (by simp only [xstep, stepf, stepx, qev, St.ev, St.put, constD, constC, Z5, Z6, Z4, Z3]; rfl) ?_)) ?_
  refine tri_block ?_
  refine tri_nil 3 1 rfl ?_
  show Tri _ _ _ _
  refine tri_loop_le (fun m A => ∃ (k c i : Nat) (bad : Int) (acc : List ByteArray) (T : List (Option Root)), m = k ∧ c + k = 102 ∧ (c = 101 → 0 ≤ bad) ∧ c ≤ 101 ∧ i ≤ l.length ∧ acc.length = c ∧ namesGo l e k c i bad acc = res ∧ A = ⟨[.c (.p 0 0 0), .top, .c (.s true 0 []), .c (.h 1 0 acc.length), .c (.v (.int .i64 (c : Nat))), .top, .top, .top, .top, .top, .top, .top, .top, .top, .top, .top, .top, .top, .top, .top, .top, .top, .top, .top, .top, .top, .top, .top, .top, .top, .top, .top, .top, .top, .top], some ⟨false, 4, [[.s false 3 (l.map tokC), .v (.int .i64 i), .v (.int .i64 e), .v (.int .i64 bad)]]⟩ :: some ⟨true, 1, acc.map strC⟩ :: T⟩) k0 (B := ⟨[.c (.p 0 0 0), .top, .c (.s true 0 []), .c (.h 1 0 0), .c (.v (.int .i64 (0 : Nat))), .top, .top, .top, .top, .top, .top, .top, .top, .top, .top, .top, .top, .top, .top, .top, .top, .top, .top, .top, .top, .top, .top, .top, .top, .top, .top, .top, .top, .top, .top], [some ⟨false, 4, [[.s false 3 (l.map tokC), .v (.int .i64 i1), .v (.int .i64 e), .v (.int .i64 bad1)]]⟩, some ⟨true, 1, []⟩]⟩) ⟨by repeat (first | exact .nil | refine .same ?_ | refine .top ?_), rfl⟩ ⟨k0, 0, i1, bad1, [], [], rfl, by omega, by omega, by omega, hj0, rfl, hres, rfl⟩ ?_
  rintro m A ⟨k, c, i, bad, acc, T, rfl, hck, hcb, hc, hi, hacc, hk, rfl⟩
  obtain ⟨k, rfl⟩ : ∃ k, m = k + 1 := ⟨m - 1, by omega⟩
  have hq1 : (c : Int) + 1 = ((c + 1 : Nat) : Int) := by omega
  have hP : oPeek [.c (.p 0 0 0), .c (.v (.string ⟨#[93]⟩))] _ = _ := peek_at hl i e bad rbr hi
  have hR : oMark [.c (.p 0 0 0), .c (.v (.string ⟨#[93]⟩))] _ = _ := mark_at hl i e bad rbr hi
  have hC : oMark [.c (.p 0 0 0), .c (.v (.string ⟨#[44]⟩))] _ = _ := mark_at hl i e bad comma hi
  have hm : (markF l i e bad comma).1 ≤ l.length := markF_le hi
  have hF := fail_at hl (markF l i e bad comma).1 e (markF l i e bad comma).2 hm
  have hT1 := take_at hl i e bad 2 hi
  have hT2 := take_at hl (markF l i e bad comma).1 e (markF l i e bad comma).2 2 hm
  have hT3 := take_at hl (markF l i e bad comma).1 e (failF l (markF l i e bad comma).1 e (markF l i e bad comma).2) 2 hm
  have ht0 : (acc.map strC).take acc.length = acc.map strC := List.take_of_length_le (by simp)
  have hne : ∀ k : Nat, (k + 1 + 1 != 1) = true := (by intro k; simp)
  have hz : (acc.length + 1) * 16 ≤ 140737488355328 := by omega
  refine seq_in ?_
  by_cases a0 : (bad < 0)
  ·
    refine seq_run okI1 rfl (by repeat (first | with_reducible exact runf_nil | refine runf_cons (by simp only [xstep, stepf, stepx, evsA, qev, St.ev, St.put, St.with, D.cell, qload, cellsAt, qmk, C.cpy, TK.agg, qnil, qfieldAddr, qpick, qint, qshift, isShift, qbin, qun, liveR, C.cp, C.dat, constD, constC, Z1, Z2, Z5, Z6, Z9, Z10, Z12, Z15, Z13, Z24, Z16, Z18, Z17, Z20, Z19, Z21, Z8, Z4, Z11, Bool.and_true, Bool.true_and, Nat.reduceEqDiff, if_true, if_false, and_self, decide_true, cond_true, Z22, Z3, reduceCtorEq, Z7, Z14, beq_self_eq_true, Z26, Bool.true_or, callP, callO, dedup, rootsD, rootsC, List.flatMap_cons, List.flatMap_nil, List.filterMap_cons, List.filterMap_nil, argDs, argD, argC, List.contains_nil, objsAt, objOf, List.idxOf?, List.findIdx?, List.findIdx?.go, setObjs, D.ni, D.ni1, C.ni, settle, settle1, settleC, Z25, FsI1, hP, tk80, tsz3, tk3, eq_true a0]; rfl) ?_)) ?_
    refine tri_cond rfl (fun a1 => ?_) (fun a1 => ?_)
    ·
      simp only [Bool.not_eq_true'] at a1
      refine then_skip ?_
      refine seq_in (tri_block ?_)
      refine seq_in ?_
      refine seq_run okI1 rfl (by repeat (first | with_reducible exact runf_nil | refine runf_cons (by simp only [xstep, stepf, stepx, qev, St.ev, St.put, qint, qshift, isShift, qbin, constD, constC, Z1, Z2, Z5, Z6, Z4, Z11, if_true, if_false, Bool.not_false, Z3, Z7, a1]; rfl) ?_)) ?_
      refine tri_cond rfl (fun a2 => ?_) (fun a2 => ?_)
      ·
        simp only [decide_eq_true_eq] at a2
        refine run_end okI1 rfl (by repeat (first | with_reducible exact runf_nil | refine runf_cons (by simp only [xstep, stepf, stepx, evsA, qev, St.ev, St.put, St.with, D.cell, C.cpy, C.cp, C.dat, constD, constC, Z1, Z2, Z5, Z6, Z9, Z10, Z12, Z15, Z13, Z16, Z18, Z8, Z4, Bool.and_true, Bool.true_and, Nat.reduceEqDiff, if_true, if_false, and_self, decide_true, Z3, Z7, Z14, beq_self_eq_true, Z26, Bool.true_or, callP, callO, dedup, rootsD, rootsC, List.flatMap_cons, List.flatMap_nil, List.filterMap_cons, List.filterMap_nil, argDs, argD, argC, List.contains_nil, objsAt, objOf, List.idxOf?, List.findIdx?, List.findIdx?.go, setObjs, D.ni, settle, settleDs, Z25, FsI1, hC, a2]; rfl) ?_)) ?_
        show Tri _ _ _ _
        refine seq_in ?_
        refine seq_run okI1 rfl (by repeat (first | with_reducible exact runf_nil | refine runf_cons (by simp only [xstep, stepf, stepx, qev, St.ev, St.put, qint, qshift, isShift, qbin, constD, constC, Z1, Z2, Z5, Z6, Z4, Z11, if_true, if_false, Z3, Z7]; rfl) ?_)) ?_
        refine tri_cond rfl (fun a3 => ?_) (fun a3 => ?_)
        ·
          simp only [decide_eq_true_eq] at a3
          refine run_end okI1 rfl (by repeat (first | with_reducible exact runf_nil | refine runf_cons (by simp only [xstep, stepf, stepx, evsA, qev, St.ev, St.put, St.with, D.cell, C.dat, Z1, Z2, Z5, Z6, Z9, Z10, Z12, Z15, Z13, Z16, Z18, Z8, Z4, Bool.and_true, Bool.true_and, Nat.reduceEqDiff, if_true, if_false, and_self, decide_true, Z3, Z7, Z14, beq_self_eq_true, Z26, Bool.true_or, callP, callO, dedup, rootsD, rootsC, List.flatMap_cons, List.flatMap_nil, List.filterMap_cons, List.filterMap_nil, argDs, argD, argC, List.contains_nil, objsAt, objOf, List.idxOf?, List.findIdx?, List.findIdx?.go, setObjs, D.ni, settle, settleDs, Z25, FsI1, hF, a3]; rfl) ?_)) ?_
          show Tri _ _ _ _
          refine run_end okI1 rfl (by repeat (first | with_reducible exact runf_nil | refine runf_cons (by simp only [xstep, stepf, stepx, evsA, qev, St.ev, St.put, St.with, D.cells, D.cell, C.cpy, C.st, C.cp, C.dat, putCells, constD, constC, Z1, Z2, Z5, Z6, Z9, Z10, Z23, Z12, Z15, Z13, Z24, Z16, Z18, Z17, Z20, Z19, Z21, Z8, Z4, Bool.and_true, Bool.true_and, Nat.reduceMul, Nat.reduceEqDiff, if_true, if_false, and_self, Z3, ne_eq, not_false_eq_true, reduceCtorEq, Nat.reduceLeDiff, Nat.le_refl, Nat.reduceBNe, Z7, Z14, bne_self_eq_false, beq_self_eq_true, Z26, Bool.true_or, callP, callO, dedup, rootsD, rootsC, List.flatMap_cons, List.flatMap_nil, List.filterMap_cons, List.filterMap_nil, argDs, argD, argC, List.contains_nil, objsAt, objOf, List.idxOf?, List.findIdx?, List.findIdx?.go, setObjs, D.ni, D.ni1, C.ni, settle, settle1, settleC, Z25, FsI1, hT3, ht0, hne, hz, last_get, buildSliceA, partsA, fillA, reps, chop, tkApp, str_nb, appendA, srcRows, srcOther, D.kill, D.no, C.no, C.kill, killH, Root.kill, D.nos, tk28, tz9, tsz9, bo9]; rfl) ?_)) ?_
          show Tri _ _ _ _
          refine run_end okI1 rfl (by repeat (first | with_reducible exact runf_nil | refine runf_cons (by simp only [xstep, stepf, stepx, qev, St.ev, St.put, qint, qshift, isShift, qbin, constD, constC, Z1, Z2, Z5, Z6, Z4, Z11, if_true, if_false, Z3, Z7, hq1, show IntKind.i64.wrap (↑(c + 1) : Int) = _ from wrap_i64 _ (by omega) (by omega)]; rfl) ?_)) ?_
          simp only []
          (simp only [namesGo, reduceIte, Z7, ↓reduceIte, eq_true a0, a1, a2, a3] at hk; exact ⟨k, by omega, ⟨[.c (.p 0 0 0), .top, .c (.s true 0 []), .c (.h 1 0 (acc ++ [(takeF l (markF l i e bad comma).1 e (failF l (markF l i e bad comma).1 e (markF l i e bad comma).2) 2).1]).length), .c (.v (.int .i64 (c + 1 : Nat))), .top, .top, .top, .top, .top, .top, .top, .top, .top, .top, .top, .top, .top, .top, .top, .top, .top, .top, .top, .top, .top, .top, .top, .top, .top, .top, .top, .top, .top, .top], some ⟨false, 4, [[.s false 3 (l.map tokC), .v (.int .i64 (takeF l (markF l i e bad comma).1 e (failF l (markF l i e bad comma).1 e (markF l i e bad comma).2) 2).2.1), .v (.int .i64 e), .v (.int .i64 (takeF l (markF l i e bad comma).1 e (failF l (markF l i e bad comma).1 e (markF l i e bad comma).2) 2).2.2)]]⟩ :: some ⟨true, 1, (acc ++ [(takeF l (markF l i e bad comma).1 e (failF l (markF l i e bad comma).1 e (markF l i e bad comma).2) 2).1]).map strC⟩ :: List.map (fun o => Option.map (Root.kill 1) o) (T ++ [some ⟨true, 1, [strC (takeF l (markF l i e bad comma).1 e (failF l (markF l i e bad comma).1 e (markF l i e bad comma).2) 2).1]⟩])⟩, ⟨(by rw [show (acc ++ [(takeF l (markF l i e bad comma).1 e (failF l (markF l i e bad comma).1 e (markF l i e bad comma).2) 2).1]).length = acc.length + 1 from by simp]; repeat (first | exact .nil | refine .same ?_ | refine .top ?_)), (by rw [show (acc ++ [(takeF l (markF l i e bad comma).1 e (failF l (markF l i e bad comma).1 e (markF l i e bad comma).2) 2).1]).map strC = acc.map strC ++ [strC (takeF l (markF l i e bad comma).1 e (failF l (markF l i e bad comma).1 e (markF l i e bad comma).2) 2).1] from List.map_append]; rfl)⟩, k, c + 1, (takeF l (markF l i e bad comma).1 e (failF l (markF l i e bad comma).1 e (markF l i e bad comma).2) 2).2.1, (takeF l (markF l i e bad comma).1 e (failF l (markF l i e bad comma).1 e (markF l i e bad comma).2) 2).2.2, acc ++ [(takeF l (markF l i e bad comma).1 e (failF l (markF l i e bad comma).1 e (markF l i e bad comma).2) 2).1], _, rfl, by omega, (fun _ => take_bad (fail_pos hpos _ _)), by omega, takeF_le hm, (by simp [hacc]), hk, rfl⟩)
        ·
          simp only [decide_eq_false_iff_not] at a3
          refine then_skip ?_
          refine run_end okI1 rfl (by repeat (first | with_reducible exact runf_nil | refine runf_cons (by simp only [xstep, stepf, stepx, evsA, qev, St.ev, St.put, St.with, D.cells, D.cell, C.cpy, C.st, C.cp, C.dat, putCells, constD, constC, Z1, Z2, Z5, Z6, Z9, Z10, Z23, Z12, Z15, Z13, Z24, Z16, Z18, Z17, Z20, Z19, Z21, Z8, Z4, Bool.and_true, Bool.true_and, Nat.reduceMul, Nat.reduceEqDiff, if_true, if_false, and_self, decide_false, Z3, ne_eq, not_false_eq_true, reduceCtorEq, Nat.reduceLeDiff, Nat.le_refl, Nat.reduceBNe, Z7, Z14, bne_self_eq_false, beq_self_eq_true, Z26, Bool.true_or, callP, callO, dedup, rootsD, rootsC, List.flatMap_cons, List.flatMap_nil, List.filterMap_cons, List.filterMap_nil, argDs, argD, argC, List.contains_nil, objsAt, objOf, List.idxOf?, List.findIdx?, List.findIdx?.go, setObjs, D.ni, D.ni1, C.ni, settle, settle1, settleC, Z25, FsI1, hT2, ht0, hne, hz, last_get, buildSliceA, partsA, fillA, reps, chop, tkApp, str_nb, appendA, srcRows, srcOther, D.kill, D.no, C.no, C.kill, killH, Root.kill, D.nos, a3, tk28, tz9, tsz9, bo9]; rfl) ?_)) ?_
          show Tri _ _ _ _
          refine run_end okI1 rfl (by repeat (first | with_reducible exact runf_nil | refine runf_cons (by simp only [xstep, stepf, stepx, qev, St.ev, St.put, qint, qshift, isShift, qbin, constD, constC, Z1, Z2, Z5, Z6, Z4, Z11, if_true, if_false, Z3, Z7, hq1, show IntKind.i64.wrap (↑(c + 1) : Int) = _ from wrap_i64 _ (by omega) (by omega)]; rfl) ?_)) ?_
          simp only []
          (simp only [namesGo, reduceIte, Z7, ↓reduceIte, eq_true a0, a1, a2, a3] at hk; exact ⟨k, by omega, ⟨[.c (.p 0 0 0), .top, .c (.s true 0 []), .c (.h 1 0 (acc ++ [(takeF l (markF l i e bad comma).1 e (markF l i e bad comma).2 2).1]).length), .c (.v (.int .i64 (c + 1 : Nat))), .top, .top, .top, .top, .top, .top, .top, .top, .top, .top, .top, .top, .top, .top, .top, .top, .top, .top, .top, .top, .top, .top, .top, .top, .top, .top, .top, .top, .top, .top], some ⟨false, 4, [[.s false 3 (l.map tokC), .v (.int .i64 (takeF l (markF l i e bad comma).1 e (markF l i e bad comma).2 2).2.1), .v (.int .i64 e), .v (.int .i64 (takeF l (markF l i e bad comma).1 e (markF l i e bad comma).2 2).2.2)]]⟩ :: some ⟨true, 1, (acc ++ [(takeF l (markF l i e bad comma).1 e (markF l i e bad comma).2 2).1]).map strC⟩ :: List.map (fun o => Option.map (Root.kill 1) o) (T ++ [some ⟨true, 1, [strC (takeF l (markF l i e bad comma).1 e (markF l i e bad comma).2 2).1]⟩])⟩, ⟨(by rw [show (acc ++ [(takeF l (markF l i e bad comma).1 e (markF l i e bad comma).2 2).1]).length = acc.length + 1 from by simp]; repeat (first | exact .nil | refine .same ?_ | refine .top ?_)), (by rw [show (acc ++ [(takeF l (markF l i e bad comma).1 e (markF l i e bad comma).2 2).1]).map strC = acc.map strC ++ [strC (takeF l (markF l i e bad comma).1 e (markF l i e bad comma).2 2).1] from List.map_append]; rfl)⟩, k, c + 1, (takeF l (markF l i e bad comma).1 e (markF l i e bad comma).2 2).2.1, (takeF l (markF l i e bad comma).1 e (markF l i e bad comma).2 2).2.2, acc ++ [(takeF l (markF l i e bad comma).1 e (markF l i e bad comma).2 2).1], _, rfl, by omega, (by omega), by omega, takeF_le hm, (by simp [hacc]), hk, rfl⟩)
      ·
        simp only [decide_eq_false_iff_not] at a2
        refine then_skip ?_
        refine seq_in ?_
        refine seq_run okI1 rfl (by repeat (first | with_reducible exact runf_nil | refine runf_cons (by simp only [xstep, stepf, stepx, qev, St.ev, St.put, qint, qshift, isShift, qbin, constD, constC, Z1, Z2, Z5, Z6, Z4, Z11, if_true, if_false, decide_false, Z3, Z7, a2]; rfl) ?_)) ?_
        refine tri_cond rfl (fun a4 => ?_) (fun a4 => ?_)
        ·
          simp only [decide_eq_true_eq] at a4
          (exfalso; omega)
        ·
          simp only [decide_eq_false_iff_not] at a4
          refine then_skip ?_
          refine run_end okI1 rfl (by repeat (first | with_reducible exact runf_nil | refine runf_cons (by simp only [xstep, stepf, stepx, evsA, qev, St.ev, St.put, St.with, D.cells, D.cell, C.cpy, C.st, C.cp, C.dat, putCells, constD, constC, Z1, Z2, Z5, Z6, Z9, Z10, Z23, Z12, Z15, Z13, Z24, Z16, Z18, Z17, Z20, Z19, Z21, Z8, Z4, Bool.and_true, Bool.true_and, Nat.reduceMul, Nat.reduceEqDiff, if_true, if_false, and_self, decide_false, Z3, ne_eq, not_false_eq_true, reduceCtorEq, Nat.reduceLeDiff, Nat.le_refl, Nat.reduceBNe, Z7, Z14, bne_self_eq_false, beq_self_eq_true, Z26, Bool.true_or, callP, callO, dedup, rootsD, rootsC, List.flatMap_cons, List.flatMap_nil, List.filterMap_cons, List.filterMap_nil, argDs, argD, argC, List.contains_nil, objsAt, objOf, List.idxOf?, List.findIdx?, List.findIdx?.go, setObjs, D.ni, D.ni1, C.ni, settle, settle1, settleC, Z25, FsI1, hT1, ht0, hne, hz, last_get, buildSliceA, partsA, fillA, reps, chop, tkApp, str_nb, appendA, srcRows, srcOther, D.kill, D.no, C.no, C.kill, killH, Root.kill, a4, tk28, tz9, tsz9, bo9]; rfl) ?_)) ?_
          show Tri _ _ _ _
          refine run_end okI1 rfl (by repeat (first | with_reducible exact runf_nil | refine runf_cons (by simp only [xstep, stepf, stepx, qev, St.ev, St.put, qint, qshift, isShift, qbin, constD, constC, Z1, Z2, Z5, Z6, Z4, Z11, if_true, if_false, Z3, Z7, hq1, show IntKind.i64.wrap (↑(c + 1) : Int) = _ from wrap_i64 _ (by omega) (by omega)]; rfl) ?_)) ?_
          simp only []
          (simp only [namesGo, reduceIte, Z7, ↓reduceIte, eq_true a0, a1, a2] at hk; exact ⟨k, by omega, ⟨[.c (.p 0 0 0), .top, .c (.s true 0 []), .c (.h 1 0 (acc ++ [(takeF l i e bad 2).1]).length), .c (.v (.int .i64 (c + 1 : Nat))), .top, .top, .top, .top, .top, .top, .top, .top, .top, .top, .top, .top, .top, .top, .top, .top, .top, .top, .top, .top, .top, .top, .top, .top, .top, .top, .top, .top, .top, .top], some ⟨false, 4, [[.s false 3 (l.map tokC), .v (.int .i64 (takeF l i e bad 2).2.1), .v (.int .i64 e), .v (.int .i64 (takeF l i e bad 2).2.2)]]⟩ :: some ⟨true, 1, (acc ++ [(takeF l i e bad 2).1]).map strC⟩ :: List.map (fun o => Option.map (Root.kill 1) o) (T ++ [some ⟨true, 1, [strC (takeF l i e bad 2).1]⟩])⟩, ⟨(by rw [show (acc ++ [(takeF l i e bad 2).1]).length = acc.length + 1 from by simp]; repeat (first | exact .nil | refine .same ?_ | refine .top ?_)), (by rw [show (acc ++ [(takeF l i e bad 2).1]).map strC = acc.map strC ++ [strC (takeF l i e bad 2).1] from List.map_append]; rfl)⟩, k, c + 1, (takeF l i e bad 2).2.1, (takeF l i e bad 2).2.2, acc ++ [(takeF l i e bad 2).1], _, rfl, by omega, (by omega), by omega, takeF_le hi, (by simp [hacc]), hk, rfl⟩)
    ·
      simp only [Bool.not_eq_false'] at a1
      refine tri_exit ?_
      show Tri _ _ _ _
      refine seq_run okI1 rfl (by repeat (first | with_reducible exact runf_nil | refine runf_cons (by simp only [xstep, stepf, stepx, evsA, qev, St.ev, St.put, St.with, D.cell, C.cpy, C.cp, C.dat, constD, constC, Z1, Z2, Z5, Z6, Z9, Z10, Z12, Z15, Z13, Z16, Z18, Z8, Z4, Bool.and_true, Bool.true_and, Nat.reduceEqDiff, if_true, if_false, and_self, Bool.not_true, Z3, Z7, Z14, beq_self_eq_true, Z26, Bool.true_or, callP, callO, dedup, rootsD, rootsC, List.flatMap_cons, List.flatMap_nil, List.filterMap_cons, List.filterMap_nil, argDs, argD, argC, List.contains_nil, objsAt, objOf, List.idxOf?, List.findIdx?, List.findIdx?.go, setObjs, D.ni, settle, settleDs, Z25, FsI1, hR, a1]; rfl) ?_)) ?_
      refine seq_run okI1 rfl (by repeat (first | with_reducible exact runf_nil | refine runf_cons (by simp only [xstep, stepf, stepx, qev, St.ev, St.put, Z1, Z2, Z5, Z6, Z4, Z3]; rfl) ?_)) ?_
      refine tri_ret (ends_ret (by simp only [outRes, resDs, resD, outD, outC, Z1, Z2, Z4, if_true, and_self, Z3, ne_eq, not_false_eq_true, reduceCtorEq, List.length_map]; rfl) rfl (by simp) (by simp) ?_)
      simp only [Z12]
      (simp only [namesGo, reduceIte, ↓reduceIte, eq_true a0, a1] at hk; with_reducible exact hQ2 _ _ _ hk)
  ·
    refine seq_run okI1 rfl (by repeat (first | with_reducible exact runf_nil | refine runf_cons (by simp only [xstep, stepf, stepx, evsA, qev, St.ev, St.put, D.cell, qload, cellsAt, qmk, C.cpy, TK.agg, qnil, qfieldAddr, qpick, qint, qshift, isShift, qbin, qun, liveR, C.cp, C.dat, constD, constC, Z1, Z2, Z5, Z6, Z9, Z10, Z12, Z15, Z13, Z24, Z16, Z18, Z17, Z20, Z19, Z21, Z8, Z4, Z11, Nat.reduceEqDiff, if_true, if_false, and_self, decide_false, cond_false, Z22, Z3, reduceCtorEq, Z7, Z14, Z26, callP, callO, dedup, rootsD, rootsC, List.flatMap_cons, List.flatMap_nil, List.filterMap_cons, List.filterMap_nil, argDs, argD, argC, objsAt, FsI1, tk80, tsz3, tk3, eq_false a0]; rfl) ?_)) ?_
    refine tri_cond (b := false) rfl (fun h => by cases h) (fun _ => ?_)
    refine tri_exit ?_
    show Tri _ _ _ _
    refine seq_run okI1 rfl (by repeat (first | with_reducible exact runf_nil | refine runf_cons (by simp only [xstep, stepf, stepx, evsA, qev, St.ev, St.put, St.with, D.cell, C.cpy, C.cp, C.dat, constD, constC, Z1, Z2, Z5, Z6, Z9, Z10, Z12, Z15, Z13, Z16, Z18, Z8, Z4, Bool.and_true, Bool.true_and, Nat.reduceEqDiff, if_true, if_false, and_self, Z3, Z7, Z14, beq_self_eq_true, Z26, Bool.true_or, callP, callO, dedup, rootsD, rootsC, List.flatMap_cons, List.flatMap_nil, List.filterMap_cons, List.filterMap_nil, argDs, argD, argC, List.contains_nil, objsAt, objOf, List.idxOf?, List.findIdx?, List.findIdx?.go, setObjs, D.ni, settle, settleDs, Z25, FsI1, hR]; rfl) ?_)) ?_
    refine seq_run okI1 rfl (by repeat (first | with_reducible exact runf_nil | refine runf_cons (by simp only [xstep, stepf, stepx, qev, St.ev, St.put, Z1, Z2, Z5, Z6, Z4, Z3]; rfl) ?_)) ?_
    refine tri_ret (ends_ret (by simp only [outRes, resDs, resD, outD, outC, Z1, Z2, Z4, if_true, and_self, Z3, ne_eq, not_false_eq_true, reduceCtorEq, List.length_map]; rfl) rfl (by simp) (by simp) ?_)
    simp only [Z12]
    (simp only [namesGo, reduceIte, ↓reduceIte, eq_false a0] at hk; with_reducible exact hQ2 _ _ _ hk)
end Go.Dl

namespace Go.Dl
open Go.RowKit

/-- A cell that nobody will change. -/
def C.frz : C → C
  | .s true es rows => if (rows.all fun row => row.all C.cp) = true then .s false es rows else .s true es rows
  | c => c

def D.frzA : D → D
  | .agg xs => .agg (xs.map C.frz)
  | d => d

theorem frzC1 {w : World} {S : Nat → Prop} {c : C} {v : Value} {f : List Nat} (h : Rep w S [] (.k false c v) f) : ∃ f0 f1, f.Perm (f0 ++ f1) ∧ Rep w (fun x => S x ∨ x ∈ f0) [] (.k false c.frz v) f1 := by
  unfold C.frz
  split
  · rename_i es rows
    split
    · rename_i hc
      cases h with
      | nilO => exact ⟨[], [], .refl _, .nilI⟩
      | own hz hb hc' hl hr =>
        rename_i b off cap fp
        have hfp := cells_cp hr (rows_cp hc)
        subst hfp
        exact ⟨[b], [], .refl _, .imm (.inr (by simp)) hc' hl (hr.mono (fun _ h => .inl h) (.refl _ _) (fun _ _ => rfl))⟩
    · exact ⟨[], f, .refl _, h.mono (fun _ h => .inl h) (.refl _ _) (fun _ _ => rfl)⟩
  · exact ⟨[], f, .refl _, h.mono (fun _ h => .inl h) (.refl _ _) (fun _ _ => rfl)⟩

theorem frzCs {w : World} {S : Nat → Prop} : ∀ {cs : List C} {vs : List Value} {f : List Nat}, Rep w S [] (.vs cs vs) f → ∃ f0 f1, f.Perm (f0 ++ f1) ∧ Rep w (fun x => S x ∨ x ∈ f0) [] (.vs (cs.map C.frz) vs) f1
  | [], _, _, h => by cases h; exact ⟨[], [], .refl _, .vnil⟩
  | c :: cs, _, _, h => by
    cases h with
    | vcons h1 h2 =>
      obtain ⟨a0, a1, p1, r1⟩ := frzC1 h1
      obtain ⟨b0, b1, p2, r2⟩ := frzCs h2
      refine ⟨a0 ++ b0, a1 ++ b1, (p1.append p2).trans ?_, .vcons (r1.mono (fun x h => h.imp id fun h => List.mem_append_left _ h) (.refl _ _) (fun _ _ => rfl)) (r2.mono (fun x h => h.imp id fun h => List.mem_append_right _ h) (.refl _ _) (fun _ _ => rfl))⟩
      rw [List.append_assoc, List.append_assoc]
      refine List.Perm.append_left _ ?_
      rw [← List.append_assoc, ← List.append_assoc]
      exact List.Perm.append_right _ List.perm_append_comm

theorem left_frzA {w w' : World} {S : Nat → Prop} {pls : List Pl} {fps : List (List Nat)} {d : D} {v : Value} {objs' : List Obj} (h : Left w w' S pls fps d v objs') : Left w w' S pls fps d.frzA v objs' := by
  unfold D.frzA
  split
  · rename_i xs
    refine ⟨h.size, h.keep, h.os, h.tape, h.output, ?_⟩
    obtain ⟨S', pls', fps', fpd, l1, l2, l3, l4, l5, l6, l7⟩ := h.rest
    obtain ⟨arr, hv, h3⟩ := (show ∃ arr : Array Value, v = .agg arr ∧ Rep w' S' [] (.vs xs arr.toList) fpd from l3)
    obtain ⟨f0, f1, hp, hr⟩ := frzCs h3
    have hm : ∀ x, x ∈ fpd ↔ x ∈ f0 ∨ x ∈ f1 := fun x => by rw [hp.mem_iff, List.mem_append]
    have hnd : (f0 ++ f1).Nodup := hp.nodup_iff.1 (List.nodup_append.1 l5).1
    refine ⟨fun x => S' x ∨ x ∈ f0, pls', fps', f1, fun x hx => .inl (l1 x hx), fun x hx => ?_, ⟨arr, hv, hr⟩, ?_, ?_, ?_, l7⟩
    · rcases hx with hx | hx
      · exact l2 x hx
      · have := l6 x (List.mem_append_left _ ((hm x).2 (.inl hx)))
        exact ⟨this.2.1, .inr this.2.2⟩
    · obtain ⟨m1, m2, m3⟩ := l4
      refine ⟨m1, m2, fun i ob hob => ?_⟩
      obtain ⟨p, f, r1, r2, r3⟩ := m3 i ob hob
      exact ⟨p, f, r1, r2, r3.mono (fun _ h => .inl h) (.refl _ _) (fun _ _ => rfl)⟩
    · have l5' := List.nodup_append.1 l5
      exact List.nodup_append.2 ⟨(List.nodup_append.1 hnd).2.1, l5'.2.1, fun x hx y hy hxy => l5'.2.2 x ((hm x).2 (.inr hx)) y hy hxy⟩
    · intro x hx
      rcases List.mem_append.1 hx with h | h
      · obtain ⟨r1, r2, r3⟩ := l6 x (List.mem_append_left _ ((hm x).2 (.inr h)))
        refine ⟨?_, r2, r3⟩
        rintro (h' | h')
        · exact r1 h'
        · exact (List.nodup_append.1 hnd).2.2 x h' x h rfl
      · obtain ⟨r1, r2, r3⟩ := l6 x (List.mem_append_right _ h)
        refine ⟨?_, r2, r3⟩
        rintro (h' | h')
        · exact r1 h'
        · exact (List.nodup_append.1 l5).2.2 x ((hm x).2 (.inl h')) x h rfl
  · exact h

theorem meets_frzA {P : Program} {k : FuncId} {spec : Spec} (h : Meets P k spec) : Meets P k (fun args objs Q => spec args objs (fun d os => Q d.frzA os)) := by
  intro args objs Q hs w S vs pls fps h1 h2 h3 h4 h5 h6
  refine (h args objs _ hs w S vs pls fps h1 h2 h3 h4 h5 h6).mono ?_
  rintro e w' ⟨v, d, os, e1, hq, hl, left⟩
  exact ⟨v, d.frzA, os, e1, hq, hl, left_frzA left⟩

theorem meets_frzAO {P : Program} {k : FuncId} {f : List D → List Obj → Option (D × List Obj)} (h : Meets P k (detS f)) : Meets P k (detS fun a o => (f a o).map fun r => (r.1.frzA, r.2)) := by
  intro args objs Q hs
  refine meets_frzA h args objs Q ?_
  obtain ⟨d, os, h2, h3⟩ := hs
  cases hf : f args objs with
  | none => simp only [hf] at h2; cases h2
  | some d0 => simp only [hf] at h2; cases h2; exact ⟨d0.1, d0.2, hf, h3⟩
theorem meets_frzAP {P : Program} {k : FuncId} {f : List D → Option D} (h : Meets P k (pureS f)) : Meets P k (pureS fun a => (f a).map D.frzA) := by
  intro args objs Q hs
  refine meets_frzA h args objs Q ?_
  obtain ⟨h1, d, h2, h3⟩ := hs
  cases hf : f args with
  | none => simp only [hf] at h2; cases h2
  | some d0 => simp only [hf] at h2; cases h2; exact ⟨h1, d0, hf, h3⟩
end Go.Dl

namespace Go.Dl
open Go.RowKit
open Go.Proofs
set_option linter.unusedSimpArgs false
set_option linter.unusedVariables false

def okPre (l : List Tok) (i : Nat) (e : Int) : Prop := paPre l i ∧ numPre l ∧ posPre l e
theorem okPre.at {l : List Tok} {i : Nat} {e : Int} (h : okPre l i e) {j : Nat} (hj : j ≤ l.length) : okPre l j e := ⟨⟨h.1.1, hj, h.1.2.2⟩, h.2⟩
def numT (l : List Tok) (i : Nat) (e bad : Int) : Int × Nat × Int := (numberF l i e bad).getD (0, i, bad)
theorem numT_some {l : List Tok} {i : Nat} {e bad : Int} (h : okPre l i e) : numberF l i e bad = some (numT l i e bad) := by
  have hx : ∃ r, numberF l i e bad = some r := by
    by_cases h0 : 0 ≤ (takeF l i e bad 1).2.2
    · unfold numberF; rw [if_pos h0]; exact ⟨_, rfl⟩
    · have h1 : ∃ t, l[i]? = some t ∧ t.1 = 1 := by
        have hf := fail_pos h.2.2 i bad
        unfold takeF at h0
        split at h0
        · exfalso; apply h0; assumption
        · split at h0
          · rename_i t ht
            split at h0
            · rename_i hk; exact ⟨t, ht, hk⟩
            · exact absurd hf h0
          · exact absurd hf h0
      obtain ⟨t, ht, hk⟩ := h1
      exact numberF_some h.1 h.2.1 ht hk
  obtain ⟨r, hr⟩ := hx
  unfold numT; rw [hr]; rfl
theorem numberF_le {l : List Tok} {i : Nat} {e bad : Int} {r : Int × Nat × Int} (h : numberF l i e bad = some r) (hi : i ≤ l.length) : r.2.1 ≤ l.length := by
  have ht := takeF_le (e := e) (bad := bad) (k := 1) hi
  unfold numberF at h
  repeat' split at h
  all_goals first | (cases h; first | exact ht | exact hi) | cases h
theorem numT_le {l : List Tok} {i : Nat} {e bad : Int} (h : okPre l i e) : (numT l i e bad).2.1 ≤ l.length := numberF_le (numT_some h) h.1.2.1
theorem floatF_le {l : List Tok} {i : Nat} {e bad : Int} (hi : i ≤ l.length) : (floatF l i e bad).2.1 ≤ l.length := by
  have hA : (flA l i e bad).1 ≤ l.length := markF_le hi
  have hB : (flB l i e bad).2.1 ≤ l.length := takeF_le hA
  unfold floatF
  split
  · exact hB
  · split
    · exact hA
    · split
      · exact markF_le hA
      · exact markF_le hB
theorem wordF_le {l : List Tok} {i : Nat} {e bad : Int} {w : ByteArray} (hi : i < l.length) : (wordF l i e bad w).2.1 ≤ l.length := by
  unfold wordF
  split
  · exact hi
  split
  · exact hi
  split
  · exact hi
  split
  · exact floatF_le hi
  · exact Nat.le_of_lt hi
theorem valueF_le {l : List Tok} {i : Nat} {e bad : Int} (hi : i ≤ l.length) : (valueF l i e bad).2.1 ≤ l.length := by
  unfold valueF
  split
  · exact hi
  · split
    · exact hi
    · rename_i t ht
      have hlt : i < l.length := (List.getElem?_eq_some_iff.1 ht).1
      split
      · split
        · rename_i r hr; exact numberF_le hr hi
        · exact hi
      split
      · exact hlt
      split
      · exact wordF_le hlt
      · exact hi
theorem num_at {l : List Tok} (i : Nat) (e bad : Int) (h : okPre l i e) : oNumber [.c (.p 0 0 0)] [⟨4, [[.s false 3 (l.map tokC), .v (.int .i64 i), .v (.int .i64 e), .v (.int .i64 bad)]]⟩] =
    some (.c (.v (.int .i64 (numT l i e bad).1)), [⟨4, [[.s false 3 (l.map tokC), .v (.int .i64 (numT l i e bad).2.1), .v (.int .i64 e), .v (.int .i64 (numT l i e bad).2.2)]]⟩]) :=
  number_at i e bad h.1 (numT_some h)
theorem value_at {l : List Tok} (i : Nat) (e bad : Int) (h : okPre l i e) : oValue [.c (.p 0 0 0)] [⟨4, [[.s false 3 (l.map tokC), .v (.int .i64 i), .v (.int .i64 e), .v (.int .i64 bad)]]⟩] =
    some (.agg (valC (valueF l i e bad).1), [⟨4, [[.s false 3 (l.map tokC), .v (.int .i64 (valueF l i e bad).2.1), .v (.int .i64 e), .v (.int .i64 (valueF l i e bad).2.2)]]⟩]) :=
  famO_at (fun x y h => pa_inj4 x y h) (l, i, e, bad) ⟨h.1, h.2.1⟩ rfl

abbrev Fld := ByteArray × Val
def fldC (f : Fld) : List C := [.v (.string f.1), .v (.int .i64 f.2.1), .v (.bool f.2.2.1), .v (.int .i64 f.2.2.2.1), .v (.int .u64 f.2.2.2.2.1), .v (.string f.2.2.2.2.2)]
theorem fld_nb (l : List Fld) : rowsNB (l.map fldC) = true := nb_map (fun _ => rfl)
theorem fld_cp (l : List Fld) : ((l.map fldC).all fun row => row.all C.cp) = true := by
  rw [List.all_eq_true]
  intro row h
  obtain ⟨x, _, rfl⟩ := List.mem_map.1 h
  rfl
def eqm : ByteArray := ⟨#[61]⟩
def paQ (l : List Tok) (e : Int) (i : Nat) (bad : Int) : Nat × Int := markF l (takeF l i e bad 2).2.1 e (takeF l i e bad 2).2.2 eqm
def paV (l : List Tok) (e : Int) (i : Nat) (bad : Int) : Val × Nat × Int := valueF l (paQ l e i bad).1 e (paQ l e i bad).2
def paFld (l : List Tok) (e : Int) (i : Nat) (bad : Int) : Fld := ((takeF l i e bad 2).1, (paV l e i bad).1)
theorem paQ_le {l : List Tok} {e : Int} {i : Nat} {bad : Int} (hi : i ≤ l.length) : (paQ l e i bad).1 ≤ l.length := markF_le (takeF_le hi)
theorem paV_le {l : List Tok} {e : Int} {i : Nat} {bad : Int} (hi : i ≤ l.length) : (paV l e i bad).2.1 ≤ l.length := valueF_le (paQ_le hi)
theorem fail_bad {l : List Tok} {i : Nat} {e bad : Int} (h : 0 ≤ bad) : failF l i e bad = bad := by unfold failF; rw [if_neg (by omega)]
theorem peek_bad {l : List Tok} {i : Nat} {bad : Int} {m : ByteArray} (h : 0 ≤ bad) : peekF l i bad m = false := by unfold peekF; rw [show decide (bad < 0) = false from decide_eq_false (by omega)]; rfl
theorem mark_bad {l : List Tok} {i : Nat} {e bad : Int} {m : ByteArray} (h : 0 ≤ bad) : markF l i e bad m = (i, bad) := by
  unfold markF
  rw [peek_bad h, fail_bad h]; rfl
theorem take_bad2 {l : List Tok} {i : Nat} {e bad k : Int} (h : 0 ≤ bad) : (takeF l i e bad k).2 = (i, bad) := by unfold takeF; rw [if_pos h]
theorem value_bad {l : List Tok} {i : Nat} {e bad : Int} (h : 0 ≤ bad) : valueF l i e bad = (val0, i, bad) := by unfold valueF; rw [if_pos h, fail_bad h]
theorem paV_bad {l : List Tok} {e : Int} {i : Nat} {bad : Int} (h : 0 ≤ bad) : (paV l e i bad).2.2 = bad := by
  unfold paV paQ
  rw [take_bad2 h, mark_bad h, value_bad h]
/-- The fields of a paper. -/
def paperGo (l : List Tok) (e : Int) : Nat → Nat → Nat → Int → List Fld → List Fld × Nat × Int
  | 0, _, i, bad, acc => (acc, i, bad)
  | k + 1, c, i, bad, acc => if bad < 0 then (if peekF l i bad rpar = true then (acc, i, bad)
      else if (0 : Int) < (c : Int) then (if (100 : Int) ≤ (c : Int) then paperGo l e k (c + 1) (paV l e (markF l i e bad comma).1 (failF l (markF l i e bad comma).1 e (markF l i e bad comma).2)).2.1 (paV l e (markF l i e bad comma).1 (failF l (markF l i e bad comma).1 e (markF l i e bad comma).2)).2.2 (acc ++ [paFld l e (markF l i e bad comma).1 (failF l (markF l i e bad comma).1 e (markF l i e bad comma).2)])
        else paperGo l e k (c + 1) (paV l e (markF l i e bad comma).1 (markF l i e bad comma).2).2.1 (paV l e (markF l i e bad comma).1 (markF l i e bad comma).2).2.2 (acc ++ [paFld l e (markF l i e bad comma).1 (markF l i e bad comma).2]))
      else paperGo l e k (c + 1) (paV l e i bad).2.1 (paV l e i bad).2.2 (acc ++ [paFld l e i bad]))
    else (acc, i, bad)
abbrev Paper := ByteArray × Int × List Fld
def paI (l : List Tok) (i : Nat) (e bad : Int) : Int × Nat × Int := numT l (takeF l i e bad 2).2.1 e (takeF l i e bad 2).2.2
def paM (l : List Tok) (i : Nat) (e bad : Int) : Nat × Int := markF l (paI l i e bad).2.1 e (paI l i e bad).2.2 lpar
def paperR (l : List Tok) (i : Nat) (e bad : Int) : List Fld × Nat × Int := paperGo l e 102 0 (paM l i e bad).1 (paM l i e bad).2 []
def paperF (l : List Tok) (i : Nat) (e bad : Int) : Paper × Nat × Int := (((takeF l i e bad 2).1, (paI l i e bad).1, (paperR l i e bad).1), markF l (paperR l i e bad).2.1 e (paperR l i e bad).2.2 rpar)
theorem paper_eq {l : List Tok} {i : Nat} {e bad : Int} {r : List Fld × Nat × Int} (h : paperR l i e bad = r) : paperF l i e bad = (((takeF l i e bad 2).1, (paI l i e bad).1, r.1), markF l r.2.1 e r.2.2 rpar) := by subst h; rfl

noncomputable def FsJ1 : Fs := { pure := fun _ => none, objs := fun k => if k = 62 then some oFail else if k = 68 then some oTakeP else if k = 70 then some oMark else if k = 82 then some oPeek else if k = 63 then some oNumber else if k = 39 then some oValue else none }
theorem okJ1 : FsOK Try.prog FsJ1 := by
  refine ⟨fun k f h => ?_, fun k f h => ?_⟩
  · cases h
  · simp only [FsJ1] at h
    split at h
    · rename_i hk; subst hk; cases h; exact ⟨by kernel_rfl, meets62⟩
    split at h
    · rename_i hk; subst hk; cases h; exact ⟨by kernel_rfl, meets68⟩
    split at h
    · rename_i hk; subst hk; cases h; exact ⟨by kernel_rfl, meets70⟩
    split at h
    · rename_i hk; subst hk; cases h; exact ⟨by kernel_rfl, meets82⟩
    split at h
    · rename_i hk; subst hk; cases h; exact ⟨by kernel_rfl, meets63⟩
    split at h
    · rename_i hk; subst hk; cases h; exact ⟨by kernel_rfl, meets39⟩
    · cases h
def papC (own : Bool) (p : Paper) : List C := [.v (.string p.1), .v (.int .i64 p.2.1), .s own 6 (p.2.2.map fldC)]
noncomputable def oPaper0 := famO (fun x : List Tok × Nat × Int × Int => okPre x.1 x.2.1 x.2.2.1) (fun x => ([.c (.p 0 0 0)], [paObj x.1 x.2.1 x.2.2.1 x.2.2.2]))
  (fun x => (.agg (papC true (paperF x.1 x.2.1 x.2.2.1 x.2.2.2).1), [paObj x.1 (paperF x.1 x.2.1 x.2.2.1 x.2.2.2).2.1 x.2.2.1 (paperF x.1 x.2.1 x.2.2.1 x.2.2.2).2.2]))
theorem meets81 : Meets Try.prog 81 (detS oPaper0) := by
  refine meets_famO (show Try.prog.funcs[81]? = some Try.f81 by kernel_rfl) rfl (n := 50) rfl (rs := [ResultVar.cell 2 48]) rfl ?_
  rintro ⟨l, i0, e, bad0⟩ hpre Q hQ
  dsimp only at hpre hQ
  simp only [paObj] at hQ
  have hl : l.length ≤ 1000000 := hpre.1.1
  have hi0 : i0 ≤ l.length := hpre.1.2.1
  have hT0 := take_at hl i0 e bad0 2 hi0
  have hj1 : (takeF l i0 e bad0 2).2.1 ≤ l.length := takeF_le hi0
  have hN0 : oNumber [.c (.p 0 0 0)] [⟨4, [[.s false 3 (l.map tokC), .v (.int .i64 (takeF l i0 e bad0 2).2.1), .v (.int .i64 e), .v (.int .i64 (takeF l i0 e bad0 2).2.2)]]⟩] =
    some (.c (.v (.int .i64 (paI l i0 e bad0).1)), [⟨4, [[.s false 3 (l.map tokC), .v (.int .i64 (paI l i0 e bad0).2.1), .v (.int .i64 e), .v (.int .i64 (paI l i0 e bad0).2.2)]]⟩]) := num_at _ e _ (hpre.at hj1)
  have hj2 : (paI l i0 e bad0).2.1 ≤ l.length := numT_le (hpre.at hj1)
  have hM0 : oMark [.c (.p 0 0 0), .c (.v (.string ⟨#[40]⟩))] [⟨4, [[.s false 3 (l.map tokC), .v (.int .i64 (paI l i0 e bad0).2.1), .v (.int .i64 e), .v (.int .i64 (paI l i0 e bad0).2.2)]]⟩] =
    some (.t [], [⟨4, [[.s false 3 (l.map tokC), .v (.int .i64 (paM l i0 e bad0).1), .v (.int .i64 e), .v (.int .i64 (paM l i0 e bad0).2)]]⟩]) := mark_at hl _ e _ lpar hj2
  have hj0 : (paM l i0 e bad0).1 ≤ l.length := markF_le hj2
  obtain ⟨res, hres⟩ : ∃ res, paperR l i0 e bad0 = res := ⟨_, rfl⟩
  rw [paper_eq hres] at hQ
  have hQ2 : ∀ a j b, (a, j, b) = res → Q (.agg [.v (.string (takeF l i0 e bad0 2).1), .v (.int .i64 (paI l i0 e bad0).1), .s true 6 (a.map fldC)]) [⟨4, [[.s false 3 (l.map tokC), .v (.int .i64 (markF l j e b rpar).1), .v (.int .i64 e), .v (.int .i64 (markF l j e b rpar).2)]]⟩] := by
    intro a j b h
    subst h
    exact hQ
  clear hQ
  simp only [paperR] at hres
  generalize hk0 : (102 : Nat) = k0 at hres
  generalize hm0 : paM l i0 e bad0 = m0 at hres hM0 hj0
  obtain ⟨i1, bad1⟩ := m0
  dsimp only at hres hM0 hj0
  generalize (takeF l i0 e bad0 2).1 = nm at hT0 hQ2
  generalize (paI l i0 e bad0).1 = cl at hN0 hQ2
  have hpos := hpre.2.2
  refine seq_run okJ1 rfl (by repeat (first | with_reducible exact runf_nil | refine runf_cons (by simp only [xstep, stepf, stepx, St.put, St.with, boxA, C.st, Z5, Z6, List.replicate, Z9, Z10, Z23, Z12, Z13, Z24, Z16, Z18, Z8, Z4, Nat.reduceAdd, Nat.reduceSub, if_true, Z3, Z14, Z26, paObj, tz48]; rfl) ?_)) ?_
  refine seq_run okJ1 rfl (by repeat (first | with_reducible exact runf_nil | refine runf_cons (by simp only [xstep, stepf, stepx, evsA, qev, St.ev, St.put, St.with, D.cells, D.cell, boxA, C.cpy, C.st, C.cp, C.dat, storeA, putCells, constD, constC, Z1, Z2, Z5, Z6, Z9, Z10, Z23, Z12, Z15, Z13, Z16, Z18, Z17, Z20, Z19, Z21, Z8, Z4, Bool.and_true, Bool.true_and, Nat.reduceAdd, Nat.reduceEqDiff, if_true, if_false, and_self, Z3, ne_eq, not_false_eq_true, reduceCtorEq, Nat.reduceLeDiff, Nat.le_refl, Nat.reduceBNe, Z7, implies_true, Z14, beq_self_eq_true, Z26, Bool.true_or, callP, callO, dedup, rootsD, rootsC, List.flatMap_cons, List.flatMap_nil, List.filterMap_cons, List.filterMap_nil, argDs, argD, argC, List.contains_nil, objsAt, objOf, List.idxOf?, List.findIdx?, List.findIdx?.go, setObjs, D.ni, D.ni1, C.ni, settle, settle1, settleC, Z25, FsJ1, hT0, hN0, buildA, partsA, fillA, placeSt, tk48, tsz48, tz48, tsz9, tsz3, tsz46]; rfl) ?_)) ?_
  refine seq_run okJ1 rfl (by repeat (first | with_reducible exact runf_nil | refine runf_cons (by simp only [xstep, stepf, stepx, evsA, qev, St.ev, St.put, St.with, D.cell, C.cpy, C.cp, C.dat, constD, constC, Z1, Z2, Z5, Z6, Z9, Z10, Z12, Z15, Z13, Z16, Z18, Z8, Z4, Bool.and_true, Bool.true_and, Nat.reduceEqDiff, if_true, if_false, and_self, Z3, Z7, Z14, beq_self_eq_true, Z26, Bool.true_or, callP, callO, dedup, rootsD, rootsC, List.flatMap_cons, List.flatMap_nil, List.filterMap_cons, List.filterMap_nil, argDs, argD, argC, List.contains_nil, objsAt, objOf, List.idxOf?, List.findIdx?, List.findIdx?.go, setObjs, D.ni, settle, settleDs, Z25, FsJ1, hM0]; rfl) ?_)) ?_
  refine seq_in ?_
  refine seq_run okJ1 rfl (by repeat (first | with_reducible exact runf_nil | refine runf_cons (by simp only [xstep, stepf, stepx, qev, St.ev, St.put, constD, constC, Z5, Z6, Z4, Z3]; rfl) ?_)) ?_
  refine tri_block ?_
  refine tri_open 2 0 2 6 rfl ?_
  show Tri _ _ _ _
  refine tri_loop_le (fun m A => ∃ (k c i : Nat) (bad : Int) (acc : List Fld) (T : List (Option Root)), m = k ∧ c + k = 102 ∧ (c = 101 → 0 ≤ bad) ∧ c ≤ 101 ∧ i ≤ l.length ∧ acc.length = c ∧ paperGo l e k c i bad acc = res ∧ A = ⟨[.c (.p 0 0 0), .top, .c (.p 1 0 0), .c (.p 2 0 0), .c (.v (.int .i64 (c : Nat))), .top, .top, .top, .top, .top, .top, .top, .top, .top, .top, .top, .top, .top, .top, .top, .top, .top, .top, .top, .top, .top, .top, .top, .top, .top, .top, .top, .top, .top, .top, .top, .top, .top, .top, .top, .top, .top, .top, .top, .top, .top, .top, .top, .top, .top], some ⟨false, 4, [[.s false 3 (l.map tokC), .v (.int .i64 i), .v (.int .i64 e), .v (.int .i64 bad)]]⟩ :: some ⟨false, 3, [[.v (.string ⟨#[]⟩), .v (.int .i64 0), .s true 0 []]]⟩ :: some ⟨false, 3, [[.v (.string nm), .v (.int .i64 cl), .h 3 0 acc.length]]⟩ :: some ⟨true, 6, acc.map fldC⟩ :: T⟩) k0 (B := ⟨[.c (.p 0 0 0), .top, .c (.p 1 0 0), .c (.p 2 0 0), .c (.v (.int .i64 (0 : Nat))), .top, .top, .top, .top, .top, .top, .top, .top, .top, .top, .top, .top, .top, .top, .top, .top, .top, .top, .top, .top, .top, .top, .top, .top, .top, .top, .top, .top, .top, .top, .top, .top, .top, .top, .top, .top, .top, .top, .top, .top, .top, .top, .top, .top, .top], [some ⟨false, 4, [[.s false 3 (l.map tokC), .v (.int .i64 i1), .v (.int .i64 e), .v (.int .i64 bad1)]]⟩, some ⟨false, 3, [[.v (.string ⟨#[]⟩), .v (.int .i64 0), .s true 0 []]]⟩, some ⟨false, 3, [[.v (.string nm), .v (.int .i64 cl), .h 3 0 0]]⟩, some ⟨true, 6, []⟩]⟩) ⟨by repeat (first | exact .nil | refine .same ?_ | refine .top ?_), rfl⟩ ⟨k0, 0, i1, bad1, [], [], rfl, by omega, by omega, by omega, hj0, rfl, hres, rfl⟩ ?_
  rintro m A ⟨k, c, i, bad, acc, T, rfl, hck, hcb, hc, hi, hacc, hk, rfl⟩
  obtain ⟨k, rfl⟩ : ∃ k, m = k + 1 := ⟨m - 1, by omega⟩
  have hq1 : (c : Int) + 1 = ((c + 1 : Nat) : Int) := by omega
  have hP : oPeek [.c (.p 0 0 0), .c (.v (.string ⟨#[41]⟩))] _ = _ := peek_at hl i e bad rpar hi
  have hR : oMark [.c (.p 0 0 0), .c (.v (.string ⟨#[41]⟩))] _ = _ := mark_at hl i e bad rpar hi
  have hC : oMark [.c (.p 0 0 0), .c (.v (.string ⟨#[44]⟩))] _ = _ := mark_at hl i e bad comma hi
  have hm : (markF l i e bad comma).1 ≤ l.length := markF_le hi
  have hF := fail_at hl (markF l i e bad comma).1 e (markF l i e bad comma).2 hm
  have hT1 := take_at hl i e bad 2 hi
  have hE1 : oMark [.c (.p 0 0 0), .c (.v (.string ⟨#[61]⟩))] [⟨4, [[.s false 3 (l.map tokC), .v (.int .i64 (takeF l i e bad 2).2.1), .v (.int .i64 e), .v (.int .i64 (takeF l i e bad 2).2.2)]]⟩] = some (.t [], [⟨4, [[.s false 3 (l.map tokC), .v (.int .i64 (paQ l e i bad).1), .v (.int .i64 e), .v (.int .i64 (paQ l e i bad).2)]]⟩]) := mark_at hl _ e _ eqm (takeF_le hi)
  have hV1 : oValue [.c (.p 0 0 0)] [⟨4, [[.s false 3 (l.map tokC), .v (.int .i64 (paQ l e i bad).1), .v (.int .i64 e), .v (.int .i64 (paQ l e i bad).2)]]⟩] = some (.agg (valC (paV l e i bad).1), [⟨4, [[.s false 3 (l.map tokC), .v (.int .i64 (paV l e i bad).2.1), .v (.int .i64 e), .v (.int .i64 (paV l e i bad).2.2)]]⟩]) := value_at _ e _ (hpre.at (paQ_le hi))
  have hT2 := take_at hl (markF l i e bad comma).1 e (markF l i e bad comma).2 2 hm
  have hE2 : oMark [.c (.p 0 0 0), .c (.v (.string ⟨#[61]⟩))] [⟨4, [[.s false 3 (l.map tokC), .v (.int .i64 (takeF l (markF l i e bad comma).1 e (markF l i e bad comma).2 2).2.1), .v (.int .i64 e), .v (.int .i64 (takeF l (markF l i e bad comma).1 e (markF l i e bad comma).2 2).2.2)]]⟩] = some (.t [], [⟨4, [[.s false 3 (l.map tokC), .v (.int .i64 (paQ l e (markF l i e bad comma).1 (markF l i e bad comma).2).1), .v (.int .i64 e), .v (.int .i64 (paQ l e (markF l i e bad comma).1 (markF l i e bad comma).2).2)]]⟩]) := mark_at hl _ e _ eqm (takeF_le hm)
  have hV2 : oValue [.c (.p 0 0 0)] [⟨4, [[.s false 3 (l.map tokC), .v (.int .i64 (paQ l e (markF l i e bad comma).1 (markF l i e bad comma).2).1), .v (.int .i64 e), .v (.int .i64 (paQ l e (markF l i e bad comma).1 (markF l i e bad comma).2).2)]]⟩] = some (.agg (valC (paV l e (markF l i e bad comma).1 (markF l i e bad comma).2).1), [⟨4, [[.s false 3 (l.map tokC), .v (.int .i64 (paV l e (markF l i e bad comma).1 (markF l i e bad comma).2).2.1), .v (.int .i64 e), .v (.int .i64 (paV l e (markF l i e bad comma).1 (markF l i e bad comma).2).2.2)]]⟩]) := value_at _ e _ (hpre.at (paQ_le hm))
  have hT3 := take_at hl (markF l i e bad comma).1 e (failF l (markF l i e bad comma).1 e (markF l i e bad comma).2) 2 hm
  have hE3 : oMark [.c (.p 0 0 0), .c (.v (.string ⟨#[61]⟩))] [⟨4, [[.s false 3 (l.map tokC), .v (.int .i64 (takeF l (markF l i e bad comma).1 e (failF l (markF l i e bad comma).1 e (markF l i e bad comma).2) 2).2.1), .v (.int .i64 e), .v (.int .i64 (takeF l (markF l i e bad comma).1 e (failF l (markF l i e bad comma).1 e (markF l i e bad comma).2) 2).2.2)]]⟩] = some (.t [], [⟨4, [[.s false 3 (l.map tokC), .v (.int .i64 (paQ l e (markF l i e bad comma).1 (failF l (markF l i e bad comma).1 e (markF l i e bad comma).2)).1), .v (.int .i64 e), .v (.int .i64 (paQ l e (markF l i e bad comma).1 (failF l (markF l i e bad comma).1 e (markF l i e bad comma).2)).2)]]⟩]) := mark_at hl _ e _ eqm (takeF_le hm)
  have hV3 : oValue [.c (.p 0 0 0)] [⟨4, [[.s false 3 (l.map tokC), .v (.int .i64 (paQ l e (markF l i e bad comma).1 (failF l (markF l i e bad comma).1 e (markF l i e bad comma).2)).1), .v (.int .i64 e), .v (.int .i64 (paQ l e (markF l i e bad comma).1 (failF l (markF l i e bad comma).1 e (markF l i e bad comma).2)).2)]]⟩] = some (.agg (valC (paV l e (markF l i e bad comma).1 (failF l (markF l i e bad comma).1 e (markF l i e bad comma).2)).1), [⟨4, [[.s false 3 (l.map tokC), .v (.int .i64 (paV l e (markF l i e bad comma).1 (failF l (markF l i e bad comma).1 e (markF l i e bad comma).2)).2.1), .v (.int .i64 e), .v (.int .i64 (paV l e (markF l i e bad comma).1 (failF l (markF l i e bad comma).1 e (markF l i e bad comma).2)).2.2)]]⟩]) := value_at _ e _ (hpre.at (paQ_le hm))
  have ht0 : (acc.map fldC).take acc.length = acc.map fldC := List.take_of_length_le (by simp)
  have hne : ∀ k : Nat, (k + 1 + 1 + 1 + 1 != 3) = true := (by intro k; simp)
  have hz : (acc.length + 1) * 64 ≤ 140737488355328 := by omega
  refine seq_in ?_
  by_cases a0 : (bad < 0)
  ·
    refine seq_run okJ1 rfl (by repeat (first | with_reducible exact runf_nil | refine runf_cons (by simp only [xstep, stepf, stepx, evsA, qev, St.ev, St.put, St.with, D.cell, qload, cellsAt, qmk, C.cpy, TK.agg, qnil, qfieldAddr, qpick, qint, qshift, isShift, qbin, qun, liveR, C.cp, C.dat, constD, constC, Z1, Z2, Z5, Z6, Z9, Z10, Z12, Z15, Z13, Z24, Z16, Z18, Z17, Z20, Z19, Z21, Z8, Z4, Z11, Bool.and_true, Bool.true_and, Nat.reduceEqDiff, if_true, if_false, and_self, decide_true, cond_true, Z22, Z3, reduceCtorEq, Z7, Z14, beq_self_eq_true, Z26, Bool.true_or, callP, callO, dedup, rootsD, rootsC, List.flatMap_cons, List.flatMap_nil, List.filterMap_cons, List.filterMap_nil, argDs, argD, argC, List.contains_nil, objsAt, objOf, List.idxOf?, List.findIdx?, List.findIdx?.go, setObjs, D.ni, D.ni1, C.ni, settle, settle1, settleC, Z25, FsJ1, hP, tsz3, tk80, tk3, eq_true a0]; rfl) ?_)) ?_
    refine tri_cond rfl (fun a1 => ?_) (fun a1 => ?_)
    ·
      simp only [Bool.not_eq_true'] at a1
      refine then_skip ?_
      refine seq_in (tri_block ?_)
      refine seq_in ?_
      refine seq_run okJ1 rfl (by repeat (first | with_reducible exact runf_nil | refine runf_cons (by simp only [xstep, stepf, stepx, qev, St.ev, St.put, qint, qshift, isShift, qbin, constD, constC, Z1, Z2, Z5, Z6, Z4, Z11, if_true, if_false, Bool.not_false, Z3, Z7, a1]; rfl) ?_)) ?_
      refine tri_cond rfl (fun a2 => ?_) (fun a2 => ?_)
      ·
        simp only [decide_eq_true_eq] at a2
        refine run_end okJ1 rfl (by repeat (first | with_reducible exact runf_nil | refine runf_cons (by simp only [xstep, stepf, stepx, evsA, qev, St.ev, St.put, St.with, D.cell, C.cpy, C.cp, C.dat, constD, constC, Z1, Z2, Z5, Z6, Z9, Z10, Z12, Z15, Z13, Z16, Z18, Z8, Z4, Bool.and_true, Bool.true_and, Nat.reduceEqDiff, if_true, if_false, and_self, decide_true, Z3, Z7, Z14, beq_self_eq_true, Z26, Bool.true_or, callP, callO, dedup, rootsD, rootsC, List.flatMap_cons, List.flatMap_nil, List.filterMap_cons, List.filterMap_nil, argDs, argD, argC, List.contains_nil, objsAt, objOf, List.idxOf?, List.findIdx?, List.findIdx?.go, setObjs, D.ni, settle, settleDs, Z25, FsJ1, hC, a2]; rfl) ?_)) ?_
        show Tri _ _ _ _
        refine seq_in ?_
        refine seq_run okJ1 rfl (by repeat (first | with_reducible exact runf_nil | refine runf_cons (by simp only [xstep, stepf, stepx, qev, St.ev, St.put, qint, qshift, isShift, qbin, constD, constC, Z1, Z2, Z5, Z6, Z4, Z11, if_true, if_false, Z3, Z7]; rfl) ?_)) ?_
        refine tri_cond rfl (fun a3 => ?_) (fun a3 => ?_)
        ·
          simp only [decide_eq_true_eq] at a3
          refine run_end okJ1 rfl (by repeat (first | with_reducible exact runf_nil | refine runf_cons (by simp only [xstep, stepf, stepx, evsA, qev, St.ev, St.put, St.with, D.cell, C.dat, Z1, Z2, Z5, Z6, Z9, Z10, Z12, Z15, Z13, Z16, Z18, Z8, Z4, Bool.and_true, Bool.true_and, Nat.reduceEqDiff, if_true, if_false, and_self, decide_true, Z3, Z7, Z14, beq_self_eq_true, Z26, Bool.true_or, callP, callO, dedup, rootsD, rootsC, List.flatMap_cons, List.flatMap_nil, List.filterMap_cons, List.filterMap_nil, argDs, argD, argC, List.contains_nil, objsAt, objOf, List.idxOf?, List.findIdx?, List.findIdx?.go, setObjs, D.ni, settle, settleDs, Z25, FsJ1, hF, a3]; rfl) ?_)) ?_
          show Tri _ _ _ _
          refine seq_run okJ1 rfl (by repeat (first | with_reducible exact runf_nil | refine runf_cons (by simp only [xstep, stepf, stepx, evsA, qev, St.ev, St.put, St.with, D.cells, D.cell, boxA, C.cpy, C.st, C.cp, C.dat, storeA, putCells, constD, constC, Z1, Z2, Z5, Z6, Z9, Z10, Z23, Z12, Z15, Z13, Z16, Z18, Z20, Z19, Z21, Z8, Z4, Bool.and_true, Bool.true_and, Nat.reduceAdd, Nat.reduceEqDiff, if_true, if_false, and_self, Z3, ne_eq, not_false_eq_true, reduceCtorEq, Nat.reduceLeDiff, Nat.le_refl, Nat.reduceBNe, Z7, implies_true, Z14, beq_self_eq_true, Z26, Bool.true_or, callP, callO, dedup, rootsD, rootsC, List.flatMap_cons, List.flatMap_nil, List.filterMap_cons, List.filterMap_nil, argDs, argD, argC, List.contains_nil, objsAt, objOf, List.idxOf?, List.findIdx?, List.findIdx?.go, setObjs, D.ni, D.ni1, C.ni, settle, settle1, settleC, Z25, FsJ1, buildA, partsA, fillA, placeSt, tk91, tsz91, tsz39, hT3, last_get, last_set, partsA, fillA, placeSt, tsz9, tz91]; rfl) ?_)) ?_
          refine seq_run okJ1 rfl (by repeat (first | with_reducible exact runf_nil | refine runf_cons (by simp only [xstep, stepf, stepx, evsA, qev, St.ev, St.put, St.with, D.cell, C.cpy, C.cp, C.dat, constD, constC, Z1, Z2, Z5, Z6, Z9, Z10, Z12, Z15, Z13, Z16, Z18, Z8, Z4, Bool.and_true, Bool.true_and, Nat.reduceEqDiff, if_true, if_false, and_self, Z3, Z7, Z14, beq_self_eq_true, Z26, Bool.true_or, callP, callO, dedup, rootsD, rootsC, List.flatMap_cons, List.flatMap_nil, List.filterMap_cons, List.filterMap_nil, argDs, argD, argC, List.contains_nil, objsAt, objOf, List.idxOf?, List.findIdx?, List.findIdx?.go, setObjs, D.ni, settle, settleDs, Z25, FsJ1, hE3]; rfl) ?_)) ?_
          refine seq_run okJ1 rfl (by repeat (first | with_reducible exact runf_nil | refine runf_cons (by simp only [xstep, stepf, stepx, evsA, qev, St.ev, St.put, St.with, D.cells, D.cell, qfieldAddr, liveR, C.st, C.dat, storeA, putCells, Z1, Z2, Z5, Z6, Z9, Z10, Z23, Z12, Z15, Z13, Z16, Z18, Z17, Z20, Z19, Z21, Z8, Z4, Bool.and_true, Bool.true_and, Nat.reduceAdd, Nat.reduceEqDiff, if_true, if_false, and_self, Z3, ne_eq, not_false_eq_true, reduceCtorEq, Nat.le_refl, Z7, implies_true, Z14, beq_self_eq_true, Z26, Bool.true_or, callP, callO, dedup, rootsD, rootsC, List.flatMap_cons, List.flatMap_nil, List.filterMap_cons, List.filterMap_nil, argDs, argD, argC, List.contains_nil, objsAt, objOf, List.idxOf?, List.findIdx?, List.findIdx?.go, setObjs, D.ni, D.ni1, C.ni, C.niRow, settle, settle1, settleC, settleCs, Z25, FsJ1, tk91, tsz39, hV3, last_get, last_set, valC]; rfl) ?_)) ?_
          refine run_end okJ1 rfl (by repeat (first | with_reducible exact runf_nil | refine runf_cons (by simp only [xstep, stepf, stepx, qev, St.ev, St.put, St.with, D.cells, qload, cellsAt, qmk, C.cpy, TK.agg, qfieldAddr, liveR, C.st, C.cp, C.dat, storeA, putCells, Z1, Z2, Z5, Z6, Z9, Z10, Z23, Z12, Z15, Z13, Z24, Z16, Z18, Z17, Z20, Z19, Z21, Z8, Z4, Bool.and_true, Nat.reduceAdd, Nat.reduceMul, if_true, if_false, and_self, forall_const, Z3, ne_eq, not_false_eq_true, reduceCtorEq, Nat.reduceLeDiff, Nat.le_refl, Nat.reduceBNe, Z7, Z14, bne_self_eq_false, Z26, nb_map, C.nb, partsA, fillA, tk48, tk91, tsz91, false_implies, ht0, hne, hz, last_get, buildSliceA, partsA, fillA, reps, chop, tkApp, appendA, srcRows, srcOther, D.kill, D.no, C.no, C.kill, killH, Root.kill, C.nos, D.nos, fldC, false_implies, tsz46, tz91, tk46, bo91]; rfl) ?_)) ?_
          show Tri _ _ _ _
          refine run_end okJ1 rfl (by repeat (first | with_reducible exact runf_nil | refine runf_cons (by simp only [xstep, stepf, stepx, qev, St.ev, St.put, qint, qshift, isShift, qbin, constD, constC, Z1, Z2, Z5, Z6, Z4, Z11, if_true, if_false, Z3, Z7, hq1, show IntKind.i64.wrap (↑(c + 1) : Int) = _ from wrap_i64 _ (by omega) (by omega)]; rfl) ?_)) ?_
          simp only []
          (simp only [paperGo, reduceIte, Z7, ↓reduceIte, eq_true a0, a1, a2, a3] at hk; exact ⟨k, by omega, ⟨[.c (.p 0 0 0), .top, .c (.p 1 0 0), .c (.p 2 0 0), .c (.v (.int .i64 (c + 1 : Nat))), .top, .top, .top, .top, .top, .top, .top, .top, .top, .top, .top, .top, .top, .top, .top, .top, .top, .top, .top, .top, .top, .top, .top, .top, .top, .top, .top, .top, .top, .top, .top, .top, .top, .top, .top, .top, .top, .top, .top, .top, .top, .top, .top, .top, .top], some ⟨false, 4, [[.s false 3 (l.map tokC), .v (.int .i64 (paV l e (markF l i e bad comma).1 (failF l (markF l i e bad comma).1 e (markF l i e bad comma).2)).2.1), .v (.int .i64 e), .v (.int .i64 (paV l e (markF l i e bad comma).1 (failF l (markF l i e bad comma).1 e (markF l i e bad comma).2)).2.2)]]⟩ :: some ⟨false, 3, [[.v (.string ⟨#[]⟩), .v (.int .i64 0), .s true 0 []]]⟩ :: some ⟨false, 3, [[.v (.string nm), .v (.int .i64 cl), .h 3 0 (acc ++ [paFld l e (markF l i e bad comma).1 (failF l (markF l i e bad comma).1 e (markF l i e bad comma).2)]).length]]⟩ :: some ⟨true, 6, (acc ++ [paFld l e (markF l i e bad comma).1 (failF l (markF l i e bad comma).1 e (markF l i e bad comma).2)]).map fldC⟩ :: List.map (fun o => Option.map (Root.kill 3) o) (T ++ [some ⟨false, 6, [fldC (paFld l e (markF l i e bad comma).1 (failF l (markF l i e bad comma).1 e (markF l i e bad comma).2))]⟩] ++ [some ⟨true, 6, [fldC (paFld l e (markF l i e bad comma).1 (failF l (markF l i e bad comma).1 e (markF l i e bad comma).2))]⟩])⟩, ⟨(by rw [show (acc ++ [paFld l e (markF l i e bad comma).1 (failF l (markF l i e bad comma).1 e (markF l i e bad comma).2)]).length = acc.length + 1 from by simp]; repeat (first | exact .nil | refine .same ?_ | refine .top ?_)), (by rw [show (acc ++ [paFld l e (markF l i e bad comma).1 (failF l (markF l i e bad comma).1 e (markF l i e bad comma).2)]).map fldC = acc.map fldC ++ [fldC (paFld l e (markF l i e bad comma).1 (failF l (markF l i e bad comma).1 e (markF l i e bad comma).2))] from List.map_append, show (acc ++ [paFld l e (markF l i e bad comma).1 (failF l (markF l i e bad comma).1 e (markF l i e bad comma).2)]).length = acc.length + 1 from by simp]; rfl)⟩, k, c + 1, (paV l e (markF l i e bad comma).1 (failF l (markF l i e bad comma).1 e (markF l i e bad comma).2)).2.1, (paV l e (markF l i e bad comma).1 (failF l (markF l i e bad comma).1 e (markF l i e bad comma).2)).2.2, (acc ++ [paFld l e (markF l i e bad comma).1 (failF l (markF l i e bad comma).1 e (markF l i e bad comma).2)]), _, rfl, by omega, (fun _ => by rw [paV_bad (fail_pos hpos _ _)]; exact fail_pos hpos _ _), by omega, paV_le hm, (by simp [hacc]), hk, rfl⟩)
        ·
          simp only [decide_eq_false_iff_not] at a3
          refine then_skip ?_
          refine seq_run okJ1 rfl (by repeat (first | with_reducible exact runf_nil | refine runf_cons (by simp only [xstep, stepf, stepx, evsA, qev, St.ev, St.put, St.with, D.cells, D.cell, boxA, C.cpy, C.st, C.cp, C.dat, storeA, putCells, constD, constC, Z1, Z2, Z5, Z6, Z9, Z10, Z23, Z12, Z15, Z13, Z16, Z18, Z20, Z19, Z21, Z8, Z4, Bool.and_true, Bool.true_and, Nat.reduceAdd, Nat.reduceEqDiff, if_true, if_false, and_self, decide_false, Z3, ne_eq, not_false_eq_true, reduceCtorEq, Nat.reduceLeDiff, Nat.le_refl, Nat.reduceBNe, Z7, implies_true, Z14, beq_self_eq_true, Z26, Bool.true_or, callP, callO, dedup, rootsD, rootsC, List.flatMap_cons, List.flatMap_nil, List.filterMap_cons, List.filterMap_nil, argDs, argD, argC, List.contains_nil, objsAt, objOf, List.idxOf?, List.findIdx?, List.findIdx?.go, setObjs, D.ni, D.ni1, C.ni, settle, settle1, settleC, Z25, FsJ1, buildA, partsA, fillA, placeSt, tk91, tsz91, tsz39, hT2, last_get, last_set, partsA, fillA, placeSt, tsz9, a3, tz91]; rfl) ?_)) ?_
          refine seq_run okJ1 rfl (by repeat (first | with_reducible exact runf_nil | refine runf_cons (by simp only [xstep, stepf, stepx, evsA, qev, St.ev, St.put, St.with, D.cell, C.cpy, C.cp, C.dat, constD, constC, Z1, Z2, Z5, Z6, Z9, Z10, Z12, Z15, Z13, Z16, Z18, Z8, Z4, Bool.and_true, Bool.true_and, Nat.reduceEqDiff, if_true, if_false, and_self, Z3, Z7, Z14, beq_self_eq_true, Z26, Bool.true_or, callP, callO, dedup, rootsD, rootsC, List.flatMap_cons, List.flatMap_nil, List.filterMap_cons, List.filterMap_nil, argDs, argD, argC, List.contains_nil, objsAt, objOf, List.idxOf?, List.findIdx?, List.findIdx?.go, setObjs, D.ni, settle, settleDs, Z25, FsJ1, hE2]; rfl) ?_)) ?_
          refine seq_run okJ1 rfl (by repeat (first | with_reducible exact runf_nil | refine runf_cons (by simp only [xstep, stepf, stepx, evsA, qev, St.ev, St.put, St.with, D.cells, D.cell, qfieldAddr, liveR, C.st, C.dat, storeA, putCells, Z1, Z2, Z5, Z6, Z9, Z10, Z23, Z12, Z15, Z13, Z16, Z18, Z17, Z20, Z19, Z21, Z8, Z4, Bool.and_true, Bool.true_and, Nat.reduceAdd, Nat.reduceEqDiff, if_true, if_false, and_self, Z3, ne_eq, not_false_eq_true, reduceCtorEq, Nat.le_refl, Z7, implies_true, Z14, beq_self_eq_true, Z26, Bool.true_or, callP, callO, dedup, rootsD, rootsC, List.flatMap_cons, List.flatMap_nil, List.filterMap_cons, List.filterMap_nil, argDs, argD, argC, List.contains_nil, objsAt, objOf, List.idxOf?, List.findIdx?, List.findIdx?.go, setObjs, D.ni, D.ni1, C.ni, C.niRow, settle, settle1, settleC, settleCs, Z25, FsJ1, tk91, tsz39, hV2, last_get, last_set, valC]; rfl) ?_)) ?_
          refine run_end okJ1 rfl (by repeat (first | with_reducible exact runf_nil | refine runf_cons (by simp only [xstep, stepf, stepx, qev, St.ev, St.put, St.with, D.cells, qload, cellsAt, qmk, C.cpy, TK.agg, qfieldAddr, liveR, C.st, C.cp, C.dat, storeA, putCells, Z1, Z2, Z5, Z6, Z9, Z10, Z23, Z12, Z15, Z13, Z24, Z16, Z18, Z17, Z20, Z19, Z21, Z8, Z4, Bool.and_true, Nat.reduceAdd, Nat.reduceMul, if_true, if_false, and_self, forall_const, Z3, ne_eq, not_false_eq_true, reduceCtorEq, Nat.reduceLeDiff, Nat.le_refl, Nat.reduceBNe, Z7, Z14, bne_self_eq_false, Z26, nb_map, C.nb, partsA, fillA, tk48, tk91, tsz91, false_implies, ht0, hne, hz, last_get, buildSliceA, partsA, fillA, reps, chop, tkApp, appendA, srcRows, srcOther, D.kill, D.no, C.no, C.kill, killH, Root.kill, C.nos, D.nos, fldC, false_implies, tsz46, tz91, tk46, bo91]; rfl) ?_)) ?_
          show Tri _ _ _ _
          refine run_end okJ1 rfl (by repeat (first | with_reducible exact runf_nil | refine runf_cons (by simp only [xstep, stepf, stepx, qev, St.ev, St.put, qint, qshift, isShift, qbin, constD, constC, Z1, Z2, Z5, Z6, Z4, Z11, if_true, if_false, Z3, Z7, hq1, show IntKind.i64.wrap (↑(c + 1) : Int) = _ from wrap_i64 _ (by omega) (by omega)]; rfl) ?_)) ?_
          simp only []
          (simp only [paperGo, reduceIte, Z7, ↓reduceIte, eq_true a0, a1, a2, a3] at hk; exact ⟨k, by omega, ⟨[.c (.p 0 0 0), .top, .c (.p 1 0 0), .c (.p 2 0 0), .c (.v (.int .i64 (c + 1 : Nat))), .top, .top, .top, .top, .top, .top, .top, .top, .top, .top, .top, .top, .top, .top, .top, .top, .top, .top, .top, .top, .top, .top, .top, .top, .top, .top, .top, .top, .top, .top, .top, .top, .top, .top, .top, .top, .top, .top, .top, .top, .top, .top, .top, .top, .top], some ⟨false, 4, [[.s false 3 (l.map tokC), .v (.int .i64 (paV l e (markF l i e bad comma).1 (markF l i e bad comma).2).2.1), .v (.int .i64 e), .v (.int .i64 (paV l e (markF l i e bad comma).1 (markF l i e bad comma).2).2.2)]]⟩ :: some ⟨false, 3, [[.v (.string ⟨#[]⟩), .v (.int .i64 0), .s true 0 []]]⟩ :: some ⟨false, 3, [[.v (.string nm), .v (.int .i64 cl), .h 3 0 (acc ++ [paFld l e (markF l i e bad comma).1 (markF l i e bad comma).2]).length]]⟩ :: some ⟨true, 6, (acc ++ [paFld l e (markF l i e bad comma).1 (markF l i e bad comma).2]).map fldC⟩ :: List.map (fun o => Option.map (Root.kill 3) o) (T ++ [some ⟨false, 6, [fldC (paFld l e (markF l i e bad comma).1 (markF l i e bad comma).2)]⟩] ++ [some ⟨true, 6, [fldC (paFld l e (markF l i e bad comma).1 (markF l i e bad comma).2)]⟩])⟩, ⟨(by rw [show (acc ++ [paFld l e (markF l i e bad comma).1 (markF l i e bad comma).2]).length = acc.length + 1 from by simp]; repeat (first | exact .nil | refine .same ?_ | refine .top ?_)), (by rw [show (acc ++ [paFld l e (markF l i e bad comma).1 (markF l i e bad comma).2]).map fldC = acc.map fldC ++ [fldC (paFld l e (markF l i e bad comma).1 (markF l i e bad comma).2)] from List.map_append, show (acc ++ [paFld l e (markF l i e bad comma).1 (markF l i e bad comma).2]).length = acc.length + 1 from by simp]; rfl)⟩, k, c + 1, (paV l e (markF l i e bad comma).1 (markF l i e bad comma).2).2.1, (paV l e (markF l i e bad comma).1 (markF l i e bad comma).2).2.2, (acc ++ [paFld l e (markF l i e bad comma).1 (markF l i e bad comma).2]), _, rfl, by omega, (by omega), by omega, paV_le hm, (by simp [hacc]), hk, rfl⟩)
      ·
        simp only [decide_eq_false_iff_not] at a2
        refine then_skip ?_
        refine seq_in ?_
        refine seq_run okJ1 rfl (by repeat (first | with_reducible exact runf_nil | refine runf_cons (by simp only [xstep, stepf, stepx, qev, St.ev, St.put, qint, qshift, isShift, qbin, constD, constC, Z1, Z2, Z5, Z6, Z4, Z11, if_true, if_false, decide_false, Z3, Z7, a2]; rfl) ?_)) ?_
        refine tri_cond rfl (fun a4 => ?_) (fun a4 => ?_)
        ·
          simp only [decide_eq_true_eq] at a4
          (exfalso; omega)
        ·
          simp only [decide_eq_false_iff_not] at a4
          refine then_skip ?_
          refine seq_run okJ1 rfl (by repeat (first | with_reducible exact runf_nil | refine runf_cons (by simp only [xstep, stepf, stepx, evsA, qev, St.ev, St.put, St.with, D.cells, D.cell, boxA, C.cpy, C.st, C.cp, C.dat, storeA, putCells, constD, constC, Z1, Z2, Z5, Z6, Z9, Z10, Z23, Z12, Z15, Z13, Z16, Z18, Z20, Z19, Z21, Z8, Z4, Bool.and_true, Bool.true_and, Nat.reduceAdd, Nat.reduceEqDiff, if_true, if_false, and_self, decide_false, Z3, ne_eq, not_false_eq_true, reduceCtorEq, Nat.reduceLeDiff, Nat.le_refl, Nat.reduceBNe, Z7, implies_true, Z14, beq_self_eq_true, Z26, Bool.true_or, callP, callO, dedup, rootsD, rootsC, List.flatMap_cons, List.flatMap_nil, List.filterMap_cons, List.filterMap_nil, argDs, argD, argC, List.contains_nil, objsAt, objOf, List.idxOf?, List.findIdx?, List.findIdx?.go, setObjs, D.ni, D.ni1, C.ni, settle, settle1, settleC, Z25, FsJ1, buildA, partsA, fillA, placeSt, tk91, tsz91, tsz39, hT1, last_get, last_set, partsA, fillA, placeSt, tsz9, a4, tz91]; rfl) ?_)) ?_
          refine seq_run okJ1 rfl (by repeat (first | with_reducible exact runf_nil | refine runf_cons (by simp only [xstep, stepf, stepx, evsA, qev, St.ev, St.put, St.with, D.cell, C.cpy, C.cp, C.dat, constD, constC, Z1, Z2, Z5, Z6, Z9, Z10, Z12, Z15, Z13, Z16, Z18, Z8, Z4, Bool.and_true, Bool.true_and, Nat.reduceEqDiff, if_true, if_false, and_self, Z3, Z7, Z14, beq_self_eq_true, Z26, Bool.true_or, callP, callO, dedup, rootsD, rootsC, List.flatMap_cons, List.flatMap_nil, List.filterMap_cons, List.filterMap_nil, argDs, argD, argC, List.contains_nil, objsAt, objOf, List.idxOf?, List.findIdx?, List.findIdx?.go, setObjs, D.ni, settle, settleDs, Z25, FsJ1, hE1]; rfl) ?_)) ?_
          refine seq_run okJ1 rfl (by repeat (first | with_reducible exact runf_nil | refine runf_cons (by simp only [xstep, stepf, stepx, evsA, qev, St.ev, St.put, St.with, D.cells, D.cell, qfieldAddr, liveR, C.st, C.dat, storeA, putCells, Z1, Z2, Z5, Z6, Z9, Z10, Z23, Z12, Z15, Z13, Z16, Z18, Z17, Z20, Z19, Z21, Z8, Z4, Bool.and_true, Bool.true_and, Nat.reduceAdd, Nat.reduceEqDiff, if_true, if_false, and_self, Z3, ne_eq, not_false_eq_true, reduceCtorEq, Nat.le_refl, Z7, implies_true, Z14, beq_self_eq_true, Z26, Bool.true_or, callP, callO, dedup, rootsD, rootsC, List.flatMap_cons, List.flatMap_nil, List.filterMap_cons, List.filterMap_nil, argDs, argD, argC, List.contains_nil, objsAt, objOf, List.idxOf?, List.findIdx?, List.findIdx?.go, setObjs, D.ni, D.ni1, C.ni, C.niRow, settle, settle1, settleC, settleCs, Z25, FsJ1, tk91, tsz39, hV1, last_get, last_set, valC]; rfl) ?_)) ?_
          refine run_end okJ1 rfl (by repeat (first | with_reducible exact runf_nil | refine runf_cons (by simp only [xstep, stepf, stepx, qev, St.ev, St.put, St.with, D.cells, qload, cellsAt, qmk, C.cpy, TK.agg, qfieldAddr, liveR, C.st, C.cp, C.dat, storeA, putCells, Z1, Z2, Z5, Z6, Z9, Z10, Z23, Z12, Z15, Z13, Z24, Z16, Z18, Z17, Z20, Z19, Z21, Z8, Z4, Bool.and_true, Nat.reduceAdd, Nat.reduceMul, if_true, if_false, and_self, forall_const, Z3, ne_eq, not_false_eq_true, reduceCtorEq, Nat.reduceLeDiff, Nat.le_refl, Nat.reduceBNe, Z7, Z14, bne_self_eq_false, Z26, nb_map, C.nb, partsA, fillA, tk48, tk91, tsz91, false_implies, ht0, hne, hz, last_get, buildSliceA, partsA, fillA, reps, chop, tkApp, appendA, srcRows, srcOther, D.kill, D.no, C.no, C.kill, killH, Root.kill, C.nos, D.nos, fldC, false_implies, tsz46, tz91, tk46, bo91]; rfl) ?_)) ?_
          show Tri _ _ _ _
          refine run_end okJ1 rfl (by repeat (first | with_reducible exact runf_nil | refine runf_cons (by simp only [xstep, stepf, stepx, qev, St.ev, St.put, qint, qshift, isShift, qbin, constD, constC, Z1, Z2, Z5, Z6, Z4, Z11, if_true, if_false, Z3, Z7, hq1, show IntKind.i64.wrap (↑(c + 1) : Int) = _ from wrap_i64 _ (by omega) (by omega)]; rfl) ?_)) ?_
          simp only []
          (simp only [paperGo, reduceIte, Z7, ↓reduceIte, eq_true a0, a1, a2] at hk; exact ⟨k, by omega, ⟨[.c (.p 0 0 0), .top, .c (.p 1 0 0), .c (.p 2 0 0), .c (.v (.int .i64 (c + 1 : Nat))), .top, .top, .top, .top, .top, .top, .top, .top, .top, .top, .top, .top, .top, .top, .top, .top, .top, .top, .top, .top, .top, .top, .top, .top, .top, .top, .top, .top, .top, .top, .top, .top, .top, .top, .top, .top, .top, .top, .top, .top, .top, .top, .top, .top, .top], some ⟨false, 4, [[.s false 3 (l.map tokC), .v (.int .i64 (paV l e i bad).2.1), .v (.int .i64 e), .v (.int .i64 (paV l e i bad).2.2)]]⟩ :: some ⟨false, 3, [[.v (.string ⟨#[]⟩), .v (.int .i64 0), .s true 0 []]]⟩ :: some ⟨false, 3, [[.v (.string nm), .v (.int .i64 cl), .h 3 0 (acc ++ [paFld l e i bad]).length]]⟩ :: some ⟨true, 6, (acc ++ [paFld l e i bad]).map fldC⟩ :: List.map (fun o => Option.map (Root.kill 3) o) (T ++ [some ⟨false, 6, [fldC (paFld l e i bad)]⟩] ++ [some ⟨true, 6, [fldC (paFld l e i bad)]⟩])⟩, ⟨(by rw [show (acc ++ [paFld l e i bad]).length = acc.length + 1 from by simp]; repeat (first | exact .nil | refine .same ?_ | refine .top ?_)), (by rw [show (acc ++ [paFld l e i bad]).map fldC = acc.map fldC ++ [fldC (paFld l e i bad)] from List.map_append, show (acc ++ [paFld l e i bad]).length = acc.length + 1 from by simp]; rfl)⟩, k, c + 1, (paV l e i bad).2.1, (paV l e i bad).2.2, (acc ++ [paFld l e i bad]), _, rfl, by omega, (by omega), by omega, paV_le hi, (by simp [hacc]), hk, rfl⟩)
    ·
      simp only [Bool.not_eq_false'] at a1
      refine tri_exit ?_
      show Tri _ _ _ _
      refine seq_run okJ1 rfl (by repeat (first | with_reducible exact runf_nil | refine runf_cons (by simp only [xstep, stepf, stepx, evsA, qev, St.ev, St.put, St.with, D.cell, C.cpy, C.cp, C.dat, constD, constC, Z1, Z2, Z5, Z6, Z9, Z10, Z12, Z15, Z13, Z16, Z18, Z8, Z4, Bool.and_true, Bool.true_and, Nat.reduceEqDiff, if_true, if_false, and_self, Bool.not_true, Z3, Z7, Z14, beq_self_eq_true, Z26, Bool.true_or, callP, callO, dedup, rootsD, rootsC, List.flatMap_cons, List.flatMap_nil, List.filterMap_cons, List.filterMap_nil, argDs, argD, argC, List.contains_nil, objsAt, objOf, List.idxOf?, List.findIdx?, List.findIdx?.go, setObjs, D.ni, settle, settleDs, Z25, FsJ1, hR, a1]; rfl) ?_)) ?_
      refine seq_run okJ1 rfl (by repeat (first | with_reducible exact runf_nil | refine runf_cons (by simp only [xstep, stepf, stepx, qev, St.ev, St.put, D.cells, qload, cellsAt, qmk, C.cpy, TK.agg, liveR, C.st, C.cp, C.dat, storeA, putCells, Z1, Z2, Z5, Z6, Z9, Z10, Z12, Z15, Z13, Z24, Z16, Z18, Z17, Z20, Z19, Z21, Z8, Z4, Bool.and_true, Nat.reduceAdd, if_true, and_self, Z3, ne_eq, not_false_eq_true, reduceCtorEq, Nat.le_refl, Z7, Z14, Z26, Bool.and_false, tk48, tsz48, false_implies, false_implies]; rfl) ?_)) ?_
      refine tri_ret (ends_ret (by simp only [outRes, resDs, resD, outD, outC, outCs, qload, cellsAt, qmk, C.cpy, TK.agg, C.cp, C.dat, Z1, Z2, Z9, Z10, Z12, Z15, Z13, Z24, Z16, Z18, Z17, Z20, Z21, Z8, Z4, Nat.reduceAdd, if_true, and_self, Z3, ne_eq, not_false_eq_true, reduceCtorEq, Z14, Z26, tk48, tsz48, List.length_map]; rfl) rfl (by simp) (by simp) ?_)
      simp only [Z12]
      (simp only [paperGo, reduceIte, ↓reduceIte, eq_true a0, a1] at hk; with_reducible exact hQ2 _ _ _ hk)
  ·
    refine seq_run okJ1 rfl (by repeat (first | with_reducible exact runf_nil | refine runf_cons (by simp only [xstep, stepf, stepx, evsA, qev, St.ev, St.put, D.cell, qload, cellsAt, qmk, C.cpy, TK.agg, qnil, qfieldAddr, qpick, qint, qshift, isShift, qbin, qun, liveR, C.cp, C.dat, constD, constC, Z1, Z2, Z5, Z6, Z9, Z10, Z12, Z15, Z13, Z24, Z16, Z18, Z17, Z20, Z19, Z21, Z8, Z4, Z11, Nat.reduceEqDiff, if_true, if_false, and_self, decide_false, cond_false, Z22, Z3, reduceCtorEq, Z7, Z14, Z26, callP, callO, dedup, rootsD, rootsC, List.flatMap_cons, List.flatMap_nil, List.filterMap_cons, List.filterMap_nil, argDs, argD, argC, objsAt, FsJ1, tsz3, tk80, tk3, eq_false a0]; rfl) ?_)) ?_
    refine tri_cond (b := false) rfl (fun h => by cases h) (fun _ => ?_)
    refine tri_exit ?_
    show Tri _ _ _ _
    refine seq_run okJ1 rfl (by repeat (first | with_reducible exact runf_nil | refine runf_cons (by simp only [xstep, stepf, stepx, evsA, qev, St.ev, St.put, St.with, D.cell, C.cpy, C.cp, C.dat, constD, constC, Z1, Z2, Z5, Z6, Z9, Z10, Z12, Z15, Z13, Z16, Z18, Z8, Z4, Bool.and_true, Bool.true_and, Nat.reduceEqDiff, if_true, if_false, and_self, Z3, Z7, Z14, beq_self_eq_true, Z26, Bool.true_or, callP, callO, dedup, rootsD, rootsC, List.flatMap_cons, List.flatMap_nil, List.filterMap_cons, List.filterMap_nil, argDs, argD, argC, List.contains_nil, objsAt, objOf, List.idxOf?, List.findIdx?, List.findIdx?.go, setObjs, D.ni, settle, settleDs, Z25, FsJ1, hR]; rfl) ?_)) ?_
    refine seq_run okJ1 rfl (by repeat (first | with_reducible exact runf_nil | refine runf_cons (by simp only [xstep, stepf, stepx, qev, St.ev, St.put, D.cells, qload, cellsAt, qmk, C.cpy, TK.agg, liveR, C.st, C.cp, C.dat, storeA, putCells, Z1, Z2, Z5, Z6, Z9, Z10, Z12, Z15, Z13, Z24, Z16, Z18, Z17, Z20, Z19, Z21, Z8, Z4, Bool.and_true, Nat.reduceAdd, if_true, and_self, Z3, ne_eq, not_false_eq_true, reduceCtorEq, Nat.le_refl, Z7, Z14, Z26, Bool.and_false, tk48, tsz48, false_implies, false_implies]; rfl) ?_)) ?_
    refine tri_ret (ends_ret (by simp only [outRes, resDs, resD, outD, outC, outCs, qload, cellsAt, qmk, C.cpy, TK.agg, C.cp, C.dat, Z1, Z2, Z9, Z10, Z12, Z15, Z13, Z24, Z16, Z18, Z17, Z20, Z21, Z8, Z4, Nat.reduceAdd, if_true, and_self, Z3, ne_eq, not_false_eq_true, reduceCtorEq, Z14, Z26, tk48, tsz48, List.length_map]; rfl) rfl (by simp) (by simp) ?_)
    simp only [Z12]
    (simp only [paperGo, reduceIte, ↓reduceIte, eq_false a0] at hk; with_reducible exact hQ2 _ _ _ hk)
end Go.Dl
