/- The walk of names; 'Dl', part Zq: structs by value whose slices nobody will change. -/
import Derived.Test.YtbefgbljlmnfoaaC18
import Derived.Test.YtbefgbljlmnfoaaC11
namespace Go.Dl
open Go.RowKit
open Go.Proofs
set_option linter.unusedSimpArgs false
set_option linter.unusedVariables false

def strC (s : ByteArray) : List C := [.v (.string s)]
theorem str_nb (l : List ByteArray) : rowsNB (l.map strC) = true := nb_map (fun _ => rfl)
def lbr : ByteArray := ⟨#[91]⟩
def rbr : ByteArray := ⟨#[93]⟩
def comma : ByteArray := ⟨#[44]⟩
def posPre (l : List Tok) (e : Int) : Prop := 0 ≤ e ∧ ∀ t ∈ l, 0 ≤ t.2.2
theorem fail_pos {l : List Tok} {e : Int} (h : posPre l e) (i : Nat) (bad : Int) : 0 ≤ failF l i e bad := by
  unfold failF hereF
  split
  · split
    · rename_i t ht; exact h.2 _ (List.mem_of_getElem? ht)
    · exact h.1
  · omega
theorem take_bad {l : List Tok} {i : Nat} {e bad k : Int} (h : 0 ≤ bad) : 0 ≤ (takeF l i e bad k).2.2 := by
  unfold takeF; rw [if_pos h]; exact h
/-- The names within brackets. -/
def namesGo (l : List Tok) (e : Int) : Nat → Nat → Nat → Int → List ByteArray → List ByteArray × Nat × Int
  | 0, _, i, bad, acc => (acc, i, bad)
  | k + 1, c, i, bad, acc => if bad < 0 then (if peekF l i bad rbr = true then (acc, i, bad)
      else if (0 : Int) < (c : Int) then (if (100 : Int) ≤ (c : Int) then namesGo l e k (c + 1) (takeF l (markF l i e bad comma).1 e (failF l (markF l i e bad comma).1 e (markF l i e bad comma).2) 2).2.1 (takeF l (markF l i e bad comma).1 e (failF l (markF l i e bad comma).1 e (markF l i e bad comma).2) 2).2.2 (acc ++ [(takeF l (markF l i e bad comma).1 e (failF l (markF l i e bad comma).1 e (markF l i e bad comma).2) 2).1])
        else namesGo l e k (c + 1) (takeF l (markF l i e bad comma).1 e (markF l i e bad comma).2 2).2.1 (takeF l (markF l i e bad comma).1 e (markF l i e bad comma).2 2).2.2 (acc ++ [(takeF l (markF l i e bad comma).1 e (markF l i e bad comma).2 2).1]))
      else namesGo l e k (c + 1) (takeF l i e bad 2).2.1 (takeF l i e bad 2).2.2 (acc ++ [(takeF l i e bad 2).1]))
    else (acc, i, bad)
def namesR (l : List Tok) (i : Nat) (e bad : Int) : List ByteArray × Nat × Int := namesGo l e 102 0 (markF l i e bad lbr).1 (markF l i e bad lbr).2 []
def namesF (l : List Tok) (i : Nat) (e bad : Int) : List ByteArray × Nat × Int := ((namesR l i e bad).1, markF l (namesR l i e bad).2.1 e (namesR l i e bad).2.2 rbr)

theorem names_eq {l : List Tok} {i : Nat} {e bad : Int} {r : List ByteArray × Nat × Int} (h : namesR l i e bad = r) : namesF l i e bad = (r.1, markF l r.2.1 e r.2.2 rbr) := by subst h; rfl

noncomputable def FsI1 : Fs := { pure := fun _ => none, objs := fun k => if k = 62 then some oFail else if k = 68 then some oTakeP else if k = 70 then some oMark else if k = 82 then some oPeek else none }
theorem okI1 : FsOK Try.prog FsI1 := by
  refine ⟨fun k f h => ?_, fun k f h => ?_⟩
  · cases h
  · simp only [FsI1] at h
    split at h
    · rename_i hk; subst hk; cases h; exact ⟨by kernel_rfl, meets62⟩
    split at h
    · rename_i hk; subst hk; cases h; exact ⟨by kernel_rfl, meets68⟩
    split at h
    · rename_i hk; subst hk; cases h; exact ⟨by kernel_rfl, meets70⟩
    split at h
    · rename_i hk; subst hk; cases h; exact ⟨by kernel_rfl, meets82⟩
    · cases h
noncomputable def oNames := famO (fun x : List Tok × Nat × Int × Int => paPre x.1 x.2.1 ∧ posPre x.1 x.2.2.1) (fun x => ([.c (.p 0 0 0)], [paObj x.1 x.2.1 x.2.2.1 x.2.2.2]))
  (fun x => (.c (.s true 1 ((namesF x.1 x.2.1 x.2.2.1 x.2.2.2).1.map strC)), [paObj x.1 (namesF x.1 x.2.1 x.2.2.1 x.2.2.2).2.1 x.2.2.1 (namesF x.1 x.2.1 x.2.2.1 x.2.2.2).2.2]))
theorem meets79 : Meets Try.prog 79 (detS oNames) := by
  refine meets_famO (show Try.prog.funcs[79]? = some Try.f79 by kernel_rfl) rfl (n := 35) rfl (rs := [ResultVar.tmp 2]) rfl ?_
  rintro ⟨l, i0, e, bad0⟩ ⟨⟨hl, hi0, hsz⟩, hpos⟩ Q hQ
  dsimp only at hl hi0 hsz hQ hpos
  simp only [paObj] at hQ
  have hM0 : oMark [.c (.p 0 0 0), .c (.v (.string ⟨#[91]⟩))] _ = _ := mark_at hl i0 e bad0 lbr hi0
  have hj0 : (markF l i0 e bad0 lbr).1 ≤ l.length := markF_le hi0
  obtain ⟨res, hres⟩ : ∃ res, namesR l i0 e bad0 = res := ⟨_, rfl⟩
  rw [names_eq hres] at hQ
  have hQ2 : ∀ a j b, (a, j, b) = res → Q (.c (.s true 1 (a.map strC))) [⟨4, [[.s false 3 (l.map tokC), .v (.int .i64 (markF l j e b rbr).1), .v (.int .i64 e), .v (.int .i64 (markF l j e b rbr).2)]]⟩] := by
    intro a j b h
    subst h
    exact hQ
  clear hQ
  simp only [namesR] at hres
  generalize hk0 : (102 : Nat) = k0 at hres
  generalize hm0 : markF l i0 e bad0 lbr = m0 at hres hM0 hj0
  obtain ⟨i1, bad1⟩ := m0
  dsimp only at hres hM0 hj0
  refine seq_run okI1 rfl (by repeat (first | with_reducible exact runf_nil | refine runf_cons (by simp only [xstep, stepf, stepx, qev, St.ev, St.put, constD, constC, List.set_cons_zero, List.set_cons_succ, List.replicate, List.length_cons, List.length_nil, List.cons_append, List.nil_append, List.map_nil, List.map_cons, Option.map_some, Nat.reduceSub, Option.some.injEq, Nat.zero_add, paObj]; rfl) ?_)) ?_
  refine seq_run okI1 rfl (by repeat (first | with_reducible exact runf_nil | refine runf_cons (by simp only [xstep, stepf, stepx, qev, St.ev, St.put, constD, constC, List.set_cons_zero, List.set_cons_succ, Option.map_some, Option.some.injEq]; rfl) ?_)) ?_
  refine seq_run okI1 rfl (by repeat (first | with_reducible exact runf_nil | refine runf_cons (by simp only [xstep, stepf, stepx, evsA, qev, St.ev, St.put, St.with, D.cell, C.cpy, C.cp, C.dat, constD, constC, List.getElem?_cons_zero, List.getElem?_cons_succ, List.set_cons_zero, List.set_cons_succ, List.length_cons, List.length_nil, List.nil_append, List.append_nil, List.map_nil, List.all_cons, List.all_nil, Option.bind_some, Option.map_some, Bool.and_true, Bool.true_and, Nat.reduceEqDiff, if_true, if_false, and_self, Option.some.injEq, Bool.false_eq_true, Nat.zero_add, beq_self_eq_true, Bool.and_self, Bool.true_or, callP, callO, dedup, rootsD, rootsC, List.flatMap_cons, List.flatMap_nil, List.filterMap_cons, List.filterMap_nil, argDs, argD, argC, List.contains_nil, objsAt, objOf, List.idxOf?, List.findIdx?, List.findIdx?.go, setObjs, D.ni, settle, settleDs, List.isEmpty_nil, FsI1, hM0]; rfl) ?_)) ?_
  refine seq_in ?_
  refine seq_run okI1 rfl (by repeat (first | with_reducible exact runf_nil | refine runf_cons (by simp only [xstep, stepf, stepx, qev, St.ev, St.put, constD, constC, List.set_cons_zero, List.set_cons_succ, Option.map_some, Option.some.injEq]; rfl) ?_)) ?_
  refine tri_block ?_
  refine tri_nil 3 1 rfl ?_
  show Tri _ _ _ _
  refine tri_loop_le (fun m A => ∃ (k c i : Nat) (bad : Int) (acc : List ByteArray) (T : List (Option Root)), m = k ∧ c + k = 102 ∧ (c = 101 → 0 ≤ bad) ∧ c ≤ 101 ∧ i ≤ l.length ∧ acc.length = c ∧ namesGo l e k c i bad acc = res ∧ A = ⟨[.c (.p 0 0 0), .top, .c (.s true 0 []), .c (.h 1 0 acc.length), .c (.v (.int .i64 (c : Nat))), .top, .top, .top, .top, .top, .top, .top, .top, .top, .top, .top, .top, .top, .top, .top, .top, .top, .top, .top, .top, .top, .top, .top, .top, .top, .top, .top, .top, .top, .top], some ⟨false, 4, [[.s false 3 (l.map tokC), .v (.int .i64 i), .v (.int .i64 e), .v (.int .i64 bad)]]⟩ :: some ⟨true, 1, acc.map strC⟩ :: T⟩) k0 (B := ⟨[.c (.p 0 0 0), .top, .c (.s true 0 []), .c (.h 1 0 0), .c (.v (.int .i64 (0 : Nat))), .top, .top, .top, .top, .top, .top, .top, .top, .top, .top, .top, .top, .top, .top, .top, .top, .top, .top, .top, .top, .top, .top, .top, .top, .top, .top, .top, .top, .top, .top], [some ⟨false, 4, [[.s false 3 (l.map tokC), .v (.int .i64 i1), .v (.int .i64 e), .v (.int .i64 bad1)]]⟩, some ⟨true, 1, []⟩]⟩) ⟨by repeat (first | exact .nil | refine .same ?_ | refine .top ?_), rfl⟩ ⟨k0, 0, i1, bad1, [], [], rfl, by omega, by omega, by omega, hj0, rfl, hres, rfl⟩ ?_
  rintro m A ⟨k, c, i, bad, acc, T, rfl, hck, hcb, hc, hi, hacc, hk, rfl⟩
  obtain ⟨k, rfl⟩ : ∃ k, m = k + 1 := ⟨m - 1, by omega⟩
  have hq1 : (c : Int) + 1 = ((c + 1 : Nat) : Int) := by omega
  have hP : oPeek [.c (.p 0 0 0), .c (.v (.string ⟨#[93]⟩))] _ = _ := peek_at hl i e bad rbr hi
  have hR : oMark [.c (.p 0 0 0), .c (.v (.string ⟨#[93]⟩))] _ = _ := mark_at hl i e bad rbr hi
  have hC : oMark [.c (.p 0 0 0), .c (.v (.string ⟨#[44]⟩))] _ = _ := mark_at hl i e bad comma hi
  have hm : (markF l i e bad comma).1 ≤ l.length := markF_le hi
  have hF := fail_at hl (markF l i e bad comma).1 e (markF l i e bad comma).2 hm
  have hT1 := take_at hl i e bad 2 hi
  have hT2 := take_at hl (markF l i e bad comma).1 e (markF l i e bad comma).2 2 hm
  have hT3 := take_at hl (markF l i e bad comma).1 e (failF l (markF l i e bad comma).1 e (markF l i e bad comma).2) 2 hm
  have ht0 : (acc.map strC).take acc.length = acc.map strC := List.take_of_length_le (by simp)
  have hne : ∀ k : Nat, (k + 1 + 1 != 1) = true := (by intro k; simp)
  have hz : (acc.length + 1) * 16 ≤ 140737488355328 := by omega
  refine seq_in ?_
  by_cases a0 : (bad < 0)
  ·
    refine seq_run okI1 rfl (by repeat (first | with_reducible exact runf_nil | refine runf_cons (by simp only [xstep, stepf, stepx, evsA, qev, St.ev, St.put, St.with, D.cell, qload, cellsAt, qmk, C.cpy, TK.agg, qnil, qfieldAddr, qpick, qint, qshift, isShift, qbin, qun, liveR, C.cp, C.dat, constD, constC, List.getElem?_cons_zero, List.getElem?_cons_succ, List.set_cons_zero, List.set_cons_succ, List.length_cons, List.length_nil, List.nil_append, List.append_nil, List.map_nil, List.map_cons, List.all_cons, List.all_nil, List.take_succ_cons, List.take_zero, List.drop_succ_cons, List.drop_zero, Option.bind_some, Option.map_some, Option.map_none, Bool.and_true, Bool.true_and, Nat.reduceEqDiff, if_true, if_false, and_self, decide_true, cond_true, List.getElem?_toArray, Option.some.injEq, reduceCtorEq, Bool.false_eq_true, Nat.zero_add, beq_self_eq_true, Bool.and_self, Bool.true_or, callP, callO, dedup, rootsD, rootsC, List.flatMap_cons, List.flatMap_nil, List.filterMap_cons, List.filterMap_nil, argDs, argD, argC, List.contains_nil, objsAt, objOf, List.idxOf?, List.findIdx?, List.findIdx?.go, setObjs, D.ni, D.ni1, C.ni, settle, settle1, settleC, List.isEmpty_nil, FsI1, hP, tk80, tsz3, tk3, eq_true a0]; rfl) ?_)) ?_
    refine tri_cond rfl (fun a1 => ?_) (fun a1 => ?_)
    ·
      simp only [Bool.not_eq_true'] at a1
      refine then_skip ?_
      refine seq_in (tri_block ?_)
      refine seq_in ?_
      refine seq_run okI1 rfl (by repeat (first | with_reducible exact runf_nil | refine runf_cons (by simp only [xstep, stepf, stepx, qev, St.ev, St.put, qint, qshift, isShift, qbin, constD, constC, List.getElem?_cons_zero, List.getElem?_cons_succ, List.set_cons_zero, List.set_cons_succ, Option.map_some, Option.map_none, if_true, if_false, Bool.not_false, Option.some.injEq, Bool.false_eq_true, a1]; rfl) ?_)) ?_
      refine tri_cond rfl (fun a2 => ?_) (fun a2 => ?_)
      ·
        simp only [decide_eq_true_eq] at a2
        refine run_end okI1 rfl (by repeat (first | with_reducible exact runf_nil | refine runf_cons (by simp only [xstep, stepf, stepx, evsA, qev, St.ev, St.put, St.with, D.cell, C.cpy, C.cp, C.dat, constD, constC, List.getElem?_cons_zero, List.getElem?_cons_succ, List.set_cons_zero, List.set_cons_succ, List.length_cons, List.length_nil, List.nil_append, List.append_nil, List.map_nil, List.all_cons, List.all_nil, Option.bind_some, Option.map_some, Bool.and_true, Bool.true_and, Nat.reduceEqDiff, if_true, if_false, and_self, decide_true, Option.some.injEq, Bool.false_eq_true, Nat.zero_add, beq_self_eq_true, Bool.and_self, Bool.true_or, callP, callO, dedup, rootsD, rootsC, List.flatMap_cons, List.flatMap_nil, List.filterMap_cons, List.filterMap_nil, argDs, argD, argC, List.contains_nil, objsAt, objOf, List.idxOf?, List.findIdx?, List.findIdx?.go, setObjs, D.ni, settle, settleDs, List.isEmpty_nil, FsI1, hC, a2]; rfl) ?_)) ?_
        show Tri _ _ _ _
        refine seq_in ?_
        refine seq_run okI1 rfl (by repeat (first | with_reducible exact runf_nil | refine runf_cons (by simp only [xstep, stepf, stepx, qev, St.ev, St.put, qint, qshift, isShift, qbin, constD, constC, List.getElem?_cons_zero, List.getElem?_cons_succ, List.set_cons_zero, List.set_cons_succ, Option.map_some, Option.map_none, if_true, if_false, Option.some.injEq, Bool.false_eq_true]; rfl) ?_)) ?_
        refine tri_cond rfl (fun a3 => ?_) (fun a3 => ?_)
        ·
          simp only [decide_eq_true_eq] at a3
          refine run_end okI1 rfl (by repeat (first | with_reducible exact runf_nil | refine runf_cons (by simp only [xstep, stepf, stepx, evsA, qev, St.ev, St.put, St.with, D.cell, C.dat, List.getElem?_cons_zero, List.getElem?_cons_succ, List.set_cons_zero, List.set_cons_succ, List.length_cons, List.length_nil, List.nil_append, List.append_nil, List.map_nil, List.all_cons, List.all_nil, Option.bind_some, Option.map_some, Bool.and_true, Bool.true_and, Nat.reduceEqDiff, if_true, if_false, and_self, decide_true, Option.some.injEq, Bool.false_eq_true, Nat.zero_add, beq_self_eq_true, Bool.and_self, Bool.true_or, callP, callO, dedup, rootsD, rootsC, List.flatMap_cons, List.flatMap_nil, List.filterMap_cons, List.filterMap_nil, argDs, argD, argC, List.contains_nil, objsAt, objOf, List.idxOf?, List.findIdx?, List.findIdx?.go, setObjs, D.ni, settle, settleDs, List.isEmpty_nil, FsI1, hF, a3]; rfl) ?_)) ?_
          show Tri _ _ _ _
          refine run_end okI1 rfl (by repeat (first | with_reducible exact runf_nil | refine runf_cons (by simp only [xstep, stepf, stepx, evsA, qev, St.ev, St.put, St.with, D.cells, D.cell, C.cpy, C.st, C.cp, C.dat, putCells, constD, constC, List.getElem?_cons_zero, List.getElem?_cons_succ, List.set_cons_zero, List.set_cons_succ, List.length_cons, List.length_nil, List.cons_append, List.nil_append, List.append_nil, List.map_nil, List.map_cons, List.all_cons, List.all_nil, List.take_succ_cons, List.take_zero, List.drop_succ_cons, List.drop_zero, Option.bind_some, Option.map_some, Bool.and_true, Bool.true_and, Nat.reduceMul, Nat.reduceEqDiff, if_true, if_false, and_self, Option.some.injEq, ne_eq, not_false_eq_true, reduceCtorEq, Nat.reduceLeDiff, Nat.le_refl, Nat.reduceBNe, Bool.false_eq_true, Nat.zero_add, bne_self_eq_false, beq_self_eq_true, Bool.and_self, Bool.true_or, callP, callO, dedup, rootsD, rootsC, List.flatMap_cons, List.flatMap_nil, List.filterMap_cons, List.filterMap_nil, argDs, argD, argC, List.contains_nil, objsAt, objOf, List.idxOf?, List.findIdx?, List.findIdx?.go, setObjs, D.ni, D.ni1, C.ni, settle, settle1, settleC, List.isEmpty_nil, FsI1, hT3, ht0, hne, hz, last_get, buildSliceA, partsA, fillA, reps, chop, tkApp, str_nb, appendA, srcRows, srcOther, D.kill, D.no, C.no, C.kill, killH, Root.kill, D.nos, tk28, tz9, tsz9, bo9]; rfl) ?_)) ?_
          show Tri _ _ _ _
          refine run_end okI1 rfl (by repeat (first | with_reducible exact runf_nil | refine runf_cons (by simp only [xstep, stepf, stepx, qev, St.ev, St.put, qint, qshift, isShift, qbin, constD, constC, List.getElem?_cons_zero, List.getElem?_cons_succ, List.set_cons_zero, List.set_cons_succ, Option.map_some, Option.map_none, if_true, if_false, Option.some.injEq, Bool.false_eq_true, hq1, show IntKind.i64.wrap (↑(c + 1) : Int) = _ from wrap_i64 _ (by omega) (by omega)]; rfl) ?_)) ?_
          simp only []
          (simp only [namesGo, reduceIte, Bool.false_eq_true, ↓reduceIte, eq_true a0, a1, a2, a3] at hk; exact ⟨k, by omega, ⟨[.c (.p 0 0 0), .top, .c (.s true 0 []), .c (.h 1 0 (acc ++ [(takeF l (markF l i e bad comma).1 e (failF l (markF l i e bad comma).1 e (markF l i e bad comma).2) 2).1]).length), .c (.v (.int .i64 (c + 1 : Nat))), .top, .top, .top, .top, .top, .top, .top, .top, .top, .top, .top, .top, .top, .top, .top, .top, .top, .top, .top, .top, .top, .top, .top, .top, .top, .top, .top, .top, .top, .top], some ⟨false, 4, [[.s false 3 (l.map tokC), .v (.int .i64 (takeF l (markF l i e bad comma).1 e (failF l (markF l i e bad comma).1 e (markF l i e bad comma).2) 2).2.1), .v (.int .i64 e), .v (.int .i64 (takeF l (markF l i e bad comma).1 e (failF l (markF l i e bad comma).1 e (markF l i e bad comma).2) 2).2.2)]]⟩ :: some ⟨true, 1, (acc ++ [(takeF l (markF l i e bad comma).1 e (failF l (markF l i e bad comma).1 e (markF l i e bad comma).2) 2).1]).map strC⟩ :: List.map (fun o => Option.map (Root.kill 1) o) (T ++ [some ⟨true, 1, [strC (takeF l (markF l i e bad comma).1 e (failF l (markF l i e bad comma).1 e (markF l i e bad comma).2) 2).1]⟩])⟩, ⟨(by rw [show (acc ++ [(takeF l (markF l i e bad comma).1 e (failF l (markF l i e bad comma).1 e (markF l i e bad comma).2) 2).1]).length = acc.length + 1 from by simp]; repeat (first | exact .nil | refine .same ?_ | refine .top ?_)), (by rw [show (acc ++ [(takeF l (markF l i e bad comma).1 e (failF l (markF l i e bad comma).1 e (markF l i e bad comma).2) 2).1]).map strC = acc.map strC ++ [strC (takeF l (markF l i e bad comma).1 e (failF l (markF l i e bad comma).1 e (markF l i e bad comma).2) 2).1] from List.map_append]; rfl)⟩, k, c + 1, (takeF l (markF l i e bad comma).1 e (failF l (markF l i e bad comma).1 e (markF l i e bad comma).2) 2).2.1, (takeF l (markF l i e bad comma).1 e (failF l (markF l i e bad comma).1 e (markF l i e bad comma).2) 2).2.2, acc ++ [(takeF l (markF l i e bad comma).1 e (failF l (markF l i e bad comma).1 e (markF l i e bad comma).2) 2).1], _, rfl, by omega, (fun _ => take_bad (fail_pos hpos _ _)), by omega, takeF_le hm, (by simp [hacc]), hk, rfl⟩)
        ·
          simp only [decide_eq_false_iff_not] at a3
          refine then_skip ?_
          refine run_end okI1 rfl (by repeat (first | with_reducible exact runf_nil | refine runf_cons (by simp only [xstep, stepf, stepx, evsA, qev, St.ev, St.put, St.with, D.cells, D.cell, C.cpy, C.st, C.cp, C.dat, putCells, constD, constC, List.getElem?_cons_zero, List.getElem?_cons_succ, List.set_cons_zero, List.set_cons_succ, List.length_cons, List.length_nil, List.cons_append, List.nil_append, List.append_nil, List.map_nil, List.map_cons, List.all_cons, List.all_nil, List.take_succ_cons, List.take_zero, List.drop_succ_cons, List.drop_zero, Option.bind_some, Option.map_some, Bool.and_true, Bool.true_and, Nat.reduceMul, Nat.reduceEqDiff, if_true, if_false, and_self, decide_false, Option.some.injEq, ne_eq, not_false_eq_true, reduceCtorEq, Nat.reduceLeDiff, Nat.le_refl, Nat.reduceBNe, Bool.false_eq_true, Nat.zero_add, bne_self_eq_false, beq_self_eq_true, Bool.and_self, Bool.true_or, callP, callO, dedup, rootsD, rootsC, List.flatMap_cons, List.flatMap_nil, List.filterMap_cons, List.filterMap_nil, argDs, argD, argC, List.contains_nil, objsAt, objOf, List.idxOf?, List.findIdx?, List.findIdx?.go, setObjs, D.ni, D.ni1, C.ni, settle, settle1, settleC, List.isEmpty_nil, FsI1, hT2, ht0, hne, hz, last_get, buildSliceA, partsA, fillA, reps, chop, tkApp, str_nb, appendA, srcRows, srcOther, D.kill, D.no, C.no, C.kill, killH, Root.kill, D.nos, a3, tk28, tz9, tsz9, bo9]; rfl) ?_)) ?_
          show Tri _ _ _ _
          refine run_end okI1 rfl (by repeat (first | with_reducible exact runf_nil | refine runf_cons (by simp only [xstep, stepf, stepx, qev, St.ev, St.put, qint, qshift, isShift, qbin, constD, constC, List.getElem?_cons_zero, List.getElem?_cons_succ, List.set_cons_zero, List.set_cons_succ, Option.map_some, Option.map_none, if_true, if_false, Option.some.injEq, Bool.false_eq_true, hq1, show IntKind.i64.wrap (↑(c + 1) : Int) = _ from wrap_i64 _ (by omega) (by omega)]; rfl) ?_)) ?_
          simp only []
          (simp only [namesGo, reduceIte, Bool.false_eq_true, ↓reduceIte, eq_true a0, a1, a2, a3] at hk; exact ⟨k, by omega, ⟨[.c (.p 0 0 0), .top, .c (.s true 0 []), .c (.h 1 0 (acc ++ [(takeF l (markF l i e bad comma).1 e (markF l i e bad comma).2 2).1]).length), .c (.v (.int .i64 (c + 1 : Nat))), .top, .top, .top, .top, .top, .top, .top, .top, .top, .top, .top, .top, .top, .top, .top, .top, .top, .top, .top, .top, .top, .top, .top, .top, .top, .top, .top, .top, .top, .top], some ⟨false, 4, [[.s false 3 (l.map tokC), .v (.int .i64 (takeF l (markF l i e bad comma).1 e (markF l i e bad comma).2 2).2.1), .v (.int .i64 e), .v (.int .i64 (takeF l (markF l i e bad comma).1 e (markF l i e bad comma).2 2).2.2)]]⟩ :: some ⟨true, 1, (acc ++ [(takeF l (markF l i e bad comma).1 e (markF l i e bad comma).2 2).1]).map strC⟩ :: List.map (fun o => Option.map (Root.kill 1) o) (T ++ [some ⟨true, 1, [strC (takeF l (markF l i e bad comma).1 e (markF l i e bad comma).2 2).1]⟩])⟩, ⟨(by rw [show (acc ++ [(takeF l (markF l i e bad comma).1 e (markF l i e bad comma).2 2).1]).length = acc.length + 1 from by simp]; repeat (first | exact .nil | refine .same ?_ | refine .top ?_)), (by rw [show (acc ++ [(takeF l (markF l i e bad comma).1 e (markF l i e bad comma).2 2).1]).map strC = acc.map strC ++ [strC (takeF l (markF l i e bad comma).1 e (markF l i e bad comma).2 2).1] from List.map_append]; rfl)⟩, k, c + 1, (takeF l (markF l i e bad comma).1 e (markF l i e bad comma).2 2).2.1, (takeF l (markF l i e bad comma).1 e (markF l i e bad comma).2 2).2.2, acc ++ [(takeF l (markF l i e bad comma).1 e (markF l i e bad comma).2 2).1], _, rfl, by omega, (by omega), by omega, takeF_le hm, (by simp [hacc]), hk, rfl⟩)
      ·
        simp only [decide_eq_false_iff_not] at a2
        refine then_skip ?_
        refine seq_in ?_
        refine seq_run okI1 rfl (by repeat (first | with_reducible exact runf_nil | refine runf_cons (by simp only [xstep, stepf, stepx, qev, St.ev, St.put, qint, qshift, isShift, qbin, constD, constC, List.getElem?_cons_zero, List.getElem?_cons_succ, List.set_cons_zero, List.set_cons_succ, Option.map_some, Option.map_none, if_true, if_false, decide_false, Option.some.injEq, Bool.false_eq_true, a2]; rfl) ?_)) ?_
        refine tri_cond rfl (fun a4 => ?_) (fun a4 => ?_)
        ·
          simp only [decide_eq_true_eq] at a4
          (exfalso; omega)
        ·
          simp only [decide_eq_false_iff_not] at a4
          refine then_skip ?_
          refine run_end okI1 rfl (by repeat (first | with_reducible exact runf_nil | refine runf_cons (by simp only [xstep, stepf, stepx, evsA, qev, St.ev, St.put, St.with, D.cells, D.cell, C.cpy, C.st, C.cp, C.dat, putCells, constD, constC, List.getElem?_cons_zero, List.getElem?_cons_succ, List.set_cons_zero, List.set_cons_succ, List.length_cons, List.length_nil, List.cons_append, List.nil_append, List.append_nil, List.map_nil, List.map_cons, List.all_cons, List.all_nil, List.take_succ_cons, List.take_zero, List.drop_succ_cons, List.drop_zero, Option.bind_some, Option.map_some, Bool.and_true, Bool.true_and, Nat.reduceMul, Nat.reduceEqDiff, if_true, if_false, and_self, decide_false, Option.some.injEq, ne_eq, not_false_eq_true, reduceCtorEq, Nat.reduceLeDiff, Nat.le_refl, Nat.reduceBNe, Bool.false_eq_true, Nat.zero_add, bne_self_eq_false, beq_self_eq_true, Bool.and_self, Bool.true_or, callP, callO, dedup, rootsD, rootsC, List.flatMap_cons, List.flatMap_nil, List.filterMap_cons, List.filterMap_nil, argDs, argD, argC, List.contains_nil, objsAt, objOf, List.idxOf?, List.findIdx?, List.findIdx?.go, setObjs, D.ni, D.ni1, C.ni, settle, settle1, settleC, List.isEmpty_nil, FsI1, hT1, ht0, hne, hz, last_get, buildSliceA, partsA, fillA, reps, chop, tkApp, str_nb, appendA, srcRows, srcOther, D.kill, D.no, C.no, C.kill, killH, Root.kill, a4, tk28, tz9, tsz9, bo9]; rfl) ?_)) ?_
          show Tri _ _ _ _
          refine run_end okI1 rfl (by repeat (first | with_reducible exact runf_nil | refine runf_cons (by simp only [xstep, stepf, stepx, qev, St.ev, St.put, qint, qshift, isShift, qbin, constD, constC, List.getElem?_cons_zero, List.getElem?_cons_succ, List.set_cons_zero, List.set_cons_succ, Option.map_some, Option.map_none, if_true, if_false, Option.some.injEq, Bool.false_eq_true, hq1, show IntKind.i64.wrap (↑(c + 1) : Int) = _ from wrap_i64 _ (by omega) (by omega)]; rfl) ?_)) ?_
          simp only []
          (simp only [namesGo, reduceIte, Bool.false_eq_true, ↓reduceIte, eq_true a0, a1, a2] at hk; exact ⟨k, by omega, ⟨[.c (.p 0 0 0), .top, .c (.s true 0 []), .c (.h 1 0 (acc ++ [(takeF l i e bad 2).1]).length), .c (.v (.int .i64 (c + 1 : Nat))), .top, .top, .top, .top, .top, .top, .top, .top, .top, .top, .top, .top, .top, .top, .top, .top, .top, .top, .top, .top, .top, .top, .top, .top, .top, .top, .top, .top, .top, .top], some ⟨false, 4, [[.s false 3 (l.map tokC), .v (.int .i64 (takeF l i e bad 2).2.1), .v (.int .i64 e), .v (.int .i64 (takeF l i e bad 2).2.2)]]⟩ :: some ⟨true, 1, (acc ++ [(takeF l i e bad 2).1]).map strC⟩ :: List.map (fun o => Option.map (Root.kill 1) o) (T ++ [some ⟨true, 1, [strC (takeF l i e bad 2).1]⟩])⟩, ⟨(by rw [show (acc ++ [(takeF l i e bad 2).1]).length = acc.length + 1 from by simp]; repeat (first | exact .nil | refine .same ?_ | refine .top ?_)), (by rw [show (acc ++ [(takeF l i e bad 2).1]).map strC = acc.map strC ++ [strC (takeF l i e bad 2).1] from List.map_append]; rfl)⟩, k, c + 1, (takeF l i e bad 2).2.1, (takeF l i e bad 2).2.2, acc ++ [(takeF l i e bad 2).1], _, rfl, by omega, (by omega), by omega, takeF_le hi, (by simp [hacc]), hk, rfl⟩)
    ·
      simp only [Bool.not_eq_false'] at a1
      refine tri_exit ?_
      show Tri _ _ _ _
      refine seq_run okI1 rfl (by repeat (first | with_reducible exact runf_nil | refine runf_cons (by simp only [xstep, stepf, stepx, evsA, qev, St.ev, St.put, St.with, D.cell, C.cpy, C.cp, C.dat, constD, constC, List.getElem?_cons_zero, List.getElem?_cons_succ, List.set_cons_zero, List.set_cons_succ, List.length_cons, List.length_nil, List.nil_append, List.append_nil, List.map_nil, List.all_cons, List.all_nil, Option.bind_some, Option.map_some, Bool.and_true, Bool.true_and, Nat.reduceEqDiff, if_true, if_false, and_self, Bool.not_true, Option.some.injEq, Bool.false_eq_true, Nat.zero_add, beq_self_eq_true, Bool.and_self, Bool.true_or, callP, callO, dedup, rootsD, rootsC, List.flatMap_cons, List.flatMap_nil, List.filterMap_cons, List.filterMap_nil, argDs, argD, argC, List.contains_nil, objsAt, objOf, List.idxOf?, List.findIdx?, List.findIdx?.go, setObjs, D.ni, settle, settleDs, List.isEmpty_nil, FsI1, hR, a1]; rfl) ?_)) ?_
      refine seq_run okI1 rfl (by repeat (first | with_reducible exact runf_nil | refine runf_cons (by simp only [xstep, stepf, stepx, qev, St.ev, St.put, List.getElem?_cons_zero, List.getElem?_cons_succ, List.set_cons_zero, List.set_cons_succ, Option.map_some, Option.some.injEq]; rfl) ?_)) ?_
      refine tri_ret (ends_ret (by simp only [outRes, resDs, resD, outD, outC, List.getElem?_cons_zero, List.getElem?_cons_succ, Option.map_some, if_true, and_self, Option.some.injEq, ne_eq, not_false_eq_true, reduceCtorEq, List.length_map]; rfl) rfl (by simp) (by simp) ?_)
      simp only [List.nil_append]
      (simp only [namesGo, reduceIte, ↓reduceIte, eq_true a0, a1] at hk; with_reducible exact hQ2 _ _ _ hk)
  ·
    refine seq_run okI1 rfl (by repeat (first | with_reducible exact runf_nil | refine runf_cons (by simp only [xstep, stepf, stepx, evsA, qev, St.ev, St.put, D.cell, qload, cellsAt, qmk, C.cpy, TK.agg, qnil, qfieldAddr, qpick, qint, qshift, isShift, qbin, qun, liveR, C.cp, C.dat, constD, constC, List.getElem?_cons_zero, List.getElem?_cons_succ, List.set_cons_zero, List.set_cons_succ, List.length_cons, List.length_nil, List.nil_append, List.append_nil, List.map_nil, List.map_cons, List.all_cons, List.all_nil, List.take_succ_cons, List.take_zero, List.drop_succ_cons, List.drop_zero, Option.bind_some, Option.map_some, Option.map_none, Nat.reduceEqDiff, if_true, if_false, and_self, decide_false, cond_false, List.getElem?_toArray, Option.some.injEq, reduceCtorEq, Bool.false_eq_true, Nat.zero_add, Bool.and_self, callP, callO, dedup, rootsD, rootsC, List.flatMap_cons, List.flatMap_nil, List.filterMap_cons, List.filterMap_nil, argDs, argD, argC, objsAt, FsI1, tk80, tsz3, tk3, eq_false a0]; rfl) ?_)) ?_
    refine tri_cond (b := false) rfl (fun h => by cases h) (fun _ => ?_)
    refine tri_exit ?_
    show Tri _ _ _ _
    refine seq_run okI1 rfl (by repeat (first | with_reducible exact runf_nil | refine runf_cons (by simp only [xstep, stepf, stepx, evsA, qev, St.ev, St.put, St.with, D.cell, C.cpy, C.cp, C.dat, constD, constC, List.getElem?_cons_zero, List.getElem?_cons_succ, List.set_cons_zero, List.set_cons_succ, List.length_cons, List.length_nil, List.nil_append, List.append_nil, List.map_nil, List.all_cons, List.all_nil, Option.bind_some, Option.map_some, Bool.and_true, Bool.true_and, Nat.reduceEqDiff, if_true, if_false, and_self, Option.some.injEq, Bool.false_eq_true, Nat.zero_add, beq_self_eq_true, Bool.and_self, Bool.true_or, callP, callO, dedup, rootsD, rootsC, List.flatMap_cons, List.flatMap_nil, List.filterMap_cons, List.filterMap_nil, argDs, argD, argC, List.contains_nil, objsAt, objOf, List.idxOf?, List.findIdx?, List.findIdx?.go, setObjs, D.ni, settle, settleDs, List.isEmpty_nil, FsI1, hR]; rfl) ?_)) ?_
    refine seq_run okI1 rfl (by repeat (first | with_reducible exact runf_nil | refine runf_cons (by simp only [xstep, stepf, stepx, qev, St.ev, St.put, List.getElem?_cons_zero, List.getElem?_cons_succ, List.set_cons_zero, List.set_cons_succ, Option.map_some, Option.some.injEq]; rfl) ?_)) ?_
    refine tri_ret (ends_ret (by simp only [outRes, resDs, resD, outD, outC, List.getElem?_cons_zero, List.getElem?_cons_succ, Option.map_some, if_true, and_self, Option.some.injEq, ne_eq, not_false_eq_true, reduceCtorEq, List.length_map]; rfl) rfl (by simp) (by simp) ?_)
    simp only [List.nil_append]
    (simp only [namesGo, reduceIte, ↓reduceIte, eq_false a0] at hk; with_reducible exact hQ2 _ _ _ hk)
end Go.Dl

namespace Go.Dl
open Go.RowKit

/-- A cell that nobody will change. -/
def C.frz : C → C
  | .s true es rows => if (rows.all fun row => row.all C.cp) = true then .s false es rows else .s true es rows
  | c => c

def D.frzA : D → D
  | .agg xs => .agg (xs.map C.frz)
  | d => d

theorem frzC1 {w : World} {S : Nat → Prop} {c : C} {v : Value} {f : List Nat} (h : Rep w S [] (.k false c v) f) : ∃ f0 f1, f.Perm (f0 ++ f1) ∧ Rep w (fun x => S x ∨ x ∈ f0) [] (.k false c.frz v) f1 := by
  unfold C.frz
  split
  · rename_i es rows
    split
    · rename_i hc
      cases h with
      | nilO => exact ⟨[], [], .refl _, .nilI⟩
      | own hz hb hc' hl hr =>
        rename_i b off cap fp
        have hfp := cells_cp hr (rows_cp hc)
        subst hfp
        exact ⟨[b], [], .refl _, .imm (.inr (by simp)) hc' hl (hr.mono (fun _ h => .inl h) (.refl _ _) (fun _ _ => rfl))⟩
    · exact ⟨[], f, .refl _, h.mono (fun _ h => .inl h) (.refl _ _) (fun _ _ => rfl)⟩
  · exact ⟨[], f, .refl _, h.mono (fun _ h => .inl h) (.refl _ _) (fun _ _ => rfl)⟩

theorem frzCs {w : World} {S : Nat → Prop} : ∀ {cs : List C} {vs : List Value} {f : List Nat}, Rep w S [] (.vs cs vs) f → ∃ f0 f1, f.Perm (f0 ++ f1) ∧ Rep w (fun x => S x ∨ x ∈ f0) [] (.vs (cs.map C.frz) vs) f1
  | [], _, _, h => by cases h; exact ⟨[], [], .refl _, .vnil⟩
  | c :: cs, _, _, h => by
    cases h with
    | vcons h1 h2 =>
      obtain ⟨a0, a1, p1, r1⟩ := frzC1 h1
      obtain ⟨b0, b1, p2, r2⟩ := frzCs h2
      refine ⟨a0 ++ b0, a1 ++ b1, (p1.append p2).trans ?_, .vcons (r1.mono (fun x h => h.imp id fun h => List.mem_append_left _ h) (.refl _ _) (fun _ _ => rfl)) (r2.mono (fun x h => h.imp id fun h => List.mem_append_right _ h) (.refl _ _) (fun _ _ => rfl))⟩
      rw [List.append_assoc, List.append_assoc]
      refine List.Perm.append_left _ ?_
      rw [← List.append_assoc, ← List.append_assoc]
      exact List.Perm.append_right _ List.perm_append_comm

theorem left_frzA {w w' : World} {S : Nat → Prop} {pls : List Pl} {fps : List (List Nat)} {d : D} {v : Value} {objs' : List Obj} (h : Left w w' S pls fps d v objs') : Left w w' S pls fps d.frzA v objs' := by
  unfold D.frzA
  split
  · rename_i xs
    refine ⟨h.size, h.keep, h.os, h.tape, h.output, ?_⟩
    obtain ⟨S', pls', fps', fpd, l1, l2, l3, l4, l5, l6, l7⟩ := h.rest
    obtain ⟨arr, hv, h3⟩ := (show ∃ arr : Array Value, v = .agg arr ∧ Rep w' S' [] (.vs xs arr.toList) fpd from l3)
    obtain ⟨f0, f1, hp, hr⟩ := frzCs h3
    have hm : ∀ x, x ∈ fpd ↔ x ∈ f0 ∨ x ∈ f1 := fun x => by rw [hp.mem_iff, List.mem_append]
    have hnd : (f0 ++ f1).Nodup := hp.nodup_iff.1 (List.nodup_append.1 l5).1
    refine ⟨fun x => S' x ∨ x ∈ f0, pls', fps', f1, fun x hx => .inl (l1 x hx), fun x hx => ?_, ⟨arr, hv, hr⟩, ?_, ?_, ?_, l7⟩
    · rcases hx with hx | hx
      · exact l2 x hx
      · have := l6 x (List.mem_append_left _ ((hm x).2 (.inl hx)))
        exact ⟨this.2.1, .inr this.2.2⟩
    · obtain ⟨m1, m2, m3⟩ := l4
      refine ⟨m1, m2, fun i ob hob => ?_⟩
      obtain ⟨p, f, r1, r2, r3⟩ := m3 i ob hob
      exact ⟨p, f, r1, r2, r3.mono (fun _ h => .inl h) (.refl _ _) (fun _ _ => rfl)⟩
    · have l5' := List.nodup_append.1 l5
      exact List.nodup_append.2 ⟨(List.nodup_append.1 hnd).2.1, l5'.2.1, fun x hx y hy hxy => l5'.2.2 x ((hm x).2 (.inr hx)) y hy hxy⟩
    · intro x hx
      rcases List.mem_append.1 hx with h | h
      · obtain ⟨r1, r2, r3⟩ := l6 x (List.mem_append_left _ ((hm x).2 (.inr h)))
        refine ⟨?_, r2, r3⟩
        rintro (h' | h')
        · exact r1 h'
        · exact (List.nodup_append.1 hnd).2.2 x h' x h rfl
      · obtain ⟨r1, r2, r3⟩ := l6 x (List.mem_append_right _ h)
        refine ⟨?_, r2, r3⟩
        rintro (h' | h')
        · exact r1 h'
        · exact (List.nodup_append.1 l5).2.2 x ((hm x).2 (.inl h')) x h rfl
  · exact h

theorem meets_frzA {P : Program} {k : FuncId} {spec : Spec} (h : Meets P k spec) : Meets P k (fun args objs Q => spec args objs (fun d os => Q d.frzA os)) := by
  intro args objs Q hs w S vs pls fps h1 h2 h3 h4 h5 h6
  refine (h args objs _ hs w S vs pls fps h1 h2 h3 h4 h5 h6).mono ?_
  rintro e w' ⟨v, d, os, e1, hq, hl, left⟩
  exact ⟨v, d.frzA, os, e1, hq, hl, left_frzA left⟩

theorem meets_frzAO {P : Program} {k : FuncId} {f : List D → List Obj → Option (D × List Obj)} (h : Meets P k (detS f)) : Meets P k (detS fun a o => (f a o).map fun r => (r.1.frzA, r.2)) := by
  intro args objs Q hs
  refine meets_frzA h args objs Q ?_
  obtain ⟨d, os, h2, h3⟩ := hs
  cases hf : f args objs with
  | none => simp only [hf] at h2; cases h2
  | some d0 => simp only [hf] at h2; cases h2; exact ⟨d0.1, d0.2, hf, h3⟩
theorem meets_frzAP {P : Program} {k : FuncId} {f : List D → Option D} (h : Meets P k (pureS f)) : Meets P k (pureS fun a => (f a).map D.frzA) := by
  intro args objs Q hs
  refine meets_frzA h args objs Q ?_
  obtain ⟨h1, d, h2, h3⟩ := hs
  cases hf : f args with
  | none => simp only [hf] at h2; cases h2
  | some d0 => simp only [hf] at h2; cases h2; exact ⟨h1, d0, hf, h3⟩
end Go.Dl
