/- The walks of float, word, value. -/
import Derived.Test.YtbefgbljlmnfoaaC16
namespace Go.Dl
open Go.RowKit
open Go.Proofs
set_option linter.unusedSimpArgs false
set_option linter.unusedVariables false

abbrev Val := Int × Bool × Int × Int × ByteArray
def valC (v : Val) : List C := [.v (.int .i64 v.1), .v (.bool v.2.1), .v (.int .i64 v.2.2.1), .v (.int .u64 v.2.2.2.1), .v (.string v.2.2.2.2)]
def val0 : Val := (0, false, 0, 0, noText)
def lpar : ByteArray := ⟨#[40]⟩
def rpar : ByteArray := ⟨#[41]⟩
def orw (b d : Int) : Int := IntKind.u64.wrap ((BitVec.ofInt IntKind.u64.bits (IntKind.u64.wrap (b * 2 ^ min 4 IntKind.u64.bits)) ||| BitVec.ofInt IntKind.u64.bits (IntKind.u64.wrap d)).toNat)
/-- The bits that signs are. -/
def bitsN (n : Nat) : List UInt8 → Int → Option Int
  | [], b => some b
  | c :: cs, b => if nibF c.toNat < 0 then none else if (n : Int) = 16 then bitsN n cs (orw b (nibF c.toNat)) else none
def flA (l : List Tok) (i : Nat) (e bad : Int) : Nat × Int := markF l i e bad lpar
def flB (l : List Tok) (i : Nat) (e bad : Int) : ByteArray × Nat × Int := takeF l (flA l i e bad).1 e (flA l i e bad).2 2
def floatF (l : List Tok) (i : Nat) (e bad : Int) : Val × Nat × Int :=
  if 0 ≤ (flB l i e bad).2.2 then (val0, (flB l i e bad).2.1, (flB l i e bad).2.2)
  else match bitsN (flB l i e bad).1.size (flB l i e bad).1.data.toList 0 with
    | none => (val0, (flA l i e bad).1, failF l (flA l i e bad).1 e (flB l i e bad).2.2)
    | some b => if strEq (flB l i e bad).1 noText = true then ((3, false, 0, b, noText), markF l (flA l i e bad).1 e (failF l (flA l i e bad).1 e (flB l i e bad).2.2) rpar)
      else ((3, false, 0, b, noText), markF l (flB l i e bad).2.1 e (flB l i e bad).2.2 rpar)

theorem bits_drop {s : ByteArray} {j : Nat} (h : j < s.size) : s.data.toList.drop j = s.data.toList.getD j 0 :: s.data.toList.drop (j + 1) := by
  have h' : j < s.data.toList.length := by simpa using h
  rw [List.drop_eq_getElem_cons h']
  congr 1
  simp [List.getD, List.getElem?_eq_getElem h']
theorem bits_no {s : ByteArray} {j : Nat} {b r : Int} {z : Option Int} (h : j < s.size) (hr : nibF (byU s j).toNat = r) (hn : r < 0 ∨ ¬ (s.size : Int) = 16) (hz : bitsN s.size (s.data.toList.drop j) b = z) : z = none := by
  rw [bits_drop h] at hz
  subst hz
  show (if nibF (byU s j).toNat < 0 then _ else _) = none
  rw [hr]
  rcases hn with hn | hn
  · rw [if_pos hn]
  · rw [if_neg hn]; split <;> rfl
theorem bits_go {s : ByteArray} {j : Nat} {b : Int} {z : Option Int} (h : j < s.size) (hr : ¬ nibF (byU s j).toNat < 0) (hn : (s.size : Int) = 16) (hz : bitsN s.size (s.data.toList.drop j) b = z) : bitsN s.size (s.data.toList.drop (j + 1)) (orw b (nibF (byU s j).toNat)) = z := by
  rw [bits_drop h] at hz
  rw [← hz]
  show _ = (if nibF (byU s j).toNat < 0 then _ else _)
  rw [if_neg hr, if_pos hn]; rfl

theorem nib_at (x : UInt8) : pNib [.c (.v (.int .u8 x.toNat))] = some (.c (.v (.int .i64 (nibF x.toNat)))) :=
  famP_at (by
    intro a b h
    simp only [List.cons.injEq, D.c.injEq, C.v.injEq, Value.int.injEq, and_true, true_and] at h
    have : a = b := by apply UInt8.toNat_inj.1; omega
    subst this; rfl) x trivial rfl

noncomputable def FsG1 : Fs := { pure := fun k => if k = 84 then some pNib else none, objs := fun k => if k = 62 then some oFail else if k = 68 then some oTakeP else if k = 70 then some oMark else none }
theorem okG1 : FsOK Try.prog FsG1 := by
  refine ⟨fun k f h => ?_, fun k f h => ?_⟩
  · simp only [FsG1] at h
    split at h
    · rename_i hk; subst hk; cases h; exact ⟨by kernel_rfl, meets84⟩
    · cases h
  · simp only [FsG1] at h
    split at h
    · rename_i hk; subst hk; cases h; exact ⟨by kernel_rfl, meets62⟩
    split at h
    · rename_i hk; subst hk; cases h; exact ⟨by kernel_rfl, meets68⟩
    split at h
    · rename_i hk; subst hk; cases h; exact ⟨by kernel_rfl, meets70⟩
    · cases h

noncomputable def oFloat := famO (fun x : List Tok × Nat × Int × Int => paPre x.1 x.2.1) (fun x => ([.c (.p 0 0 0)], [paObj x.1 x.2.1 x.2.2.1 x.2.2.2]))
  (fun x => (.agg (valC (floatF x.1 x.2.1 x.2.2.1 x.2.2.2).1), [paObj x.1 (floatF x.1 x.2.1 x.2.2.1 x.2.2.2).2.1 x.2.2.1 (floatF x.1 x.2.1 x.2.2.1 x.2.2.2).2.2]))
theorem meets77 : Meets Try.prog 77 (detS oFloat) := by
  refine meets_famO (show Try.prog.funcs[77]? = some Try.f77 by kernel_rfl) rfl (n := 65) rfl (rs := [ResultVar.cell 2 39]) rfl ?_
  rintro ⟨l, i, e, bad⟩ ⟨hl, hi, hsz⟩ Q hQ
  dsimp only at hl hi hsz hQ
  simp only [paObj] at hQ
  have hM := mark_at hl i e bad lpar hi
  have hM' : oMark [.c (.p 0 0 0), .c (.v (.string ⟨#[40]⟩))] _ = _ := hM
  have hA : (flA l i e bad).1 ≤ l.length := markF_le hi
  have hT := take_at hl (flA l i e bad).1 e (flA l i e bad).2 2 hA
  have hB : (flB l i e bad).2.1 ≤ l.length := takeF_le hA
  have hBs : (flB l i e bad).1.size ≤ 1000000 := takeF_size hsz
  have hF := fail_at hl (flA l i e bad).1 e (flB l i e bad).2.2 hA
  have hM2 := mark_at hl (flA l i e bad).1 e (failF l (flA l i e bad).1 e (flB l i e bad).2.2) rpar hA
  have hM3 := mark_at hl (flB l i e bad).2.1 e (flB l i e bad).2.2 rpar hB
  have hM2' : oMark [.c (.p 0 0 0), .c (.v (.string ⟨#[41]⟩))] _ = _ := hM2
  have hM3' : oMark [.c (.p 0 0 0), .c (.v (.string ⟨#[41]⟩))] _ = _ := hM3
  change oMark _ _ = some (.t [], [⟨4, [[.s false 3 (l.map tokC), .v (.int .i64 (flA l i e bad).1), .v (.int .i64 e), .v (.int .i64 (flA l i e bad).2)]]⟩]) at hM'
  change oTakeP _ _ = some (.c (.v (.string (flB l i e bad).1)), [⟨4, [[.s false 3 (l.map tokC), .v (.int .i64 (flB l i e bad).2.1), .v (.int .i64 e), .v (.int .i64 (flB l i e bad).2.2)]]⟩]) at hT
  refine seq_run okG1 rfl (by repeat (first | with_reducible exact runf_nil | refine runf_cons (by simp only [xstep, stepf, stepx, St.put, St.with, boxA, C.st, List.set_cons_zero, List.set_cons_succ, List.replicate, List.length_cons, List.length_nil, List.cons_append, List.nil_append, List.map_nil, List.map_cons, List.all_cons, List.all_nil, Option.bind_some, Option.map_some, Nat.reduceAdd, Nat.reduceSub, if_true, Option.some.injEq, Nat.zero_add, Bool.and_self, paObj, tz39]; rfl) ?_)) ?_
  refine seq_run okG1 rfl (by repeat (first | with_reducible exact runf_nil | refine runf_cons (by simp only [xstep, stepf, stepx, evsA, qev, St.ev, St.put, St.with, D.cell, C.cpy, C.cp, C.dat, constD, constC, List.getElem?_cons_zero, List.getElem?_cons_succ, List.set_cons_zero, List.set_cons_succ, List.length_cons, List.length_nil, List.nil_append, List.append_nil, List.map_nil, List.all_cons, List.all_nil, Option.bind_some, Option.map_some, Bool.and_true, Bool.true_and, Nat.reduceEqDiff, if_true, if_false, and_self, Option.some.injEq, Bool.false_eq_true, Nat.zero_add, beq_self_eq_true, Bool.and_self, Bool.true_or, callP, callO, dedup, rootsD, rootsC, List.flatMap_cons, List.flatMap_nil, List.filterMap_cons, List.filterMap_nil, argDs, argD, argC, List.contains_nil, objsAt, objOf, List.idxOf?, List.findIdx?, List.findIdx?.go, setObjs, D.ni, settle, settleDs, List.isEmpty_nil, FsG1, hM']; rfl) ?_)) ?_
  refine seq_run okG1 rfl (by repeat (first | with_reducible exact runf_nil | refine runf_cons (by simp only [xstep, stepf, stepx, qev, St.ev, St.put, qload, cellsAt, qmk, C.cpy, TK.agg, qnil, qfieldAddr, liveR, C.cp, List.getElem?_cons_zero, List.getElem?_cons_succ, List.set_cons_zero, List.set_cons_succ, List.length_cons, List.length_nil, List.map_nil, List.map_cons, List.all_cons, List.all_nil, List.take_succ_cons, List.take_zero, List.drop_succ_cons, List.drop_zero, Option.bind_some, Option.map_some, if_true, if_false, and_self, Option.some.injEq, reduceCtorEq, Bool.false_eq_true, Nat.zero_add, Bool.and_self, tk80, tsz3, tk3]; rfl) ?_)) ?_
  refine seq_run okG1 rfl (by repeat (first | with_reducible exact runf_nil | refine runf_cons (by simp only [xstep, stepf, stepx, evsA, qev, St.ev, St.put, St.with, D.cell, C.cpy, C.cp, C.dat, constD, constC, List.getElem?_cons_zero, List.getElem?_cons_succ, List.set_cons_zero, List.set_cons_succ, List.length_cons, List.length_nil, List.nil_append, List.append_nil, List.map_nil, List.all_cons, List.all_nil, Option.bind_some, Option.map_some, Bool.and_true, Bool.true_and, Nat.reduceEqDiff, if_true, if_false, and_self, Option.some.injEq, Bool.false_eq_true, Nat.zero_add, beq_self_eq_true, Bool.and_self, Bool.true_or, callP, callO, dedup, rootsD, rootsC, List.flatMap_cons, List.flatMap_nil, List.filterMap_cons, List.filterMap_nil, argDs, argD, argC, List.contains_nil, objsAt, objOf, List.idxOf?, List.findIdx?, List.findIdx?.go, setObjs, D.ni, D.ni1, C.ni, settle, settle1, settleC, List.isEmpty_nil, FsG1, hT]; rfl) ?_)) ?_
  refine seq_in ?_
  refine seq_run okG1 rfl (by repeat (first | with_reducible exact runf_nil | refine runf_cons (by simp only [xstep, stepf, stepx, qev, St.ev, St.put, qload, cellsAt, qmk, C.cpy, TK.agg, qnil, qfieldAddr, qint, qshift, isShift, qbin, liveR, C.cp, constD, constC, List.getElem?_cons_zero, List.getElem?_cons_succ, List.set_cons_zero, List.set_cons_succ, List.length_cons, List.length_nil, List.map_nil, List.map_cons, List.all_cons, List.all_nil, List.take_succ_cons, List.take_zero, List.drop_succ_cons, List.drop_zero, Option.bind_some, Option.map_some, Option.map_none, if_true, if_false, and_self, Option.some.injEq, reduceCtorEq, Bool.false_eq_true, Nat.zero_add, Bool.and_self, tk80, tsz3, tk3]; rfl) ?_)) ?_
  refine tri_cond rfl (fun a0 => ?_) (fun a0 => ?_)
  ·
    simp only [decide_eq_true_eq] at a0
    refine seq_run okG1 rfl (by repeat (first | with_reducible exact runf_nil | refine runf_cons (by simp only [xstep, stepf, stepx, St.ev, St.put, D.cells, C.st, C.dat, storeA, putCells, List.getElem?_cons_zero, List.getElem?_cons_succ, List.set_cons_zero, List.set_cons_succ, List.length_cons, List.length_nil, List.nil_append, List.append_nil, List.all_cons, List.all_nil, List.take_zero, List.drop_succ_cons, List.drop_zero, Option.bind_some, Option.map_some, Nat.reduceAdd, if_true, and_self, decide_true, Option.some.injEq, ne_eq, not_false_eq_true, reduceCtorEq, Nat.le_refl, Nat.reduceBNe, Bool.false_eq_true, implies_true, Nat.zero_add, Bool.and_self, buildA, partsA, fillA, tz39, tsz3, a0, tk39, tsz4, tsz2, tsz37, tsz9, tsz39]; rfl) ?_)) ?_
    refine tri_ret (ends_ret (by simp only [outRes, resDs, resD, outD, outC, outCs, qload, cellsAt, qmk, C.cpy, TK.agg, C.cp, C.dat, List.getElem?_cons_zero, List.getElem?_cons_succ, List.length_cons, List.length_nil, List.append_nil, List.map_nil, List.map_cons, List.all_cons, List.all_nil, List.take_succ_cons, List.take_zero, List.drop_zero, Option.bind_some, Option.map_some, Nat.reduceAdd, if_true, and_self, Option.some.injEq, Nat.zero_add, Bool.and_self, tk39, tsz39]; rfl) rfl (by simp) (by simp) ?_)
    simp only [List.nil_append]
    (simp only [reduceIte, ↓reduceIte, floatF, valC, val0, noText, a0] at hQ; with_reducible exact hQ)
  ·
    simp only [decide_eq_false_iff_not] at a0
    refine then_skip ?_
    refine seq_run okG1 rfl (by repeat (first | with_reducible exact runf_nil | refine runf_cons (by simp only [xstep, stepf, stepx, St.ev, St.put, St.with, D.cells, boxA, C.st, C.dat, storeA, putCells, constD, constC, List.getElem?_cons_zero, List.getElem?_cons_succ, List.set_cons_zero, List.set_cons_succ, List.length_cons, List.length_nil, List.cons_append, List.nil_append, List.append_nil, List.all_cons, List.all_nil, List.take_zero, List.drop_succ_cons, List.drop_zero, Option.bind_some, Option.map_some, Nat.reduceAdd, if_true, and_self, decide_false, Option.some.injEq, ne_eq, not_false_eq_true, reduceCtorEq, Nat.reduceLeDiff, Nat.le_refl, Nat.reduceBNe, Bool.false_eq_true, implies_true, Nat.zero_add, Bool.and_self, buildA, partsA, fillA, placeSt, tz39, tsz3, a0, tk39, tsz4, tsz2, tsz37, tsz9, tsz39]; rfl) ?_)) ?_
    refine seq_in ?_
    refine seq_run okG1 rfl (by repeat (first | with_reducible exact runf_nil | refine runf_cons (by simp only [xstep, stepf, stepx, qev, St.ev, St.put, qlen, qbuiltin, constD, constC, List.getElem?_cons_zero, List.getElem?_cons_succ, List.set_cons_zero, List.set_cons_succ, Option.bind_some, Option.map_some, Option.some.injEq, tk9]; rfl) ?_)) ?_
    refine tri_block ?_
    refine tri_loop_le (fun n A => ∃ (j : Nat) (b : Int), j ≤ (flB l i e bad).1.size ∧ n = (flB l i e bad).1.size - j ∧ bitsN (flB l i e bad).1.size ((flB l i e bad).1.data.toList.drop j) b = bitsN (flB l i e bad).1.size (flB l i e bad).1.data.toList 0 ∧ A = ⟨[.c (.p 0 0 0), .top, .c (.p 1 0 0), .c (.v (.int .i64 (flA l i e bad).1)), .c (.v (.string (flB l i e bad).1)), .c (.p 2 0 0), .top, .top, .top, .top, .top, .top, .top, .top, .top, .top, .top, .top, .top, .top, .top, .top, .top, .top, .c (.v (.int .i64 (flB l i e bad).1.size)), .c (.v (.int .i64 (j : Nat))), .top, .top, .top, .top, .top, .top, .top, .top, .top, .top, .top, .top, .top, .top, .top, .top, .top, .top, .top, .top, .top, .top, .top, .top, .top, .top, .top, .top, .top, .top, .top, .top, .top, .top, .top, .top, .top, .top, .top], [some ⟨false, 4, [[.s false 3 (l.map tokC), .v (.int .i64 (flB l i e bad).2.1), .v (.int .i64 e), .v (.int .i64 (flB l i e bad).2.2)]]⟩, some ⟨false, 5, [valC val0]⟩, some ⟨false, 5, [[.v (.int .i64 3), .v (.bool false), .v (.int .i64 0), .v (.int .u64 b), .v (.string ⟨#[]⟩)]]⟩]⟩) (flB l i e bad).1.size (B := ⟨[.c (.p 0 0 0), .top, .c (.p 1 0 0), .c (.v (.int .i64 (flA l i e bad).1)), .c (.v (.string (flB l i e bad).1)), .c (.p 2 0 0), .top, .top, .top, .top, .top, .top, .top, .top, .top, .top, .top, .top, .top, .top, .top, .top, .top, .top, .c (.v (.int .i64 (flB l i e bad).1.size)), .c (.v (.int .i64 (0 : Nat))), .top, .top, .top, .top, .top, .top, .top, .top, .top, .top, .top, .top, .top, .top, .top, .top, .top, .top, .top, .top, .top, .top, .top, .top, .top, .top, .top, .top, .top, .top, .top, .top, .top, .top, .top, .top, .top, .top, .top], [some ⟨false, 4, [[.s false 3 (l.map tokC), .v (.int .i64 (flB l i e bad).2.1), .v (.int .i64 e), .v (.int .i64 (flB l i e bad).2.2)]]⟩, some ⟨false, 5, [valC val0]⟩, some ⟨false, 5, [[.v (.int .i64 3), .v (.bool false), .v (.int .i64 0), .v (.int .u64 0), .v (.string ⟨#[]⟩)]]⟩]⟩) ⟨by repeat (first | exact .nil | refine .same ?_ | refine .top ?_), rfl⟩ ⟨0, 0, by omega, by omega, rfl, rfl⟩ ?_
    rintro n A ⟨j, b, hj, rfl, hb, rfl⟩
    have hq1 : (j : Int) + 1 = ((j + 1 : Nat) : Int) := by omega
    have hb0 : (flB l i e bad).1.data.toList.getD j 0 = byU (flB l i e bad).1 j := rfl
    simp only [valC, val0, noText]
    refine seq_run okG1 rfl (by repeat (first | with_reducible exact runf_nil | refine runf_cons (by simp only [xstep, stepf, stepx, qev, St.ev, St.put, qint, qshift, isShift, qbin, List.getElem?_cons_zero, List.getElem?_cons_succ, List.set_cons_zero, List.set_cons_succ, Option.map_some, Option.map_none, if_true, if_false, Option.some.injEq, Bool.false_eq_true]; rfl) ?_)) ?_
    refine seq_in (tri_cond rfl (fun a1 => ?_) (fun a1 => ?_))
    ·
      simp only [decide_eq_true_eq] at a1
      refine then_skip ?_
      refine seq_in (tri_block ?_)
      refine seq_run okG1 rfl (by repeat (first | with_reducible exact runf_nil | refine runf_cons (by simp only [xstep, stepf, stepx, qev, St.ev, St.put, List.getElem?_cons_zero, List.getElem?_cons_succ, List.set_cons_zero, List.set_cons_succ, Option.map_some, decide_true, Option.some.injEq, a1]; rfl) ?_)) ?_
      refine seq_run okG1 rfl (by repeat (first | with_reducible exact runf_nil | refine runf_cons (by simp only [xstep, stepf, stepx, evsA, qev, St.ev, St.put, St.with, D.int, C.cpy, qindex, C.cp, C.dat, List.getElem?_cons_zero, List.getElem?_cons_succ, List.set_cons_zero, List.set_cons_succ, List.append_nil, List.map_nil, Option.bind_some, Option.map_some, if_true, and_self, Option.some.injEq, Bool.and_self, Bool.or_true, callP, argDs, argD, argC, D.ni, D.ni1, C.ni, settle, settle1, settleC, List.isEmpty_nil, FsG1, Int.toNat_natCast, Int.natCast_nonneg, hb0, nib_at, tk9, a1]; rfl) ?_)) ?_
      refine seq_in ?_
      by_cases a2 : (nibF (↑(byU (flB l i e bad).fst j).toNat : Int) < 0)
      ·
        refine seq_run okG1 rfl (by repeat (first | with_reducible exact runf_nil | refine runf_cons (by simp only [xstep, stepf, stepx, qev, St.ev, St.put, qpick, qint, qshift, isEq, qeq, isShift, qbin, qlen, qbuiltin, constD, constC, List.getElem?_cons_zero, List.getElem?_cons_succ, List.set_cons_zero, List.set_cons_succ, Option.bind_some, Option.map_some, Option.map_none, if_true, if_false, decide_true, cond_true, List.getElem?_toArray, Option.some.injEq, reduceCtorEq, Bool.false_eq_true, tk3, eq_true a2]; rfl) ?_)) ?_
        refine tri_cond (b := true) rfl (fun _ => ?_) (fun h => by cases h)
        refine seq_run okG1 rfl (by repeat (first | with_reducible exact runf_nil | refine runf_cons (by simp only [xstep, stepf, stepx, qev, St.ev, St.put, D.cells, qnil, qfieldAddr, liveR, C.st, C.dat, storeA, putCells, List.getElem?_cons_zero, List.getElem?_cons_succ, List.set_cons_zero, List.set_cons_succ, List.length_cons, List.length_nil, List.cons_append, List.nil_append, List.all_cons, List.all_nil, List.take_succ_cons, List.take_zero, List.drop_succ_cons, List.drop_zero, Option.bind_some, Option.map_some, Nat.reduceAdd, if_true, if_false, and_self, Option.some.injEq, ne_eq, not_false_eq_true, reduceCtorEq, Nat.reduceLeDiff, Bool.false_eq_true, implies_true, Nat.zero_add, Bool.and_self, tk80, tsz3]; rfl) ?_)) ?_
        refine seq_run okG1 rfl (by repeat (first | with_reducible exact runf_nil | refine runf_cons (by simp only [xstep, stepf, stepx, evsA, qev, St.ev, St.put, St.with, D.cell, C.dat, List.getElem?_cons_zero, List.getElem?_cons_succ, List.set_cons_zero, List.set_cons_succ, List.length_cons, List.length_nil, List.nil_append, List.append_nil, List.map_nil, List.all_cons, List.all_nil, Option.bind_some, Option.map_some, Bool.and_true, Bool.true_and, Nat.reduceEqDiff, if_true, if_false, and_self, Option.some.injEq, Bool.false_eq_true, Nat.zero_add, beq_self_eq_true, Bool.and_self, Bool.true_or, callP, callO, dedup, rootsD, rootsC, List.flatMap_cons, List.flatMap_nil, List.filterMap_cons, List.filterMap_nil, argDs, argD, argC, List.contains_nil, objsAt, objOf, List.idxOf?, List.findIdx?, List.findIdx?.go, setObjs, D.ni, settle, settleDs, List.isEmpty_nil, FsG1, hF]; rfl) ?_)) ?_
        refine seq_run okG1 rfl (by repeat (first | with_reducible exact runf_nil | refine runf_cons (by simp only [xstep, stepf, stepx, St.ev, St.put, D.cells, C.st, C.dat, storeA, putCells, List.getElem?_cons_zero, List.getElem?_cons_succ, List.set_cons_zero, List.set_cons_succ, List.length_cons, List.length_nil, List.nil_append, List.append_nil, List.all_cons, List.all_nil, List.take_zero, List.drop_succ_cons, List.drop_zero, Option.bind_some, Option.map_some, Nat.reduceAdd, if_true, and_self, Option.some.injEq, ne_eq, not_false_eq_true, reduceCtorEq, Nat.le_refl, Nat.reduceBNe, Bool.false_eq_true, implies_true, Nat.zero_add, Bool.and_self, buildA, partsA, fillA, tz39, tsz3, tk39, tsz4, tsz2, tsz37, tsz9, tsz39]; rfl) ?_)) ?_
        refine tri_ret (ends_ret (by simp only [outRes, resDs, resD, outD, outC, outCs, qload, cellsAt, qmk, C.cpy, TK.agg, C.cp, C.dat, List.getElem?_cons_zero, List.getElem?_cons_succ, List.length_cons, List.length_nil, List.append_nil, List.map_nil, List.map_cons, List.all_cons, List.all_nil, List.take_succ_cons, List.take_zero, List.drop_zero, Option.bind_some, Option.map_some, Nat.reduceAdd, if_true, and_self, Option.some.injEq, Nat.zero_add, Bool.and_self, tk39, tsz39]; rfl) rfl (by simp) (by simp) ?_)
        simp only [List.nil_append]
        (have hn := bits_no (by omega) rfl (by omega) hb; simp only [reduceIte, ↓reduceIte, floatF, valC, val0, noText, a0, hn] at hQ; with_reducible exact hQ)
      ·
        refine seq_run okG1 rfl (by repeat (first | with_reducible exact runf_nil | refine runf_cons (by simp only [xstep, stepf, stepx, qev, St.ev, St.put, qpick, qint, qshift, isShift, qbin, qlen, qbuiltin, constD, constC, List.getElem?_cons_zero, List.getElem?_cons_succ, List.set_cons_zero, List.set_cons_succ, Option.bind_some, Option.map_some, Option.map_none, if_true, if_false, decide_false, cond_false, List.getElem?_toArray, Option.some.injEq, Bool.false_eq_true, tk9, eq_false a2]; rfl) ?_)) ?_
        refine tri_cond rfl (fun a3 => ?_) (fun a3 => ?_)
        ·
          simp only [decide_eq_false_iff_not, Bool.not_eq_true'] at a3
          refine seq_run okG1 rfl (by repeat (first | with_reducible exact runf_nil | refine runf_cons (by simp only [xstep, stepf, stepx, qev, St.ev, St.put, D.cells, qnil, qfieldAddr, liveR, C.st, C.dat, storeA, putCells, List.getElem?_cons_zero, List.getElem?_cons_succ, List.set_cons_zero, List.set_cons_succ, List.length_cons, List.length_nil, List.cons_append, List.nil_append, List.all_cons, List.all_nil, List.take_succ_cons, List.take_zero, List.drop_succ_cons, List.drop_zero, Option.bind_some, Option.map_some, Nat.reduceAdd, if_true, if_false, and_self, decide_false, Bool.not_false, Option.some.injEq, ne_eq, not_false_eq_true, reduceCtorEq, Nat.reduceLeDiff, Bool.false_eq_true, implies_true, Nat.zero_add, Bool.and_self, tk80, tsz3, a3]; rfl) ?_)) ?_
          refine seq_run okG1 rfl (by repeat (first | with_reducible exact runf_nil | refine runf_cons (by simp only [xstep, stepf, stepx, evsA, qev, St.ev, St.put, St.with, D.cell, C.dat, List.getElem?_cons_zero, List.getElem?_cons_succ, List.set_cons_zero, List.set_cons_succ, List.length_cons, List.length_nil, List.nil_append, List.append_nil, List.map_nil, List.all_cons, List.all_nil, Option.bind_some, Option.map_some, Bool.and_true, Bool.true_and, Nat.reduceEqDiff, if_true, if_false, and_self, Option.some.injEq, Bool.false_eq_true, Nat.zero_add, beq_self_eq_true, Bool.and_self, Bool.true_or, callP, callO, dedup, rootsD, rootsC, List.flatMap_cons, List.flatMap_nil, List.filterMap_cons, List.filterMap_nil, argDs, argD, argC, List.contains_nil, objsAt, objOf, List.idxOf?, List.findIdx?, List.findIdx?.go, setObjs, D.ni, settle, settleDs, List.isEmpty_nil, FsG1, hF]; rfl) ?_)) ?_
          refine seq_run okG1 rfl (by repeat (first | with_reducible exact runf_nil | refine runf_cons (by simp only [xstep, stepf, stepx, St.ev, St.put, D.cells, C.st, C.dat, storeA, putCells, List.getElem?_cons_zero, List.getElem?_cons_succ, List.set_cons_zero, List.set_cons_succ, List.length_cons, List.length_nil, List.nil_append, List.append_nil, List.all_cons, List.all_nil, List.take_zero, List.drop_succ_cons, List.drop_zero, Option.bind_some, Option.map_some, Nat.reduceAdd, if_true, and_self, Option.some.injEq, ne_eq, not_false_eq_true, reduceCtorEq, Nat.le_refl, Nat.reduceBNe, Bool.false_eq_true, implies_true, Nat.zero_add, Bool.and_self, buildA, partsA, fillA, tz39, tsz3, tk39, tsz4, tsz2, tsz37, tsz9, tsz39]; rfl) ?_)) ?_
          refine tri_ret (ends_ret (by simp only [outRes, resDs, resD, outD, outC, outCs, qload, cellsAt, qmk, C.cpy, TK.agg, C.cp, C.dat, List.getElem?_cons_zero, List.getElem?_cons_succ, List.length_cons, List.length_nil, List.append_nil, List.map_nil, List.map_cons, List.all_cons, List.all_nil, List.take_succ_cons, List.take_zero, List.drop_zero, Option.bind_some, Option.map_some, Nat.reduceAdd, if_true, and_self, Option.some.injEq, Nat.zero_add, Bool.and_self, tk39, tsz39]; rfl) rfl (by simp) (by simp) ?_)
          simp only [List.nil_append]
          (have hn := bits_no (by omega) rfl (by omega) hb; simp only [reduceIte, ↓reduceIte, floatF, valC, val0, noText, a0, hn] at hQ; with_reducible exact hQ)
        ·
          simp only [decide_eq_true_eq, Bool.not_eq_false'] at a3
          refine then_skip ?_
          refine run_end okG1 rfl (by repeat (first | with_reducible exact runf_nil | refine runf_cons (by simp only [xstep, stepf, stepx, qev, St.ev, St.put, D.cells, qload, cellsAt, qmk, C.cpy, TK.agg, qfieldAddr, qint, qshift, isShift, qbin, qconv, liveR, C.st, C.cp, C.dat, storeA, putCells, constD, constC, List.getElem?_cons_zero, List.getElem?_cons_succ, List.set_cons_zero, List.set_cons_succ, List.length_cons, List.length_nil, List.cons_append, List.nil_append, List.map_nil, List.map_cons, List.all_cons, List.all_nil, List.take_succ_cons, List.take_zero, List.drop_succ_cons, List.drop_zero, Option.bind_some, Option.map_some, Option.map_none, Nat.reduceAdd, if_true, if_false, and_self, decide_true, Bool.not_true, Option.some.injEq, ne_eq, not_false_eq_true, reduceCtorEq, Int.reduceLT, Int.reduceToNat, Nat.reduceLeDiff, Bool.false_eq_true, implies_true, Nat.zero_add, Bool.and_self, tk3, tk39, tsz37, a3, tk37]; rfl) ?_)) ?_
          show Tri _ _ _ _
          refine run_end okG1 rfl (by repeat (first | with_reducible exact runf_nil | refine runf_cons (by simp only [xstep, stepf, stepx, qev, St.ev, St.put, qint, qshift, isShift, qbin, constD, constC, List.getElem?_cons_zero, List.getElem?_cons_succ, List.set_cons_zero, List.set_cons_succ, Option.map_some, Option.map_none, if_true, if_false, Option.some.injEq, Bool.false_eq_true, hq1, show IntKind.i64.wrap (↑(j + 1) : Int) = _ from wrap_i64 _ (by omega) (by omega)]; rfl) ?_)) ?_
          (have h16 : ((flB l i e bad).1.size : Int) = 16 := (by omega); have hn := bits_go (by omega) (by omega) (by omega) hb; exact ⟨(flB l i e bad).1.size - (j + 1), by omega, ⟨[.c (.p 0 0 0), .top, .c (.p 1 0 0), .c (.v (.int .i64 (flA l i e bad).1)), .c (.v (.string (flB l i e bad).1)), .c (.p 2 0 0), .top, .top, .top, .top, .top, .top, .top, .top, .top, .top, .top, .top, .top, .top, .top, .top, .top, .top, .c (.v (.int .i64 16)), .c (.v (.int .i64 (j + 1 : Nat))), .top, .top, .top, .top, .top, .top, .top, .top, .top, .top, .top, .top, .top, .top, .top, .top, .top, .top, .top, .top, .top, .top, .top, .top, .top, .top, .top, .top, .top, .top, .top, .top, .top, .top, .top, .top, .top, .top, .top], [some ⟨false, 4, [[.s false 3 (l.map tokC), .v (.int .i64 (flB l i e bad).2.1), .v (.int .i64 e), .v (.int .i64 (flB l i e bad).2.2)]]⟩, some ⟨false, 5, [valC val0]⟩, some ⟨false, 5, [[.v (.int .i64 3), .v (.bool false), .v (.int .i64 0), .v (.int .u64 (orw b (nibF (byU (flB l i e bad).1 j).toNat))), .v (.string ⟨#[]⟩)]]⟩]⟩, ⟨by repeat (first | exact .nil | refine .same ?_ | refine .top ?_), rfl⟩, j + 1, (orw b (nibF (byU (flB l i e bad).1 j).toNat)), by omega, rfl, hn, (by simp only [h16, valC, val0, noText])⟩)
    ·
      simp only [decide_eq_false_iff_not] at a1
      refine tri_exit ?_
      show Tri _ _ _ _
      refine seq_in ?_
      refine seq_run okG1 rfl (by repeat (first | with_reducible exact runf_nil | refine runf_cons (by simp only [xstep, stepf, stepx, qev, St.ev, St.put, qstr, qbin, constD, constC, List.getElem?_cons_zero, List.getElem?_cons_succ, List.set_cons_zero, List.set_cons_succ, Option.map_some, decide_false, Option.some.injEq, a1]; rfl) ?_)) ?_
      refine tri_cond rfl (fun a4 => ?_) (fun a4 => ?_)
      ·
        refine seq_run okG1 rfl (by repeat (first | with_reducible exact runf_nil | refine runf_cons (by simp only [xstep, stepf, stepx, qev, St.ev, St.put, D.cells, qnil, qfieldAddr, liveR, C.st, C.dat, storeA, putCells, List.getElem?_cons_zero, List.getElem?_cons_succ, List.set_cons_zero, List.set_cons_succ, List.length_cons, List.length_nil, List.cons_append, List.nil_append, List.all_cons, List.all_nil, List.take_succ_cons, List.take_zero, List.drop_succ_cons, List.drop_zero, Option.bind_some, Option.map_some, Nat.reduceAdd, if_true, if_false, and_self, Option.some.injEq, ne_eq, not_false_eq_true, reduceCtorEq, Nat.reduceLeDiff, Bool.false_eq_true, implies_true, Nat.zero_add, Bool.and_self, tk80, tsz3, a4]; rfl) ?_)) ?_
        refine run_end okG1 rfl (by repeat (first | with_reducible exact runf_nil | refine runf_cons (by simp only [xstep, stepf, stepx, evsA, qev, St.ev, St.put, St.with, D.cell, C.dat, List.getElem?_cons_zero, List.getElem?_cons_succ, List.set_cons_zero, List.set_cons_succ, List.length_cons, List.length_nil, List.nil_append, List.append_nil, List.map_nil, List.all_cons, List.all_nil, Option.bind_some, Option.map_some, Bool.and_true, Bool.true_and, Nat.reduceEqDiff, if_true, if_false, and_self, Option.some.injEq, Bool.false_eq_true, Nat.zero_add, beq_self_eq_true, Bool.and_self, Bool.true_or, callP, callO, dedup, rootsD, rootsC, List.flatMap_cons, List.flatMap_nil, List.filterMap_cons, List.filterMap_nil, argDs, argD, argC, List.contains_nil, objsAt, objOf, List.idxOf?, List.findIdx?, List.findIdx?.go, setObjs, D.ni, settle, settleDs, List.isEmpty_nil, FsG1, hF]; rfl) ?_)) ?_
        show Tri _ _ _ _
        refine seq_run okG1 rfl (by repeat (first | with_reducible exact runf_nil | refine runf_cons (by simp only [xstep, stepf, stepx, evsA, qev, St.ev, St.put, St.with, D.cell, C.cpy, C.cp, C.dat, constD, constC, List.getElem?_cons_zero, List.getElem?_cons_succ, List.set_cons_zero, List.set_cons_succ, List.length_cons, List.length_nil, List.nil_append, List.append_nil, List.map_nil, List.all_cons, List.all_nil, Option.bind_some, Option.map_some, Bool.and_true, Bool.true_and, Nat.reduceEqDiff, if_true, if_false, and_self, Option.some.injEq, Bool.false_eq_true, Nat.zero_add, beq_self_eq_true, Bool.and_self, Bool.true_or, callP, callO, dedup, rootsD, rootsC, List.flatMap_cons, List.flatMap_nil, List.filterMap_cons, List.filterMap_nil, argDs, argD, argC, List.contains_nil, objsAt, objOf, List.idxOf?, List.findIdx?, List.findIdx?.go, setObjs, D.ni, settle, settleDs, List.isEmpty_nil, FsG1, hM2']; rfl) ?_)) ?_
        refine seq_run okG1 rfl (by repeat (first | with_reducible exact runf_nil | refine runf_cons (by simp only [xstep, stepf, stepx, qev, St.ev, St.put, D.cells, qload, cellsAt, qmk, C.cpy, TK.agg, C.st, C.cp, C.dat, storeA, putCells, List.getElem?_cons_zero, List.getElem?_cons_succ, List.set_cons_zero, List.set_cons_succ, List.length_cons, List.length_nil, List.nil_append, List.append_nil, List.map_nil, List.map_cons, List.all_cons, List.all_nil, List.take_succ_cons, List.take_zero, List.drop_succ_cons, List.drop_zero, Option.bind_some, Option.map_some, Nat.reduceAdd, if_true, and_self, Option.some.injEq, ne_eq, not_false_eq_true, reduceCtorEq, Nat.le_refl, Bool.false_eq_true, implies_true, Nat.zero_add, Bool.and_self, tk39, tsz39]; rfl) ?_)) ?_
        refine tri_ret (ends_ret (by simp only [outRes, resDs, resD, outD, outC, outCs, qload, cellsAt, qmk, C.cpy, TK.agg, C.cp, C.dat, List.getElem?_cons_zero, List.getElem?_cons_succ, List.length_cons, List.length_nil, List.append_nil, List.map_nil, List.map_cons, List.all_cons, List.all_nil, List.take_succ_cons, List.take_zero, List.drop_zero, Option.bind_some, Option.map_some, Nat.reduceAdd, if_true, and_self, Option.some.injEq, Nat.zero_add, Bool.and_self, tk39, tsz39]; rfl) rfl (by simp) (by simp) ?_)
        simp only [List.nil_append]
        (have hn : bitsN (flB l i e bad).1.size (flB l i e bad).1.data.toList 0 = some b := (by rw [← hb, List.drop_of_length_le (by simp; omega)]; rfl); simp only [reduceIte, ↓reduceIte, floatF, valC, noText, a0, a4, hn] at hQ; with_reducible exact hQ)
      ·
        refine then_skip ?_
        refine seq_run okG1 rfl (by repeat (first | with_reducible exact runf_nil | refine runf_cons (by simp only [xstep, stepf, stepx, evsA, qev, St.ev, St.put, St.with, D.cell, C.cpy, C.cp, C.dat, constD, constC, List.getElem?_cons_zero, List.getElem?_cons_succ, List.set_cons_zero, List.set_cons_succ, List.length_cons, List.length_nil, List.nil_append, List.append_nil, List.map_nil, List.all_cons, List.all_nil, Option.bind_some, Option.map_some, Bool.and_true, Bool.true_and, Nat.reduceEqDiff, if_true, if_false, and_self, Option.some.injEq, Bool.false_eq_true, Nat.zero_add, beq_self_eq_true, Bool.and_self, Bool.true_or, callP, callO, dedup, rootsD, rootsC, List.flatMap_cons, List.flatMap_nil, List.filterMap_cons, List.filterMap_nil, argDs, argD, argC, List.contains_nil, objsAt, objOf, List.idxOf?, List.findIdx?, List.findIdx?.go, setObjs, D.ni, settle, settleDs, List.isEmpty_nil, FsG1, hM3', a4]; rfl) ?_)) ?_
        refine seq_run okG1 rfl (by repeat (first | with_reducible exact runf_nil | refine runf_cons (by simp only [xstep, stepf, stepx, qev, St.ev, St.put, D.cells, qload, cellsAt, qmk, C.cpy, TK.agg, C.st, C.cp, C.dat, storeA, putCells, List.getElem?_cons_zero, List.getElem?_cons_succ, List.set_cons_zero, List.set_cons_succ, List.length_cons, List.length_nil, List.nil_append, List.append_nil, List.map_nil, List.map_cons, List.all_cons, List.all_nil, List.take_succ_cons, List.take_zero, List.drop_succ_cons, List.drop_zero, Option.bind_some, Option.map_some, Nat.reduceAdd, if_true, and_self, Option.some.injEq, ne_eq, not_false_eq_true, reduceCtorEq, Nat.le_refl, Bool.false_eq_true, implies_true, Nat.zero_add, Bool.and_self, tk39, tsz39]; rfl) ?_)) ?_
        refine tri_ret (ends_ret (by simp only [outRes, resDs, resD, outD, outC, outCs, qload, cellsAt, qmk, C.cpy, TK.agg, C.cp, C.dat, List.getElem?_cons_zero, List.getElem?_cons_succ, List.length_cons, List.length_nil, List.append_nil, List.map_nil, List.map_cons, List.all_cons, List.all_nil, List.take_succ_cons, List.take_zero, List.drop_zero, Option.bind_some, Option.map_some, Nat.reduceAdd, if_true, and_self, Option.some.injEq, Nat.zero_add, Bool.and_self, tk39, tsz39]; rfl) rfl (by simp) (by simp) ?_)
        simp only [List.nil_append]
        (have hn : bitsN (flB l i e bad).1.size (flB l i e bad).1.data.toList 0 = some b := (by rw [← hb, List.drop_of_length_le (by simp; omega)]; rfl); simp only [reduceIte, Bool.false_eq_true, ↓reduceIte, floatF, valC, noText, a0, a4, hn] at hQ; with_reducible exact hQ)
end Go.Dl
