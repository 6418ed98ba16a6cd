/- The walks of float, word, value; The walks of word, value. -/
import Derived.Test.YtbefgbljlmnfoaaE11
namespace Go.Dl
open Go.RowKit
open Go.Proofs
set_option linter.unusedSimpArgs false
set_option linter.unusedVariables false

abbrev Val := Int × Bool × Int × Int × ByteArray
def valC (v : Val) : List C := [.v (.int .i64 v.1), .v (.bool v.2.1), .v (.int .i64 v.2.2.1), .v (.int .u64 v.2.2.2.1), .v (.string v.2.2.2.2)]
def val0 : Val := (0, false, 0, 0, noText)
def lpar : ByteArray := ⟨#[40]⟩
def rpar : ByteArray := ⟨#[41]⟩
def orw (b d : Int) : Int := IntKind.u64.wrap ((BitVec.ofInt IntKind.u64.bits (IntKind.u64.wrap (b * 2 ^ min 4 IntKind.u64.bits)) ||| BitVec.ofInt IntKind.u64.bits (IntKind.u64.wrap d)).toNat)
/-- The bits that signs are. -/
def bitsN (n : Nat) : List UInt8 → Int → Option Int
  | [], b => some b
  | c :: cs, b => if nibF c.toNat < 0 then none else if (n : Int) = 16 then bitsN n cs (orw b (nibF c.toNat)) else none
def flA (l : List Tok) (i : Nat) (e bad : Int) : Nat × Int := markF l i e bad lpar
def flB (l : List Tok) (i : Nat) (e bad : Int) : ByteArray × Nat × Int := takeF l (flA l i e bad).1 e (flA l i e bad).2 2
def floatF (l : List Tok) (i : Nat) (e bad : Int) : Val × Nat × Int :=
  if 0 ≤ (flB l i e bad).2.2 then (val0, (flB l i e bad).2.1, (flB l i e bad).2.2)
  else match bitsN (flB l i e bad).1.size (flB l i e bad).1.data.toList 0 with
    | none => (val0, (flA l i e bad).1, failF l (flA l i e bad).1 e (flB l i e bad).2.2)
    | some b => if strEq (flB l i e bad).1 noText = true then ((3, false, 0, b, noText), markF l (flA l i e bad).1 e (failF l (flA l i e bad).1 e (flB l i e bad).2.2) rpar)
      else ((3, false, 0, b, noText), markF l (flB l i e bad).2.1 e (flB l i e bad).2.2 rpar)

theorem bits_drop {s : ByteArray} {j : Nat} (h : j < s.size) : s.data.toList.drop j = s.data.toList.getD j 0 :: s.data.toList.drop (j + 1) := by
  have h' : j < s.data.toList.length := by simpa using h
  rw [List.drop_eq_getElem_cons h']
  congr 1
  simp [List.getD, List.getElem?_eq_getElem h']
theorem bits_no {s : ByteArray} {j : Nat} {b r : Int} {z : Option Int} (h : j < s.size) (hr : nibF (byU s j).toNat = r) (hn : r < 0 ∨ ¬ (s.size : Int) = 16) (hz : bitsN s.size (s.data.toList.drop j) b = z) : z = none := by
  rw [bits_drop h] at hz
  subst hz
  show (if nibF (byU s j).toNat < 0 then _ else _) = none
  rw [hr]
  rcases hn with hn | hn
  · rw [if_pos hn]
  · rw [if_neg hn]; split <;> rfl
theorem bits_go {s : ByteArray} {j : Nat} {b : Int} {z : Option Int} (h : j < s.size) (hr : ¬ nibF (byU s j).toNat < 0) (hn : (s.size : Int) = 16) (hz : bitsN s.size (s.data.toList.drop j) b = z) : bitsN s.size (s.data.toList.drop (j + 1)) (orw b (nibF (byU s j).toNat)) = z := by
  rw [bits_drop h] at hz
  rw [← hz]
  show _ = (if nibF (byU s j).toNat < 0 then _ else _)
  rw [if_neg hr, if_pos hn]; rfl

theorem nib_at (x : UInt8) : pNib [.c (.v (.int .u8 x.toNat))] = some (.c (.v (.int .i64 (nibF x.toNat)))) :=
  famP_at (by
    intro a b h
    simp only [List.cons.injEq, D.c.injEq, C.v.injEq, Value.int.injEq, and_true, true_and] at h
    have : a = b := by apply UInt8.toNat_inj.1; omega
    subst this; rfl) x trivial rfl

noncomputable def FsG1 : Fs := { pure := fun k => if k = 84 then some pNib else none, objs := fun k => if k = 62 then some oFail else if k = 68 then some oTakeP else if k = 70 then some oMark else none }
theorem okG1 : FsOK Try.prog FsG1 := by
  refine ⟨fun k f h => ?_, fun k f h => ?_⟩
  · simp only [FsG1] at h
    split at h
    · rename_i hk; subst hk; cases h; exact ⟨by kernel_rfl, meets84⟩
    · cases h
  · simp only [FsG1] at h
    split at h
    · rename_i hk; subst hk; cases h; exact ⟨by kernel_rfl, meets62⟩
    split at h
    · rename_i hk; subst hk; cases h; exact ⟨by kernel_rfl, meets68⟩
    split at h
    · rename_i hk; subst hk; cases h; exact ⟨by kernel_rfl, meets70⟩
    · cases h

noncomputable def oFloat := famO (fun x : List Tok × Nat × Int × Int => paPre x.1 x.2.1) (fun x => ([.c (.p 0 0 0)], [paObj x.1 x.2.1 x.2.2.1 x.2.2.2]))
  (fun x => (.agg (valC (floatF x.1 x.2.1 x.2.2.1 x.2.2.2).1), [paObj x.1 (floatF x.1 x.2.1 x.2.2.1 x.2.2.2).2.1 x.2.2.1 (floatF x.1 x.2.1 x.2.2.1 x.2.2.2).2.2]))
theorem meets77 : Meets Try.prog 77 (detS oFloat) := by
  refine meets_famO (show Try.prog.funcs[77]? = some Try.f77 by kernel_rfl) rfl (n := 65) rfl (rs := [ResultVar.cell 2 39]) rfl ?_
  rintro ⟨l, i, e, bad⟩ ⟨hl, hi, hsz⟩ Q hQ
  dsimp only at hl hi hsz hQ
  simp only [paObj] at hQ
  have hM := mark_at hl i e bad lpar hi
  have hM' : oMark [.c (.p 0 0 0), .c (.v (.string ⟨#[40]⟩))] _ = _ := hM
  have hA : (flA l i e bad).1 ≤ l.length := markF_le hi
  have hT := take_at hl (flA l i e bad).1 e (flA l i e bad).2 2 hA
  have hB : (flB l i e bad).2.1 ≤ l.length := takeF_le hA
  have hBs : (flB l i e bad).1.size ≤ 1000000 := takeF_size hsz
  have hF := fail_at hl (flA l i e bad).1 e (flB l i e bad).2.2 hA
  have hM2 := mark_at hl (flA l i e bad).1 e (failF l (flA l i e bad).1 e (flB l i e bad).2.2) rpar hA
  have hM3 := mark_at hl (flB l i e bad).2.1 e (flB l i e bad).2.2 rpar hB
  have hM2' : oMark [.c (.p 0 0 0), .c (.v (.string ⟨#[41]⟩))] _ = _ := hM2
  have hM3' : oMark [.c (.p 0 0 0), .c (.v (.string ⟨#[41]⟩))] _ = _ := hM3
  change oMark _ _ = some (.t [], [⟨4, [[.s false 3 (l.map tokC), .v (.int .i64 (flA l i e bad).1), .v (.int .i64 e), .v (.int .i64 (flA l i e bad).2)]]⟩]) at hM'
  change oTakeP _ _ = some (.c (.v (.string (flB l i e bad).1)), [⟨4, [[.s false 3 (l.map tokC), .v (.int .i64 (flB l i e bad).2.1), .v (.int .i64 e), .v (.int .i64 (flB l i e bad).2.2)]]⟩]) at hT
  refine seq_run okG1 rfl (by repeat (first | with_reducible exact runf_nil | refine runf_cons (by simp only [xstep, stepf, stepx, St.put, St.with, boxA, C.st, Z5, Z6, List.replicate, Z9, Z10, Z23, Z12, Z13, Z24, Z16, Z18, Z8, Z4, Nat.reduceAdd, Nat.reduceSub, if_true, Z3, Z14, Z26, paObj, tz39]; rfl) ?_)) ?_
  refine seq_run okG1 rfl (by repeat (first | with_reducible exact runf_nil | refine runf_cons (by simp only [xstep, stepf, stepx, evsA, qev, St.ev, St.put, St.with, D.cell, C.cpy, C.cp, C.dat, constD, constC, Z1, Z2, Z5, Z6, Z9, Z10, Z12, Z15, Z13, Z16, Z18, Z8, Z4, Bool.and_true, Bool.true_and, Nat.reduceEqDiff, if_true, if_false, and_self, Z3, Z7, Z14, beq_self_eq_true, Z26, Bool.true_or, callP, callO, dedup, rootsD, rootsC, List.flatMap_cons, List.flatMap_nil, List.filterMap_cons, List.filterMap_nil, argDs, argD, argC, List.contains_nil, objsAt, objOf, List.idxOf?, List.findIdx?, List.findIdx?.go, setObjs, D.ni, settle, settleDs, Z25, FsG1, hM']; rfl) ?_)) ?_
  refine seq_run okG1 rfl (by repeat (first | with_reducible exact runf_nil | refine runf_cons (by simp only [xstep, stepf, stepx, qev, St.ev, St.put, qload, cellsAt, qmk, C.cpy, TK.agg, qnil, qfieldAddr, liveR, C.cp, Z1, Z2, Z5, Z6, Z9, Z10, Z13, Z24, Z16, Z18, Z17, Z20, Z19, Z21, Z8, Z4, if_true, if_false, and_self, Z3, reduceCtorEq, Z7, Z14, Z26, tk80, tsz3, tk3]; rfl) ?_)) ?_
  refine seq_run okG1 rfl (by repeat (first | with_reducible exact runf_nil | refine runf_cons (by simp only [xstep, stepf, stepx, evsA, qev, St.ev, St.put, St.with, D.cell, C.cpy, C.cp, C.dat, constD, constC, Z1, Z2, Z5, Z6, Z9, Z10, Z12, Z15, Z13, Z16, Z18, Z8, Z4, Bool.and_true, Bool.true_and, Nat.reduceEqDiff, if_true, if_false, and_self, Z3, Z7, Z14, beq_self_eq_true, Z26, Bool.true_or, callP, callO, dedup, rootsD, rootsC, List.flatMap_cons, List.flatMap_nil, List.filterMap_cons, List.filterMap_nil, argDs, argD, argC, List.contains_nil, objsAt, objOf, List.idxOf?, List.findIdx?, List.findIdx?.go, setObjs, D.ni, D.ni1, C.ni, settle, settle1, settleC, Z25, FsG1, hT]; rfl) ?_)) ?_
  refine seq_in ?_
  refine seq_run okG1 rfl (by repeat (first | with_reducible exact runf_nil | refine runf_cons (by simp only [xstep, stepf, stepx, qev, St.ev, St.put, qload, cellsAt, qmk, C.cpy, TK.agg, qnil, qfieldAddr, qint, qshift, isShift, qbin, liveR, C.cp, constD, constC, Z1, Z2, Z5, Z6, Z9, Z10, Z13, Z24, Z16, Z18, Z17, Z20, Z19, Z21, Z8, Z4, Z11, if_true, if_false, and_self, Z3, reduceCtorEq, Z7, Z14, Z26, tk80, tsz3, tk3]; rfl) ?_)) ?_
  refine tri_cond rfl (fun a0 => ?_) (fun a0 => ?_)
  ·
    simp only [decide_eq_true_eq] at a0
    refine seq_run okG1 rfl (by repeat (first | with_reducible exact runf_nil | refine runf_cons (by simp only [xstep, stepf, stepx, St.ev, St.put, D.cells, C.st, C.dat, storeA, putCells, Z1, Z2, Z5, Z6, Z9, Z10, Z12, Z15, Z16, Z18, Z20, Z19, Z21, Z8, Z4, Nat.reduceAdd, if_true, and_self, decide_true, Z3, ne_eq, not_false_eq_true, reduceCtorEq, Nat.le_refl, Nat.reduceBNe, Z7, implies_true, Z14, Z26, buildA, partsA, fillA, tz39, tsz3, a0, tk39, tsz4, tsz2, tsz37, tsz9, tsz39]; rfl) ?_)) ?_
    refine tri_ret (ends_ret (by simp only [outRes, resDs, resD, outD, outC, outCs, qload, cellsAt, qmk, C.cpy, TK.agg, C.cp, C.dat, Z1, Z2, Z9, Z10, Z15, Z13, Z24, Z16, Z18, Z17, Z20, Z21, Z8, Z4, Nat.reduceAdd, if_true, and_self, Z3, Z14, Z26, tk39, tsz39]; rfl) rfl (by simp) (by simp) ?_)
    simp only [Z12]
    (simp only [reduceIte, ↓reduceIte, floatF, valC, val0, noText, a0] at hQ; with_reducible exact hQ)
  ·
    simp only [decide_eq_false_iff_not] at a0
    refine then_skip ?_
    refine seq_run okG1 rfl (by repeat (first | with_reducible exact runf_nil | refine runf_cons (by simp only [xstep, stepf, stepx, St.ev, St.put, St.with, D.cells, boxA, C.st, C.dat, storeA, putCells, constD, constC, Z1, Z2, Z5, Z6, Z9, Z10, Z23, Z12, Z15, Z16, Z18, Z20, Z19, Z21, Z8, Z4, Nat.reduceAdd, if_true, and_self, decide_false, Z3, ne_eq, not_false_eq_true, reduceCtorEq, Nat.reduceLeDiff, Nat.le_refl, Nat.reduceBNe, Z7, implies_true, Z14, Z26, buildA, partsA, fillA, placeSt, tz39, tsz3, a0, tk39, tsz4, tsz2, tsz37, tsz9, tsz39]; rfl) ?_)) ?_
    refine seq_in ?_
    refine seq_run okG1 rfl (by repeat (first | with_reducible exact runf_nil | refine runf_cons (by simp only [xstep, stepf, stepx, qev, St.ev, St.put, qlen, qbuiltin, constD, constC, Z1, Z2, Z5, Z6, Z8, Z4, Z3, tk9]; rfl) ?_)) ?_
    refine tri_block ?_
    refine tri_loop_le (fun n A => ∃ (j : Nat) (b : Int), j ≤ (flB l i e bad).1.size ∧ n = (flB l i e bad).1.size - j ∧ bitsN (flB l i e bad).1.size ((flB l i e bad).1.data.toList.drop j) b = bitsN (flB l i e bad).1.size (flB l i e bad).1.data.toList 0 ∧ A = ⟨[.c (.p 0 0 0), .top, .c (.p 1 0 0), .c (.v (.int .i64 (flA l i e bad).1)), .c (.v (.string (flB l i e bad).1)), .c (.p 2 0 0), .top, .top, .top, .top, .top, .top, .top, .top, .top, .top, .top, .top, .top, .top, .top, .top, .top, .top, .c (.v (.int .i64 (flB l i e bad).1.size)), .c (.v (.int .i64 (j : Nat))), .top, .top, .top, .top, .top, .top, .top, .top, .top, .top, .top, .top, .top, .top, .top, .top, .top, .top, .top, .top, .top, .top, .top, .top, .top, .top, .top, .top, .top, .top, .top, .top, .top, .top, .top, .top, .top, .top, .top], [some ⟨false, 4, [[.s false 3 (l.map tokC), .v (.int .i64 (flB l i e bad).2.1), .v (.int .i64 e), .v (.int .i64 (flB l i e bad).2.2)]]⟩, some ⟨false, 5, [valC val0]⟩, some ⟨false, 5, [[.v (.int .i64 3), .v (.bool false), .v (.int .i64 0), .v (.int .u64 b), .v (.string ⟨#[]⟩)]]⟩]⟩) (flB l i e bad).1.size (B := ⟨[.c (.p 0 0 0), .top, .c (.p 1 0 0), .c (.v (.int .i64 (flA l i e bad).1)), .c (.v (.string (flB l i e bad).1)), .c (.p 2 0 0), .top, .top, .top, .top, .top, .top, .top, .top, .top, .top, .top, .top, .top, .top, .top, .top, .top, .top, .c (.v (.int .i64 (flB l i e bad).1.size)), .c (.v (.int .i64 (0 : Nat))), .top, .top, .top, .top, .top, .top, .top, .top, .top, .top, .top, .top, .top, .top, .top, .top, .top, .top, .top, .top, .top, .top, .top, .top, .top, .top, .top, .top, .top, .top, .top, .top, .top, .top, .top, .top, .top, .top, .top], [some ⟨false, 4, [[.s false 3 (l.map tokC), .v (.int .i64 (flB l i e bad).2.1), .v (.int .i64 e), .v (.int .i64 (flB l i e bad).2.2)]]⟩, some ⟨false, 5, [valC val0]⟩, some ⟨false, 5, [[.v (.int .i64 3), .v (.bool false), .v (.int .i64 0), .v (.int .u64 0), .v (.string ⟨#[]⟩)]]⟩]⟩) ⟨by repeat (first | exact .nil | refine .same ?_ | refine .top ?_), rfl⟩ ⟨0, 0, by omega, by omega, rfl, rfl⟩ ?_
    rintro n A ⟨j, b, hj, rfl, hb, rfl⟩
    have hq1 : (j : Int) + 1 = ((j + 1 : Nat) : Int) := by omega
    have hb0 : (flB l i e bad).1.data.toList.getD j 0 = byU (flB l i e bad).1 j := rfl
    simp only [valC, val0, noText]
    refine seq_run okG1 rfl (by repeat (first | with_reducible exact runf_nil | refine runf_cons (by simp only [xstep, stepf, stepx, qev, St.ev, St.put, qint, qshift, isShift, qbin, Z1, Z2, Z5, Z6, Z4, Z11, if_true, if_false, Z3, Z7]; rfl) ?_)) ?_
    refine seq_in (tri_cond rfl (fun a1 => ?_) (fun a1 => ?_))
    ·
      simp only [decide_eq_true_eq] at a1
      refine then_skip ?_
      refine seq_in (tri_block ?_)
      refine seq_run okG1 rfl (by repeat (first | with_reducible exact runf_nil | refine runf_cons (by simp only [xstep, stepf, stepx, qev, St.ev, St.put, Z1, Z2, Z5, Z6, Z4, decide_true, Z3, a1]; rfl) ?_)) ?_
      refine seq_run okG1 rfl (by repeat (first | with_reducible exact runf_nil | refine runf_cons (by simp only [xstep, stepf, stepx, evsA, qev, St.ev, St.put, St.with, D.int, C.cpy, qindex, C.cp, C.dat, Z1, Z2, Z5, Z6, Z15, Z13, Z8, Z4, if_true, and_self, Z3, Z26, Bool.or_true, callP, argDs, argD, argC, D.ni, D.ni1, C.ni, settle, settle1, settleC, Z25, FsG1, Int.toNat_natCast, Int.natCast_nonneg, hb0, nib_at, tk9, a1]; rfl) ?_)) ?_
      refine seq_in ?_
      by_cases a2 : (nibF (↑(byU (flB l i e bad).fst j).toNat : Int) < 0)
      ·
        refine seq_run okG1 rfl (by repeat (first | with_reducible exact runf_nil | refine runf_cons (by simp only [xstep, stepf, stepx, qev, St.ev, St.put, qpick, qint, qshift, isEq, qeq, isShift, qbin, qlen, qbuiltin, constD, constC, Z1, Z2, Z5, Z6, Z8, Z4, Z11, if_true, if_false, decide_true, cond_true, Z22, Z3, reduceCtorEq, Z7, tk3, eq_true a2]; rfl) ?_)) ?_
        refine tri_cond (b := true) rfl (fun _ => ?_) (fun h => by cases h)
        refine seq_run okG1 rfl (by repeat (first | with_reducible exact runf_nil | refine runf_cons (by simp only [xstep, stepf, stepx, qev, St.ev, St.put, D.cells, qnil, qfieldAddr, liveR, C.st, C.dat, storeA, putCells, Z1, Z2, Z5, Z6, Z9, Z10, Z23, Z12, Z16, Z18, Z17, Z20, Z19, Z21, Z8, Z4, Nat.reduceAdd, if_true, if_false, and_self, Z3, ne_eq, not_false_eq_true, reduceCtorEq, Nat.reduceLeDiff, Z7, implies_true, Z14, Z26, tk80, tsz3]; rfl) ?_)) ?_
        refine seq_run okG1 rfl (by repeat (first | with_reducible exact runf_nil | refine runf_cons (by simp only [xstep, stepf, stepx, evsA, qev, St.ev, St.put, St.with, D.cell, C.dat, Z1, Z2, Z5, Z6, Z9, Z10, Z12, Z15, Z13, Z16, Z18, Z8, Z4, Bool.and_true, Bool.true_and, Nat.reduceEqDiff, if_true, if_false, and_self, Z3, Z7, Z14, beq_self_eq_true, Z26, Bool.true_or, callP, callO, dedup, rootsD, rootsC, List.flatMap_cons, List.flatMap_nil, List.filterMap_cons, List.filterMap_nil, argDs, argD, argC, List.contains_nil, objsAt, objOf, List.idxOf?, List.findIdx?, List.findIdx?.go, setObjs, D.ni, settle, settleDs, Z25, FsG1, hF]; rfl) ?_)) ?_
        refine seq_run okG1 rfl (by repeat (first | with_reducible exact runf_nil | refine runf_cons (by simp only [xstep, stepf, stepx, St.ev, St.put, D.cells, C.st, C.dat, storeA, putCells, Z1, Z2, Z5, Z6, Z9, Z10, Z12, Z15, Z16, Z18, Z20, Z19, Z21, Z8, Z4, Nat.reduceAdd, if_true, and_self, Z3, ne_eq, not_false_eq_true, reduceCtorEq, Nat.le_refl, Nat.reduceBNe, Z7, implies_true, Z14, Z26, buildA, partsA, fillA, tz39, tsz3, tk39, tsz4, tsz2, tsz37, tsz9, tsz39]; rfl) ?_)) ?_
        refine tri_ret (ends_ret (by simp only [outRes, resDs, resD, outD, outC, outCs, qload, cellsAt, qmk, C.cpy, TK.agg, C.cp, C.dat, Z1, Z2, Z9, Z10, Z15, Z13, Z24, Z16, Z18, Z17, Z20, Z21, Z8, Z4, Nat.reduceAdd, if_true, and_self, Z3, Z14, Z26, tk39, tsz39]; rfl) rfl (by simp) (by simp) ?_)
        simp only [Z12]
        (have hn := bits_no (by omega) rfl (by omega) hb; simp only [reduceIte, ↓reduceIte, floatF, valC, val0, noText, a0, hn] at hQ; with_reducible exact hQ)
      ·
        refine seq_run okG1 rfl (by repeat (first | with_reducible exact runf_nil | refine runf_cons (by simp only [xstep, stepf, stepx, qev, St.ev, St.put, qpick, qint, qshift, isShift, qbin, qlen, qbuiltin, constD, constC, Z1, Z2, Z5, Z6, Z8, Z4, Z11, if_true, if_false, decide_false, cond_false, Z22, Z3, Z7, tk9, eq_false a2]; rfl) ?_)) ?_
        refine tri_cond rfl (fun a3 => ?_) (fun a3 => ?_)
        ·
          simp only [decide_eq_false_iff_not, Bool.not_eq_true'] at a3
          refine seq_run okG1 rfl (by repeat (first | with_reducible exact runf_nil | refine runf_cons (by simp only [xstep, stepf, stepx, qev, St.ev, St.put, D.cells, qnil, qfieldAddr, liveR, C.st, C.dat, storeA, putCells, Z1, Z2, Z5, Z6, Z9, Z10, Z23, Z12, Z16, Z18, Z17, Z20, Z19, Z21, Z8, Z4, Nat.reduceAdd, if_true, if_false, and_self, decide_false, Bool.not_false, Z3, ne_eq, not_false_eq_true, reduceCtorEq, Nat.reduceLeDiff, Z7, implies_true, Z14, Z26, tk80, tsz3, a3]; rfl) ?_)) ?_
          refine seq_run okG1 rfl (by repeat (first | with_reducible exact runf_nil | refine runf_cons (by simp only [xstep, stepf, stepx, evsA, qev, St.ev, St.put, St.with, D.cell, C.dat, Z1, Z2, Z5, Z6, Z9, Z10, Z12, Z15, Z13, Z16, Z18, Z8, Z4, Bool.and_true, Bool.true_and, Nat.reduceEqDiff, if_true, if_false, and_self, Z3, Z7, Z14, beq_self_eq_true, Z26, Bool.true_or, callP, callO, dedup, rootsD, rootsC, List.flatMap_cons, List.flatMap_nil, List.filterMap_cons, List.filterMap_nil, argDs, argD, argC, List.contains_nil, objsAt, objOf, List.idxOf?, List.findIdx?, List.findIdx?.go, setObjs, D.ni, settle, settleDs, Z25, FsG1, hF]; rfl) ?_)) ?_
          refine seq_run okG1 rfl (by repeat (first | with_reducible exact runf_nil | refine runf_cons (by simp only [xstep, stepf, stepx, St.ev, St.put, D.cells, C.st, C.dat, storeA, putCells, Z1, Z2, Z5, Z6, Z9, Z10, Z12, Z15, Z16, Z18, Z20, Z19, Z21, Z8, Z4, Nat.reduceAdd, if_true, and_self, Z3, ne_eq, not_false_eq_true, reduceCtorEq, Nat.le_refl, Nat.reduceBNe, Z7, implies_true, Z14, Z26, buildA, partsA, fillA, tz39, tsz3, tk39, tsz4, tsz2, tsz37, tsz9, tsz39]; rfl) ?_)) ?_
          refine tri_ret (ends_ret (by simp only [outRes, resDs, resD, outD, outC, outCs, qload, cellsAt, qmk, C.cpy, TK.agg, C.cp, C.dat, Z1, Z2, Z9, Z10, Z15, Z13, Z24, Z16, Z18, Z17, Z20, Z21, Z8, Z4, Nat.reduceAdd, if_true, and_self, Z3, Z14, Z26, tk39, tsz39]; rfl) rfl (by simp) (by simp) ?_)
          simp only [Z12]
          (have hn := bits_no (by omega) rfl (by omega) hb; simp only [reduceIte, ↓reduceIte, floatF, valC, val0, noText, a0, hn] at hQ; with_reducible exact hQ)
        ·
          simp only [decide_eq_true_eq, Bool.not_eq_false'] at a3
          refine then_skip ?_
          refine run_end okG1 rfl (by repeat (first | with_reducible exact runf_nil | refine runf_cons (by simp only [xstep, stepf, stepx, qev, St.ev, St.put, D.cells, qload, cellsAt, qmk, C.cpy, TK.agg, qfieldAddr, qint, qshift, isShift, qbin, qconv, liveR, C.st, C.cp, C.dat, storeA, putCells, constD, constC, Z1, Z2, Z5, Z6, Z9, Z10, Z23, Z12, Z13, Z24, Z16, Z18, Z17, Z20, Z19, Z21, Z8, Z4, Z11, Nat.reduceAdd, if_true, if_false, and_self, decide_true, Bool.not_true, Z3, ne_eq, not_false_eq_true, reduceCtorEq, Int.reduceLT, Int.reduceToNat, Nat.reduceLeDiff, Z7, implies_true, Z14, Z26, tk3, tk39, tsz37, a3, tk37]; rfl) ?_)) ?_
          show Tri _ _ _ _
          refine run_end okG1 rfl (by repeat (first | with_reducible exact runf_nil | refine runf_cons (by simp only [xstep, stepf, stepx, qev, St.ev, St.put, qint, qshift, isShift, qbin, constD, constC, Z1, Z2, Z5, Z6, Z4, Z11, if_true, if_false, Z3, Z7, hq1, show IntKind.i64.wrap (↑(j + 1) : Int) = _ from wrap_i64 _ (by omega) (by omega)]; rfl) ?_)) ?_
          (have h16 : ((flB l i e bad).1.size : Int) = 16 := (by omega); have hn := bits_go (by omega) (by omega) (by omega) hb; exact ⟨(flB l i e bad).1.size - (j + 1), by omega, ⟨[.c (.p 0 0 0), .top, .c (.p 1 0 0), .c (.v (.int .i64 (flA l i e bad).1)), .c (.v (.string (flB l i e bad).1)), .c (.p 2 0 0), .top, .top, .top, .top, .top, .top, .top, .top, .top, .top, .top, .top, .top, .top, .top, .top, .top, .top, .c (.v (.int .i64 16)), .c (.v (.int .i64 (j + 1 : Nat))), .top, .top, .top, .top, .top, .top, .top, .top, .top, .top, .top, .top, .top, .top, .top, .top, .top, .top, .top, .top, .top, .top, .top, .top, .top, .top, .top, .top, .top, .top, .top, .top, .top, .top, .top, .top, .top, .top, .top], [some ⟨false, 4, [[.s false 3 (l.map tokC), .v (.int .i64 (flB l i e bad).2.1), .v (.int .i64 e), .v (.int .i64 (flB l i e bad).2.2)]]⟩, some ⟨false, 5, [valC val0]⟩, some ⟨false, 5, [[.v (.int .i64 3), .v (.bool false), .v (.int .i64 0), .v (.int .u64 (orw b (nibF (byU (flB l i e bad).1 j).toNat))), .v (.string ⟨#[]⟩)]]⟩]⟩, ⟨by repeat (first | exact .nil | refine .same ?_ | refine .top ?_), rfl⟩, j + 1, (orw b (nibF (byU (flB l i e bad).1 j).toNat)), by omega, rfl, hn, (by simp only [h16, valC, val0, noText])⟩)
    ·
      simp only [decide_eq_false_iff_not] at a1
      refine tri_exit ?_
      show Tri _ _ _ _
      refine seq_in ?_
      refine seq_run okG1 rfl (by repeat (first | with_reducible exact runf_nil | refine runf_cons (by simp only [xstep, stepf, stepx, qev, St.ev, St.put, qstr, qbin, constD, constC, Z1, Z2, Z5, Z6, Z4, decide_false, Z3, a1]; rfl) ?_)) ?_
      refine tri_cond rfl (fun a4 => ?_) (fun a4 => ?_)
      ·
        refine seq_run okG1 rfl (by repeat (first | with_reducible exact runf_nil | refine runf_cons (by simp only [xstep, stepf, stepx, qev, St.ev, St.put, D.cells, qnil, qfieldAddr, liveR, C.st, C.dat, storeA, putCells, Z1, Z2, Z5, Z6, Z9, Z10, Z23, Z12, Z16, Z18, Z17, Z20, Z19, Z21, Z8, Z4, Nat.reduceAdd, if_true, if_false, and_self, Z3, ne_eq, not_false_eq_true, reduceCtorEq, Nat.reduceLeDiff, Z7, implies_true, Z14, Z26, tk80, tsz3, a4]; rfl) ?_)) ?_
        refine run_end okG1 rfl (by repeat (first | with_reducible exact runf_nil | refine runf_cons (by simp only [xstep, stepf, stepx, evsA, qev, St.ev, St.put, St.with, D.cell, C.dat, Z1, Z2, Z5, Z6, Z9, Z10, Z12, Z15, Z13, Z16, Z18, Z8, Z4, Bool.and_true, Bool.true_and, Nat.reduceEqDiff, if_true, if_false, and_self, Z3, Z7, Z14, beq_self_eq_true, Z26, Bool.true_or, callP, callO, dedup, rootsD, rootsC, List.flatMap_cons, List.flatMap_nil, List.filterMap_cons, List.filterMap_nil, argDs, argD, argC, List.contains_nil, objsAt, objOf, List.idxOf?, List.findIdx?, List.findIdx?.go, setObjs, D.ni, settle, settleDs, Z25, FsG1, hF]; rfl) ?_)) ?_
        show Tri _ _ _ _
        refine seq_run okG1 rfl (by repeat (first | with_reducible exact runf_nil | refine runf_cons (by simp only [xstep, stepf, stepx, evsA, qev, St.ev, St.put, St.with, D.cell, C.cpy, C.cp, C.dat, constD, constC, Z1, Z2, Z5, Z6, Z9, Z10, Z12, Z15, Z13, Z16, Z18, Z8, Z4, Bool.and_true, Bool.true_and, Nat.reduceEqDiff, if_true, if_false, and_self, Z3, Z7, Z14, beq_self_eq_true, Z26, Bool.true_or, callP, callO, dedup, rootsD, rootsC, List.flatMap_cons, List.flatMap_nil, List.filterMap_cons, List.filterMap_nil, argDs, argD, argC, List.contains_nil, objsAt, objOf, List.idxOf?, List.findIdx?, List.findIdx?.go, setObjs, D.ni, settle, settleDs, Z25, FsG1, hM2']; rfl) ?_)) ?_
        refine seq_run okG1 rfl (by repeat (first | with_reducible exact runf_nil | refine runf_cons (by simp only [xstep, stepf, stepx, qev, St.ev, St.put, D.cells, qload, cellsAt, qmk, C.cpy, TK.agg, C.st, C.cp, C.dat, storeA, putCells, Z1, Z2, Z5, Z6, Z9, Z10, Z12, Z15, Z13, Z24, Z16, Z18, Z17, Z20, Z19, Z21, Z8, Z4, Nat.reduceAdd, if_true, and_self, Z3, ne_eq, not_false_eq_true, reduceCtorEq, Nat.le_refl, Z7, implies_true, Z14, Z26, tk39, tsz39]; rfl) ?_)) ?_
        refine tri_ret (ends_ret (by simp only [outRes, resDs, resD, outD, outC, outCs, qload, cellsAt, qmk, C.cpy, TK.agg, C.cp, C.dat, Z1, Z2, Z9, Z10, Z15, Z13, Z24, Z16, Z18, Z17, Z20, Z21, Z8, Z4, Nat.reduceAdd, if_true, and_self, Z3, Z14, Z26, tk39, tsz39]; rfl) rfl (by simp) (by simp) ?_)
        simp only [Z12]
        (have hn : bitsN (flB l i e bad).1.size (flB l i e bad).1.data.toList 0 = some b := (by rw [← hb, List.drop_of_length_le (by simp; omega)]; rfl); simp only [reduceIte, ↓reduceIte, floatF, valC, noText, a0, a4, hn] at hQ; with_reducible exact hQ)
      ·
        refine then_skip ?_
        refine seq_run okG1 rfl (by repeat (first | with_reducible exact runf_nil | refine runf_cons (by simp only [xstep, stepf, stepx, evsA, qev, St.ev, St.put, St.with, D.cell, C.cpy, C.cp, C.dat, constD, constC, Z1, Z2, Z5, Z6, Z9, Z10, Z12, Z15, Z13, Z16, Z18, Z8, Z4, Bool.and_true, Bool.true_and, Nat.reduceEqDiff, if_true, if_false, and_self, Z3, Z7, Z14, beq_self_eq_true, Z26, Bool.true_or, callP, callO, dedup, rootsD, rootsC, List.flatMap_cons, List.flatMap_nil, List.filterMap_cons, List.filterMap_nil, argDs, argD, argC, List.contains_nil, objsAt, objOf, List.idxOf?, List.findIdx?, List.findIdx?.go, setObjs, D.ni, settle, settleDs, Z25, FsG1, hM3', a4]; rfl) ?_)) ?_
        refine seq_run okG1 rfl (by repeat (first | with_reducible exact runf_nil | refine runf_cons (by simp only [xstep, stepf, stepx, qev, St.ev, St.put, D.cells, qload, cellsAt, qmk, C.cpy, TK.agg, C.st, C.cp, C.dat, storeA, putCells, Z1, Z2, Z5, Z6, Z9, Z10, Z12, Z15, Z13, Z24, Z16, Z18, Z17, Z20, Z19, Z21, Z8, Z4, Nat.reduceAdd, if_true, and_self, Z3, ne_eq, not_false_eq_true, reduceCtorEq, Nat.le_refl, Z7, implies_true, Z14, Z26, tk39, tsz39]; rfl) ?_)) ?_
        refine tri_ret (ends_ret (by simp only [outRes, resDs, resD, outD, outC, outCs, qload, cellsAt, qmk, C.cpy, TK.agg, C.cp, C.dat, Z1, Z2, Z9, Z10, Z15, Z13, Z24, Z16, Z18, Z17, Z20, Z21, Z8, Z4, Nat.reduceAdd, if_true, and_self, Z3, Z14, Z26, tk39, tsz39]; rfl) rfl (by simp) (by simp) ?_)
        simp only [Z12]
        (have hn : bitsN (flB l i e bad).1.size (flB l i e bad).1.data.toList 0 = some b := (by rw [← hb, List.drop_of_length_le (by simp; omega)]; rfl); simp only [reduceIte, Z7, ↓reduceIte, floatF, valC, noText, a0, a4, hn] at hQ; with_reducible exact hQ)
end Go.Dl

namespace Go.Dl
open Go.RowKit
open Go.Proofs
set_option linter.unusedSimpArgs false
set_option linter.unusedVariables false

theorem tokC_inj {x y : Tok} (h : tokC x = tokC y) : x = y := by
  obtain ⟨a, b, c⟩ := x
  obtain ⟨a', b', c'⟩ := y
  simp only [tokC, List.cons.injEq, C.v.injEq, Value.int.injEq, Value.string.injEq, true_and, and_true] at h
  obtain ⟨rfl, rfl, rfl⟩ := h; rfl
theorem toks_inj : ∀ {l l' : List Tok}, l.map tokC = l'.map tokC → l = l'
  | [], [], _ => rfl
  | [], _ :: _, h => by simp at h
  | _ :: _, [], h => by simp at h
  | a :: l, b :: l', h => by
    simp only [Z24, List.cons.injEq] at h
    rw [tokC_inj h.1, toks_inj h.2]
theorem pa_inj {l l' : List Tok} {i i' : Nat} {e e' bad bad' : Int} (h : paObj l i e bad = paObj l' i' e' bad') : l = l' ∧ i = i' ∧ e = e' ∧ bad = bad' := by
  simp only [paObj, Obj.mk.injEq, List.cons.injEq, C.s.injEq, C.v.injEq, Value.int.injEq, true_and, and_true] at h
  exact ⟨toks_inj h.1, by omega, h.2.2.1, h.2.2.2⟩
theorem pa_inj4 {β : Type} {f : List Tok × Nat × Int × Int → β} (x y : List Tok × Nat × Int × Int)
    (h : ((([.c (.p 0 0 0)], [paObj x.1 x.2.1 x.2.2.1 x.2.2.2]) : List D × List Obj) = ([.c (.p 0 0 0)], [paObj y.1 y.2.1 y.2.2.1 y.2.2.2]))) : f x = f y := by
  simp only [Prod.mk.injEq, List.cons.injEq, and_true, true_and] at h
  obtain ⟨a, b, c, d⟩ := x
  obtain ⟨a', b', c', d'⟩ := y
  obtain ⟨h1, h2, h3, h4⟩ := pa_inj h
  dsimp only at h1 h2 h3 h4
  subst h1 h2 h3 h4; rfl

theorem float_at {l : List Tok} (i : Nat) (e bad : Int) (h : paPre l i) : oFloat [.c (.p 0 0 0)] [⟨4, [[.s false 3 (l.map tokC), .v (.int .i64 i), .v (.int .i64 e), .v (.int .i64 bad)]]⟩] =
    some (.agg (valC (floatF l i e bad).1), [⟨4, [[.s false 3 (l.map tokC), .v (.int .i64 (floatF l i e bad).2.1), .v (.int .i64 e), .v (.int .i64 (floatF l i e bad).2.2)]]⟩]) :=
  famO_at (fun x y h => pa_inj4 x y h) (l, i, e, bad) h rfl
theorem count_at {l : List Tok} (i : Nat) (e bad : Int) (h : paPre l i) : oCount [.c (.p 0 0 0)] [⟨4, [[.s false 3 (l.map tokC), .v (.int .i64 i), .v (.int .i64 e), .v (.int .i64 bad)]]⟩] =
    some (.c (.v (.int .u64 (countF l i e bad).1)), [⟨4, [[.s false 3 (l.map tokC), .v (.int .i64 (countF l i e bad).2.1), .v (.int .i64 e), .v (.int .i64 (countF l i e bad).2.2)]]⟩]) :=
  famO_at (fun x y h => pa_inj4 x y h) (l, i, e, bad) h rfl
theorem number_at {l : List Tok} (i : Nat) (e bad : Int) (h : paPre l i) {r : Int × Nat × Int} (hr : numberF l i e bad = some r) : oNumber [.c (.p 0 0 0)] [⟨4, [[.s false 3 (l.map tokC), .v (.int .i64 i), .v (.int .i64 e), .v (.int .i64 bad)]]⟩] =
    some (.c (.v (.int .i64 r.1)), [⟨4, [[.s false 3 (l.map tokC), .v (.int .i64 r.2.1), .v (.int .i64 e), .v (.int .i64 r.2.2)]]⟩]) := by
  have := decPa_pa (e := e) (bad := bad) h.1 (show i ≤ 1000000 by have := h.1; have := h.2.1; omega)
  simp only [paObj] at this
  simp only [oNumber, this, Z8, hr, Z4, paObj]

def nullW : ByteArray := ⟨#[110, 117, 108, 108]⟩
def trueW : ByteArray := ⟨#[116, 114, 117, 101]⟩
def falseW : ByteArray := ⟨#[102, 97, 108, 115, 101]⟩
def floatW : ByteArray := ⟨#[102, 108, 111, 97, 116]⟩
def wordF (l : List Tok) (i : Nat) (e bad : Int) (w : ByteArray) : Val × Nat × Int :=
  if strEq w nullW = true then (val0, i + 1, bad)
  else if strEq w trueW = true then ((1, true, 0, 0, noText), i + 1, bad)
  else if strEq w falseW = true then ((1, false, 0, 0, noText), i + 1, bad)
  else if strEq w floatW = true then floatF l (i + 1) e bad
  else (val0, i, failF l i e bad)

noncomputable def FsH1 : Fs := { pure := fun _ => none, objs := fun k => if k = 62 then some oFail else if k = 77 then some oFloat else none }
theorem okH1 : FsOK Try.prog FsH1 := by
  refine ⟨fun k f h => ?_, fun k f h => ?_⟩
  · cases h
  · simp only [FsH1] at h
    split at h
    · rename_i hk; subst hk; cases h; exact ⟨by kernel_rfl, meets62⟩
    split at h
    · rename_i hk; subst hk; cases h; exact ⟨by kernel_rfl, meets77⟩
    · cases h
noncomputable def oWord := famO (fun x : List Tok × Nat × Int × Int × ByteArray => paPre x.1 x.2.1 ∧ x.2.1 < x.1.length) (fun x => ([.c (.p 0 0 0), .c (.v (.string x.2.2.2.2))], [paObj x.1 x.2.1 x.2.2.1 x.2.2.2.1]))
  (fun x => (.agg (valC (wordF x.1 x.2.1 x.2.2.1 x.2.2.2.1 x.2.2.2.2).1), [paObj x.1 (wordF x.1 x.2.1 x.2.2.1 x.2.2.2.1 x.2.2.2.2).2.1 x.2.2.1 (wordF x.1 x.2.1 x.2.2.1 x.2.2.2.1 x.2.2.2.2).2.2]))
theorem meets64 : Meets Try.prog 64 (detS oWord) := by
  refine meets_famO (show Try.prog.funcs[64]? = some Try.f64 by kernel_rfl) rfl (n := 43) rfl (rs := [ResultVar.cell 4 39]) rfl ?_
  rintro ⟨l, i, e, bad, w⟩ ⟨⟨hl, hi, hsz⟩, hlt⟩ Q hQ
  dsimp only at hl hi hsz hQ hlt
  simp only [paObj] at hQ
  have hq1 : (i : Int) + 1 = ((i + 1 : Nat) : Int) := by omega
  have hA := float_at (l := l) (i + 1) e bad ⟨hl, by omega, hsz⟩
  have hF := fail_at hl i e bad hi
  have hlm : l.length ≤ maxStr := by unfold maxStr; omega
  refine seq_run okH1 rfl (by repeat (first | with_reducible exact runf_nil | refine runf_cons (by simp only [xstep, stepf, stepx, St.put, St.with, boxA, C.st, Z5, Z6, List.replicate, Z9, Z10, Z23, Z12, Z13, Z24, Z16, Z18, Z8, Z4, Nat.reduceAdd, Nat.reduceSub, if_true, Z3, Z14, Z26, paObj, tz39]; rfl) ?_)) ?_
  refine seq_in ?_
  refine seq_run okH1 rfl (by repeat (first | with_reducible exact runf_nil | refine runf_cons (by simp only [xstep, stepf, stepx, qev, St.ev, St.put, Z1, Z2, Z5, Z6, Z4, Z3]; rfl) ?_)) ?_
  refine tri_block ?_
  refine seq_run okH1 rfl (by repeat (first | with_reducible exact runf_nil | refine runf_cons (by simp only [xstep, stepf, stepx, qev, St.ev, St.put, qstr, qbin, constD, constC, Z1, Z2, Z5, Z6, Z4, Z3]; rfl) ?_)) ?_
  refine tri_cond rfl (fun a0 => ?_) (fun a0 => ?_)
  ·
    refine seq_run okH1 rfl (by repeat (first | with_reducible exact runf_nil | refine runf_cons (by simp only [xstep, stepf, stepx, qev, St.ev, St.put, D.cells, qload, cellsAt, qmk, C.cpy, TK.agg, qnil, qfieldAddr, qint, qshift, isShift, qbin, liveR, C.st, C.cp, C.dat, storeA, putCells, constD, constC, Z1, Z2, Z5, Z6, Z9, Z10, Z23, Z12, Z13, Z24, Z16, Z18, Z17, Z20, Z19, Z21, Z8, Z4, Z11, Nat.reduceAdd, if_true, if_false, and_self, Z3, ne_eq, not_false_eq_true, reduceCtorEq, Nat.reduceLeDiff, Z7, implies_true, Z14, Z26, hq1, tsz3, a0, tk80, tk3, show IntKind.i64.wrap (↑(i + 1) : Int) = _ from wrap_i64 _ (by omega) (by omega)]; rfl) ?_)) ?_
    refine seq_run okH1 rfl (by repeat (first | with_reducible exact runf_nil | refine runf_cons (by simp only [xstep, stepf, stepx, St.ev, St.put, D.cells, C.st, C.dat, storeA, putCells, Z1, Z2, Z5, Z6, Z9, Z10, Z12, Z15, Z16, Z18, Z20, Z19, Z21, Z8, Z4, Nat.reduceAdd, if_true, and_self, Z3, ne_eq, not_false_eq_true, reduceCtorEq, Nat.le_refl, Nat.reduceBNe, Z7, implies_true, Z14, Z26, tk39, tsz39, tsz2, tsz3, tsz4, tsz9, tsz37, buildA, partsA, fillA, tz39]; rfl) ?_)) ?_
    refine tri_ret (ends_ret (by simp only [outRes, resDs, resD, outD, outC, outCs, qload, cellsAt, qmk, C.cpy, TK.agg, C.cp, C.dat, Z1, Z2, Z9, Z10, Z15, Z13, Z24, Z16, Z18, Z17, Z20, Z21, Z8, Z4, Nat.reduceAdd, if_true, and_self, Z3, Z14, Z26, tk39, tsz39]; rfl) rfl (by simp) (by simp) ?_)
    simp only [Z12]
    (simp only [reduceIte, ↓reduceIte, wordF, valC, val0, noText, nullW, a0] at hQ; with_reducible exact hQ)
  ·
    refine seq_in ?_
    refine seq_run okH1 rfl (by repeat (first | with_reducible exact runf_nil | refine runf_cons (by simp only [xstep, stepf, stepx, qev, St.ev, St.put, qstr, qbin, constD, constC, Z1, Z2, Z5, Z6, Z4, Z3, a0]; rfl) ?_)) ?_
    refine tri_cond rfl (fun a1 => ?_) (fun a1 => ?_)
    ·
      refine then_skip ?_
      refine tri_cond rfl (fun a2 => ?_) (fun a2 => ?_)
      ·
        refine seq_run okH1 rfl (by repeat (first | with_reducible exact runf_nil | refine runf_cons (by simp only [xstep, stepf, stepx, qev, St.ev, St.put, D.cells, qload, cellsAt, qmk, C.cpy, TK.agg, qnil, qfieldAddr, qint, qshift, isShift, qbin, liveR, C.st, C.cp, C.dat, storeA, putCells, constD, constC, Z1, Z2, Z5, Z6, Z9, Z10, Z23, Z12, Z13, Z24, Z16, Z18, Z17, Z20, Z19, Z21, Z8, Z4, Z11, Nat.reduceAdd, if_true, if_false, and_self, Z3, ne_eq, not_false_eq_true, reduceCtorEq, Nat.reduceLeDiff, Z7, implies_true, Z14, Z26, hq1, tsz3, a1, tk80, tk3, show IntKind.i64.wrap (↑(i + 1) : Int) = _ from wrap_i64 _ (by omega) (by omega)]; rfl) ?_)) ?_
        refine seq_run okH1 rfl (by repeat (first | with_reducible exact runf_nil | refine runf_cons (by simp only [xstep, stepf, stepx, qev, St.ev, St.put, D.cells, qstr, qbin, C.st, C.dat, storeA, putCells, constD, constC, Z1, Z2, Z5, Z6, Z9, Z10, Z23, Z12, Z15, Z16, Z18, Z17, Z20, Z19, Z21, Z8, Z4, Nat.reduceAdd, if_true, and_self, Z3, ne_eq, not_false_eq_true, reduceCtorEq, Nat.reduceLeDiff, Nat.le_refl, Nat.reduceBNe, Z7, implies_true, Z14, Z26, tk39, tsz39, tsz2, tsz3, tsz4, tsz9, tsz37, buildA, partsA, fillA, placeSt, tz39, a1]; rfl) ?_)) ?_
        refine tri_ret (ends_ret (by simp only [outRes, resDs, resD, outD, outC, outCs, qload, cellsAt, qmk, C.cpy, TK.agg, C.cp, C.dat, Z1, Z2, Z9, Z10, Z15, Z13, Z24, Z16, Z18, Z17, Z20, Z21, Z8, Z4, Nat.reduceAdd, if_true, and_self, Z3, Z14, Z26, tk39, tsz39]; rfl) rfl (by simp) (by simp) ?_)
        simp only [Z12]
        (simp only [reduceIte, Z7, ↓reduceIte, wordF, valC, noText, nullW, trueW, a0, a1] at hQ; with_reducible exact hQ)
      ·
        (simp only [a1, Bool.true_eq_false] at a2; done)
    ·
      refine run_end okH1 rfl (by repeat (first | with_reducible exact runf_nil | refine runf_cons (by simp only [xstep, stepf, stepx, qev, St.ev, St.put, qstr, qbin, constD, constC, Z1, Z2, Z5, Z6, Z4, Z3, a1]; rfl) ?_)) ?_
      show Tri _ _ _ _
      refine tri_cond rfl (fun a3 => ?_) (fun a3 => ?_)
      ·
        refine seq_run okH1 rfl (by repeat (first | with_reducible exact runf_nil | refine runf_cons (by simp only [xstep, stepf, stepx, qev, St.ev, St.put, D.cells, qload, cellsAt, qmk, C.cpy, TK.agg, qnil, qfieldAddr, qint, qshift, isShift, qbin, liveR, C.st, C.cp, C.dat, storeA, putCells, constD, constC, Z1, Z2, Z5, Z6, Z9, Z10, Z23, Z12, Z13, Z24, Z16, Z18, Z17, Z20, Z19, Z21, Z8, Z4, Z11, Nat.reduceAdd, if_true, if_false, and_self, Z3, ne_eq, not_false_eq_true, reduceCtorEq, Nat.reduceLeDiff, Z7, implies_true, Z14, Z26, hq1, tsz3, a3, tk80, tk3, show IntKind.i64.wrap (↑(i + 1) : Int) = _ from wrap_i64 _ (by omega) (by omega)]; rfl) ?_)) ?_
        refine seq_run okH1 rfl (by repeat (first | with_reducible exact runf_nil | refine runf_cons (by simp only [xstep, stepf, stepx, qev, St.ev, St.put, D.cells, qstr, qbin, C.st, C.dat, storeA, putCells, constD, constC, Z1, Z2, Z5, Z6, Z9, Z10, Z23, Z12, Z15, Z16, Z18, Z17, Z20, Z19, Z21, Z8, Z4, Nat.reduceAdd, if_true, and_self, Z3, ne_eq, not_false_eq_true, reduceCtorEq, Nat.reduceLeDiff, Nat.le_refl, Nat.reduceBNe, Z7, implies_true, Z14, Z26, tk39, tsz39, tsz2, tsz3, tsz4, tsz9, tsz37, buildA, partsA, fillA, placeSt, tz39, a1]; rfl) ?_)) ?_
        refine tri_ret (ends_ret (by simp only [outRes, resDs, resD, outD, outC, outCs, qload, cellsAt, qmk, C.cpy, TK.agg, C.cp, C.dat, Z1, Z2, Z9, Z10, Z15, Z13, Z24, Z16, Z18, Z17, Z20, Z21, Z8, Z4, Nat.reduceAdd, if_true, and_self, Z3, Z14, Z26, tk39, tsz39]; rfl) rfl (by simp) (by simp) ?_)
        simp only [Z12]
        (simp only [reduceIte, Z7, ↓reduceIte, wordF, valC, noText, nullW, trueW, falseW, a0, a1, a3] at hQ; with_reducible exact hQ)
      ·
        refine seq_run okH1 rfl (by repeat (first | with_reducible exact runf_nil | refine runf_cons (by simp only [xstep, stepf, stepx, qev, St.ev, St.put, qstr, qbin, constD, constC, Z1, Z2, Z5, Z6, Z4, Z3, a3]; rfl) ?_)) ?_
        refine tri_cond rfl (fun a4 => ?_) (fun a4 => ?_)
        ·
          refine seq_run okH1 rfl (by repeat (first | with_reducible exact runf_nil | refine runf_cons (by simp only [xstep, stepf, stepx, qev, St.ev, St.put, D.cells, qload, cellsAt, qmk, C.cpy, TK.agg, qnil, qfieldAddr, qint, qshift, isShift, qbin, liveR, C.st, C.cp, C.dat, storeA, putCells, constD, constC, Z1, Z2, Z5, Z6, Z9, Z10, Z23, Z12, Z13, Z24, Z16, Z18, Z17, Z20, Z19, Z21, Z8, Z4, Z11, Nat.reduceAdd, if_true, if_false, and_self, Z3, ne_eq, not_false_eq_true, reduceCtorEq, Nat.reduceLeDiff, Z7, implies_true, Z14, Z26, hq1, tsz3, a4, tk80, tk3, show IntKind.i64.wrap (↑(i + 1) : Int) = _ from wrap_i64 _ (by omega) (by omega)]; rfl) ?_)) ?_
          refine seq_run okH1 rfl (by repeat (first | with_reducible exact runf_nil | refine runf_cons (by simp only [xstep, stepf, stepx, evsA, qev, St.ev, St.put, St.with, D.cells, D.cell, C.st, C.dat, storeA, putCells, Z1, Z2, Z5, Z6, Z9, Z10, Z12, Z15, Z13, Z16, Z18, Z20, Z19, Z21, Z8, Z4, Bool.and_true, Bool.true_and, Nat.reduceAdd, Nat.reduceEqDiff, if_true, if_false, and_self, Z3, ne_eq, not_false_eq_true, reduceCtorEq, Nat.le_refl, Z7, implies_true, Z14, beq_self_eq_true, Z26, Bool.true_or, callP, callO, dedup, rootsD, rootsC, List.flatMap_cons, List.flatMap_nil, List.filterMap_cons, List.filterMap_nil, argDs, argD, argC, List.contains_nil, objsAt, objOf, List.idxOf?, List.findIdx?, List.findIdx?.go, setObjs, D.ni, D.ni1, C.ni, C.niRow, settle, settle1, settleC, settleCs, Z25, FsH1, hA, valC, tsz39]; rfl) ?_)) ?_
          refine tri_ret (ends_ret (by simp only [outRes, resDs, resD, outD, outC, outCs, qload, cellsAt, qmk, C.cpy, TK.agg, C.cp, C.dat, Z1, Z2, Z9, Z10, Z15, Z13, Z24, Z16, Z18, Z17, Z20, Z21, Z8, Z4, Nat.reduceAdd, if_true, and_self, Z3, Z14, Z26, tk39, tsz39]; rfl) rfl (by simp) (by simp) ?_)
          simp only [Z12]
          (simp only [reduceIte, Z7, ↓reduceIte, wordF, valC, nullW, trueW, falseW, floatW, a0, a1, a3, a4] at hQ; with_reducible exact hQ)
        ·
          refine tri_skip ?_
          show Tri _ _ _ _
          refine seq_run okH1 rfl (by repeat (first | with_reducible exact runf_nil | refine runf_cons (by simp only [xstep, stepf, stepx, evsA, qev, St.ev, St.put, St.with, D.cell, C.dat, Z1, Z2, Z5, Z6, Z9, Z10, Z12, Z15, Z13, Z16, Z18, Z8, Z4, Bool.and_true, Bool.true_and, Nat.reduceEqDiff, if_true, if_false, and_self, Z3, Z7, Z14, beq_self_eq_true, Z26, Bool.true_or, callP, callO, dedup, rootsD, rootsC, List.flatMap_cons, List.flatMap_nil, List.filterMap_cons, List.filterMap_nil, argDs, argD, argC, List.contains_nil, objsAt, objOf, List.idxOf?, List.findIdx?, List.findIdx?.go, setObjs, D.ni, settle, settleDs, Z25, FsH1, hF, a4]; rfl) ?_)) ?_
          refine seq_run okH1 rfl (by repeat (first | with_reducible exact runf_nil | refine runf_cons (by simp only [xstep, stepf, stepx, St.ev, St.put, D.cells, C.st, C.dat, storeA, putCells, Z1, Z2, Z5, Z6, Z9, Z10, Z12, Z15, Z16, Z18, Z20, Z19, Z21, Z8, Z4, Nat.reduceAdd, if_true, and_self, Z3, ne_eq, not_false_eq_true, reduceCtorEq, Nat.le_refl, Nat.reduceBNe, Z7, implies_true, Z14, Z26, tk39, tsz39, tsz2, tsz3, tsz4, tsz9, tsz37, buildA, partsA, fillA, tz39]; rfl) ?_)) ?_
          refine tri_ret (ends_ret (by simp only [outRes, resDs, resD, outD, outC, outCs, qload, cellsAt, qmk, C.cpy, TK.agg, C.cp, C.dat, Z1, Z2, Z9, Z10, Z15, Z13, Z24, Z16, Z18, Z17, Z20, Z21, Z8, Z4, Nat.reduceAdd, if_true, and_self, Z3, Z14, Z26, tk39, tsz39]; rfl) rfl (by simp) (by simp) ?_)
          simp only [Z12]
          (simp only [reduceIte, Z7, ↓reduceIte, wordF, valC, val0, noText, nullW, trueW, falseW, floatW, a0, a1, a3, a4] at hQ; with_reducible exact hQ)

def valueF (l : List Tok) (i : Nat) (e bad : Int) : Val × Nat × Int :=
  if 0 ≤ bad then (val0, i, failF l i e bad)
  else match l[i]? with
    | none => (val0, i, failF l i e bad)
    | some t => if t.1 = 1 then (match numberF l i e bad with | some r => ((2, false, r.1, 0, noText), r.2.1, r.2.2) | none => (val0, i, bad))
      else if t.1 = 2 then ((4, false, 0, 0, t.2.1), i + 1, bad)
      else if t.1 = 0 then wordF l i e bad t.2.1
      else (val0, i, failF l i e bad)
theorem word_at {l : List Tok} (i : Nat) (e bad : Int) (w : ByteArray) (h : paPre l i) (hi : i < l.length) : oWord [.c (.p 0 0 0), .c (.v (.string w))] [⟨4, [[.s false 3 (l.map tokC), .v (.int .i64 i), .v (.int .i64 e), .v (.int .i64 bad)]]⟩] =
    some (.agg (valC (wordF l i e bad w).1), [⟨4, [[.s false 3 (l.map tokC), .v (.int .i64 (wordF l i e bad w).2.1), .v (.int .i64 e), .v (.int .i64 (wordF l i e bad w).2.2)]]⟩]) :=
  famO_at (fun x y h => by
    simp only [Prod.mk.injEq, List.cons.injEq, and_true, true_and, D.c.injEq, C.v.injEq, Value.string.injEq] at h
    obtain ⟨a, b, c, d, w⟩ := x
    obtain ⟨a', b', c', d', w'⟩ := y
    obtain ⟨h1, h2, h3, h4⟩ := pa_inj h.2
    have h5 := h.1
    dsimp only at h1 h2 h3 h4 h5
    subst h1 h2 h3 h4 h5; rfl) (l, i, e, bad, w) ⟨h, hi⟩ rfl
/-- A number's text is not empty. -/
def numPre (l : List Tok) : Prop := ∀ t ∈ l, t.1 = 1 → 0 < t.2.1.size
theorem numberF_some {l : List Tok} {i : Nat} {e bad : Int} (h : paPre l i) (hn : numPre l) {t : Tok} (ht : l[i]? = some t) (h1 : t.1 = 1) : ∃ r, numberF l i e bad = some r := by
  have hs : 0 ≤ bad ∨ 0 < (takeF l i e bad 1).1.size := by
    by_cases hb : 0 ≤ bad
    · exact .inl hb
    · right
      unfold takeF
      rw [if_neg hb, ht]
      simp only [if_pos h1]
      exact hn _ (List.mem_of_getElem? ht) h1
  have hz := takeF_size (i := i) (e := e) (bad := bad) (k := 1) h.2.2
  unfold numberF
  split
  · exact ⟨_, rfl⟩
  · rename_i hb
    have hs' : 0 < (takeF l i e bad 1).1.size := by
      rcases hs with h0 | h0
      · exfalso; apply hb; unfold takeF; rw [if_pos h0]; exact h0
      · exact h0
    rw [if_pos ⟨hs', hz⟩]
    split <;> split <;> exact ⟨_, rfl⟩
noncomputable def FsH2 : Fs := { pure := fun _ => none, objs := fun k => if k = 62 then some oFail else if k = 63 then some oNumber else if k = 64 then some oWord else none }
theorem okH2 : FsOK Try.prog FsH2 := by
  refine ⟨fun k f h => ?_, fun k f h => ?_⟩
  · cases h
  · simp only [FsH2] at h
    split at h
    · rename_i hk; subst hk; cases h; exact ⟨by kernel_rfl, meets62⟩
    split at h
    · rename_i hk; subst hk; cases h; exact ⟨by kernel_rfl, meets63⟩
    split at h
    · rename_i hk; subst hk; cases h; exact ⟨by kernel_rfl, meets64⟩
    · cases h
noncomputable def oValue := famO (fun x : List Tok × Nat × Int × Int => paPre x.1 x.2.1 ∧ numPre x.1) (fun x => ([.c (.p 0 0 0)], [paObj x.1 x.2.1 x.2.2.1 x.2.2.2]))
  (fun x => (.agg (valC (valueF x.1 x.2.1 x.2.2.1 x.2.2.2).1), [paObj x.1 (valueF x.1 x.2.1 x.2.2.1 x.2.2.2).2.1 x.2.2.1 (valueF x.1 x.2.1 x.2.2.1 x.2.2.2).2.2]))
theorem meets39 : Meets Try.prog 39 (detS oValue) := by
  refine meets_famO (show Try.prog.funcs[39]? = some Try.f39 by kernel_rfl) rfl (n := 62) rfl (rs := [ResultVar.cell 2 39]) rfl ?_
  rintro ⟨l, i, e, bad⟩ ⟨⟨hl, hi, hsz⟩, hnum⟩ Q hQ
  dsimp only at hl hi hsz hQ hnum
  simp only [paObj] at hQ
  have hq1 : (i : Int) + 1 = ((i + 1 : Nat) : Int) := by omega
  have hF := fail_at hl i e bad hi
  have hlm : l.length ≤ maxStr := by unfold maxStr; omega
  by_cases hlt : i < l.length
  · obtain ⟨t, ht⟩ : ∃ t, l[i]? = some t := ⟨l[i], List.getElem?_eq_getElem hlt⟩
    have hW := word_at (l := l) i e bad t.2.1 ⟨hl, hi, hsz⟩ hlt
    by_cases h1 : t.1 = 1
    · obtain ⟨r, hr⟩ := numberF_some (e := e) (bad := bad) ⟨hl, hi, hsz⟩ hnum ht h1
      have hN := number_at (l := l) i e bad ⟨hl, hi, hsz⟩ hr
      refine seq_run okH2 rfl (by repeat (first | with_reducible exact runf_nil | refine runf_cons (by simp only [xstep, stepf, stepx, St.put, St.with, boxA, C.st, Z5, Z6, List.replicate, Z9, Z10, Z23, Z12, Z13, Z24, Z16, Z18, Z8, Z4, Nat.reduceAdd, Nat.reduceSub, if_true, Z3, Z14, Z26, paObj, tz39]; rfl) ?_)) ?_
      refine seq_in ?_
      refine seq_anyE mixed okH2 rfl (by kernel_rfl) ?_
      by_cases a0 : (0 ≤ bad)
      ·
        refine ⟨_, (by repeat (first | with_reducible exact runf_nil | refine runf_cons (by simp only [xstep, stepf, stepx, qev, St.ev, St.put, qload, cellsAt, qmk, C.cpy, TK.agg, qnil, qfieldAddr, qpick, qint, qshift, isEq, isShift, qbin, qlen, qbuiltin, liveR, C.cp, constD, constC, Z1, Z2, Z5, Z6, Z9, Z10, Z13, Z24, Z16, Z18, Z17, Z20, Z19, Z21, Z8, Option.bind_none, Z4, Z11, if_true, if_false, and_self, decide_true, cond_true, Z22, Z3, reduceCtorEq, Z7, Z14, Z26, tsz3, tk80, tk3, eq_true a0]; rfl) ?_)), ?_⟩
        refine tri_cond (b := true) rfl (fun _ => ?_) (fun h => by cases h)
        refine seq_run okH2 rfl (by repeat (first | with_reducible exact runf_nil | refine runf_cons (by simp only [xstep, stepf, stepx, evsA, qev, St.ev, St.put, St.with, D.cell, C.dat, Z1, Z2, Z5, Z6, Z9, Z10, Z12, Z15, Z13, Z16, Z18, Z8, Z4, Bool.and_true, Bool.true_and, Nat.reduceEqDiff, if_true, if_false, and_self, Z3, Z7, Z14, beq_self_eq_true, Z26, Bool.true_or, callP, callO, dedup, rootsD, rootsC, List.flatMap_cons, List.flatMap_nil, List.filterMap_cons, List.filterMap_nil, argDs, argD, argC, List.contains_nil, objsAt, objOf, List.idxOf?, List.findIdx?, List.findIdx?.go, setObjs, D.ni, settle, settleDs, Z25, FsH2, hF]; rfl) ?_)) ?_
        refine seq_run okH2 rfl (by repeat (first | with_reducible exact runf_nil | refine runf_cons (by simp only [xstep, stepf, stepx, St.ev, St.put, D.cells, C.st, C.dat, storeA, putCells, Z1, Z2, Z5, Z6, Z9, Z10, Z12, Z15, Z16, Z18, Z20, Z19, Z21, Z8, Z4, Nat.reduceAdd, if_true, and_self, Z3, ne_eq, not_false_eq_true, reduceCtorEq, Nat.le_refl, Nat.reduceBNe, Z7, implies_true, Z14, Z26, tk39, tsz39, tsz2, tsz3, tsz4, tsz9, tsz37, buildA, partsA, fillA, tz39]; rfl) ?_)) ?_
        refine tri_ret (ends_ret (by simp only [outRes, resDs, resD, outD, outC, outCs, qload, cellsAt, qmk, C.cpy, TK.agg, C.cp, C.dat, Z1, Z2, Z9, Z10, Z15, Z13, Z24, Z16, Z18, Z17, Z20, Z21, Z8, Z4, Nat.reduceAdd, if_true, and_self, Z3, Z14, Z26, tk39, tsz39]; rfl) rfl (by simp) (by simp) ?_)
        simp only [Z12]
        (simp only [reduceIte, ↓reduceIte, valueF, valC, val0, noText, eq_true a0] at hQ; with_reducible exact hQ)
      ·
        refine ⟨_, (by repeat (first | with_reducible exact runf_nil | refine runf_cons (by simp only [xstep, stepf, stepx, qev, St.ev, St.put, qload, cellsAt, qmk, C.cpy, TK.agg, qnil, qfieldAddr, qpick, qint, qshift, isShift, qbin, qlen, qbuiltin, liveR, C.cp, constD, constC, Z1, Z2, Z5, Z6, Z9, Z10, Z13, Z24, Z16, Z18, Z17, Z20, Z19, Z21, Z8, Z4, Z11, if_true, if_false, and_self, decide_false, cond_false, Z22, Z3, reduceCtorEq, Z7, Nat.add_zero, Z14, Z26, hlm, tsz3, List.length_map, tk80, tk3, eq_false a0, tsz23, tk23]; rfl) ?_)), ?_⟩
        refine tri_cond rfl (fun a1 => ?_) (fun a1 => ?_)
        ·
          simp only [decide_eq_true_eq] at a1
          (exfalso; omega)
        ·
          simp only [decide_eq_false_iff_not] at a1
          refine then_skip ?_
          refine seq_in ?_
          refine seq_anyE mixed okH2 rfl (by kernel_rfl) ?_
          refine ⟨_, (by repeat (first | with_reducible exact runf_nil | refine runf_cons (by simp only [xstep, stepf, stepx, qev, St.ev, St.put, St.with, D.cells, D.int, boxA, qload, cellsAt, qmk, C.cpy, TK.agg, qnil, qfieldAddr, qindexAddr, liveR, C.st, C.cp, C.dat, storeA, putCells, Z1, Z2, Z5, Z6, Z9, Z10, Z23, Z12, Z15, Z13, Z24, Z16, Z18, Z17, Z20, Z19, Z21, Z8, Z4, Nat.reduceAdd, if_true, if_false, and_self, decide_false, Z3, ne_eq, not_false_eq_true, reduceCtorEq, Nat.le_refl, Z7, implies_true, Nat.add_zero, Z14, Z26, tsz3, tokC, List.getElem?_map, ht, h1, List.length_map, Int.toNat_natCast, Int.natCast_nonneg, tk80, tk3, tsz23, tk23, a1, tsz33, show ((↑i : Int) < (↑l.length : Int)) = True from eq_true (by omega), tk33, tz33]; rfl) ?_)), ?_⟩
          refine seq_run okH2 rfl (by repeat (first | with_reducible exact runf_nil | refine runf_cons (by simp only [xstep, stepf, stepx, qev, St.ev, St.put, qload, cellsAt, qmk, C.cpy, TK.agg, qfieldAddr, liveR, C.cp, Z1, Z2, Z5, Z6, Z9, Z10, Z13, Z24, Z16, Z18, Z17, Z20, Z21, Z8, Z4, if_true, if_false, and_self, Z3, reduceCtorEq, Z7, Nat.add_zero, Z14, Z26, tsz3, tk3, tk33]; rfl) ?_)) ?_
          refine tri_block ?_
          refine seq_run okH2 rfl (by repeat (first | with_reducible exact runf_nil | refine runf_cons (by simp only [xstep, stepf, stepx, qev, St.ev, St.put, qint, qshift, isShift, qbin, constD, constC, Z1, Z2, Z5, Z6, Z4, Z11, if_true, if_false, decide_true, Z3, Z7]; rfl) ?_)) ?_
          refine tri_cond (b := true) rfl (fun _ => ?_) (fun h => by cases h)
          refine seq_run okH2 rfl (by repeat (first | with_reducible exact runf_nil | refine runf_cons (by simp only [xstep, stepf, stepx, evsA, qev, St.ev, St.put, St.with, D.cells, D.cell, C.st, C.dat, storeA, putCells, constD, constC, Z1, Z2, Z5, Z6, Z9, Z10, Z23, Z12, Z15, Z13, Z16, Z18, Z17, Z20, Z19, Z21, Z8, Z4, Bool.and_true, Bool.true_and, Nat.reduceAdd, Nat.reduceEqDiff, if_true, if_false, and_self, Z3, ne_eq, not_false_eq_true, reduceCtorEq, Nat.reduceLeDiff, Nat.le_refl, Nat.reduceBNe, Z7, implies_true, Z14, beq_self_eq_true, Z26, Bool.true_or, callP, callO, dedup, rootsD, rootsC, List.flatMap_cons, List.flatMap_nil, List.filterMap_cons, List.filterMap_nil, argDs, argD, argC, List.contains_nil, objsAt, objOf, List.idxOf?, List.findIdx?, List.findIdx?.go, setObjs, D.ni, D.ni1, C.ni, settle, settle1, settleC, Z25, FsH2, hN, tk39, tsz39, tsz2, tsz3, tsz4, tsz9, tsz37, buildA, partsA, fillA, placeSt, tz39]; rfl) ?_)) ?_
          refine tri_ret (ends_ret (by simp only [outRes, resDs, resD, outD, outC, outCs, qload, cellsAt, qmk, C.cpy, TK.agg, C.cp, C.dat, Z1, Z2, Z9, Z10, Z15, Z13, Z24, Z16, Z18, Z17, Z20, Z21, Z8, Z4, Nat.reduceAdd, if_true, and_self, Z3, Z14, Z26, tk39, tsz39]; rfl) rfl (by simp) (by simp) ?_)
          simp only [Z12]
          (simp only [reduceIte, ↓reduceIte, valueF, hr, ht, h1, valC, noText, eq_false a0] at hQ; with_reducible exact hQ)
    ·
      refine seq_run okH2 rfl (by repeat (first | with_reducible exact runf_nil | refine runf_cons (by simp only [xstep, stepf, stepx, St.put, St.with, boxA, C.st, Z5, Z6, List.replicate, Z9, Z10, Z23, Z12, Z13, Z24, Z16, Z18, Z8, Z4, Nat.reduceAdd, Nat.reduceSub, if_true, Z3, Z14, Z26, paObj, tz39]; rfl) ?_)) ?_
      refine seq_in ?_
      refine seq_anyE mixed okH2 rfl (by kernel_rfl) ?_
      by_cases a0 : (0 ≤ bad)
      ·
        refine ⟨_, (by repeat (first | with_reducible exact runf_nil | refine runf_cons (by simp only [xstep, stepf, stepx, qev, St.ev, St.put, qload, cellsAt, qmk, C.cpy, TK.agg, qnil, qfieldAddr, qpick, qint, qshift, isEq, isShift, qbin, qlen, qbuiltin, liveR, C.cp, constD, constC, Z1, Z2, Z5, Z6, Z9, Z10, Z13, Z24, Z16, Z18, Z17, Z20, Z19, Z21, Z8, Option.bind_none, Z4, Z11, if_true, if_false, and_self, decide_true, cond_true, Z22, Z3, reduceCtorEq, Z7, Z14, Z26, tsz3, tk80, tk3, eq_true a0]; rfl) ?_)), ?_⟩
        refine tri_cond (b := true) rfl (fun _ => ?_) (fun h => by cases h)
        refine seq_run okH2 rfl (by repeat (first | with_reducible exact runf_nil | refine runf_cons (by simp only [xstep, stepf, stepx, evsA, qev, St.ev, St.put, St.with, D.cell, C.dat, Z1, Z2, Z5, Z6, Z9, Z10, Z12, Z15, Z13, Z16, Z18, Z8, Z4, Bool.and_true, Bool.true_and, Nat.reduceEqDiff, if_true, if_false, and_self, Z3, Z7, Z14, beq_self_eq_true, Z26, Bool.true_or, callP, callO, dedup, rootsD, rootsC, List.flatMap_cons, List.flatMap_nil, List.filterMap_cons, List.filterMap_nil, argDs, argD, argC, List.contains_nil, objsAt, objOf, List.idxOf?, List.findIdx?, List.findIdx?.go, setObjs, D.ni, settle, settleDs, Z25, FsH2, hF]; rfl) ?_)) ?_
        refine seq_run okH2 rfl (by repeat (first | with_reducible exact runf_nil | refine runf_cons (by simp only [xstep, stepf, stepx, St.ev, St.put, D.cells, C.st, C.dat, storeA, putCells, Z1, Z2, Z5, Z6, Z9, Z10, Z12, Z15, Z16, Z18, Z20, Z19, Z21, Z8, Z4, Nat.reduceAdd, if_true, and_self, Z3, ne_eq, not_false_eq_true, reduceCtorEq, Nat.le_refl, Nat.reduceBNe, Z7, implies_true, Z14, Z26, tk39, tsz39, tsz2, tsz3, tsz4, tsz9, tsz37, buildA, partsA, fillA, tz39]; rfl) ?_)) ?_
        refine tri_ret (ends_ret (by simp only [outRes, resDs, resD, outD, outC, outCs, qload, cellsAt, qmk, C.cpy, TK.agg, C.cp, C.dat, Z1, Z2, Z9, Z10, Z15, Z13, Z24, Z16, Z18, Z17, Z20, Z21, Z8, Z4, Nat.reduceAdd, if_true, and_self, Z3, Z14, Z26, tk39, tsz39]; rfl) rfl (by simp) (by simp) ?_)
        simp only [Z12]
        (simp only [reduceIte, ↓reduceIte, valueF, valC, val0, noText, eq_true a0] at hQ; with_reducible exact hQ)
      ·
        refine ⟨_, (by repeat (first | with_reducible exact runf_nil | refine runf_cons (by simp only [xstep, stepf, stepx, qev, St.ev, St.put, qload, cellsAt, qmk, C.cpy, TK.agg, qnil, qfieldAddr, qpick, qint, qshift, isShift, qbin, qlen, qbuiltin, liveR, C.cp, constD, constC, Z1, Z2, Z5, Z6, Z9, Z10, Z13, Z24, Z16, Z18, Z17, Z20, Z19, Z21, Z8, Z4, Z11, if_true, if_false, and_self, decide_false, cond_false, Z22, Z3, reduceCtorEq, Z7, Nat.add_zero, Z14, Z26, hlm, tsz3, List.length_map, tk80, tk3, eq_false a0, tsz23, tk23]; rfl) ?_)), ?_⟩
        refine tri_cond rfl (fun a1 => ?_) (fun a1 => ?_)
        ·
          simp only [decide_eq_true_eq] at a1
          (exfalso; omega)
        ·
          simp only [decide_eq_false_iff_not] at a1
          refine then_skip ?_
          refine seq_in ?_
          refine seq_anyE mixed okH2 rfl (by kernel_rfl) ?_
          refine ⟨_, (by repeat (first | with_reducible exact runf_nil | refine runf_cons (by simp only [xstep, stepf, stepx, qev, St.ev, St.put, St.with, D.cells, D.int, boxA, qload, cellsAt, qmk, C.cpy, TK.agg, qnil, qfieldAddr, qindexAddr, liveR, C.st, C.cp, C.dat, storeA, putCells, Z1, Z2, Z5, Z6, Z9, Z10, Z23, Z12, Z15, Z13, Z24, Z16, Z18, Z17, Z20, Z19, Z21, Z8, Z4, Nat.reduceAdd, if_true, if_false, and_self, decide_false, Z3, ne_eq, not_false_eq_true, reduceCtorEq, Nat.le_refl, Z7, implies_true, Nat.add_zero, Z14, Z26, tsz3, tokC, List.getElem?_map, ht, List.length_map, Int.toNat_natCast, Int.natCast_nonneg, tk80, tk3, tsz23, tk23, a1, tsz33, show ((↑i : Int) < (↑l.length : Int)) = True from eq_true (by omega), tk33, tz33]; rfl) ?_)), ?_⟩
          refine seq_run okH2 rfl (by repeat (first | with_reducible exact runf_nil | refine runf_cons (by simp only [xstep, stepf, stepx, qev, St.ev, St.put, qload, cellsAt, qmk, C.cpy, TK.agg, qfieldAddr, liveR, C.cp, Z1, Z2, Z5, Z6, Z9, Z10, Z13, Z24, Z16, Z18, Z17, Z20, Z21, Z8, Z4, if_true, if_false, and_self, Z3, reduceCtorEq, Z7, Nat.add_zero, Z14, Z26, tsz3, tk3, tk33]; rfl) ?_)) ?_
          refine tri_block ?_
          refine seq_run okH2 rfl (by repeat (first | with_reducible exact runf_nil | refine runf_cons (by simp only [xstep, stepf, stepx, qev, St.ev, St.put, qint, qshift, isShift, qbin, constD, constC, Z1, Z2, Z5, Z6, Z4, Z11, if_true, if_false, decide_false, Z3, Z7, h1]; rfl) ?_)) ?_
          refine tri_cond (b := false) rfl (fun h => by cases h) (fun _ => ?_)
          refine seq_run okH2 rfl (by repeat (first | with_reducible exact runf_nil | refine runf_cons (by simp only [xstep, stepf, stepx, qev, St.ev, St.put, qint, qshift, isShift, qbin, constD, constC, Z1, Z2, Z5, Z6, Z4, Z11, if_true, if_false, Z3, Z7]; rfl) ?_)) ?_
          refine tri_cond rfl (fun a2 => ?_) (fun a2 => ?_)
          ·
            simp only [decide_eq_true_eq] at a2
            refine seq_run okH2 rfl (by repeat (first | with_reducible exact runf_nil | refine runf_cons (by simp only [xstep, stepf, stepx, qev, St.ev, St.put, D.cells, qload, cellsAt, qmk, C.cpy, TK.agg, qnil, qfieldAddr, qint, qshift, isShift, qbin, liveR, C.st, C.cp, C.dat, storeA, putCells, constD, constC, Z1, Z2, Z5, Z6, Z9, Z10, Z23, Z12, Z13, Z24, Z16, Z18, Z17, Z20, Z19, Z21, Z8, Z4, Z11, Nat.reduceAdd, if_true, if_false, and_self, decide_true, Z3, ne_eq, not_false_eq_true, reduceCtorEq, Nat.reduceLeDiff, Z7, implies_true, Z14, Z26, hq1, tsz3, tk80, tk3, a2, show IntKind.i64.wrap (↑(i + 1) : Int) = _ from wrap_i64 _ (by omega) (by omega)]; rfl) ?_)) ?_
            refine seq_run okH2 rfl (by repeat (first | with_reducible exact runf_nil | refine runf_cons (by simp only [xstep, stepf, stepx, qev, St.ev, St.put, D.cells, qload, cellsAt, qmk, C.cpy, TK.agg, qfieldAddr, liveR, C.st, C.cp, C.dat, storeA, putCells, constD, constC, Z1, Z2, Z5, Z6, Z9, Z10, Z23, Z12, Z15, Z13, Z24, Z16, Z18, Z17, Z20, Z19, Z21, Z8, Z4, Nat.reduceAdd, if_true, if_false, and_self, Z3, ne_eq, not_false_eq_true, reduceCtorEq, Nat.reduceLeDiff, Nat.le_refl, Nat.reduceBNe, Z7, implies_true, Z14, Z26, tk39, tsz39, tsz2, tsz3, tsz4, tsz9, tsz37, buildA, partsA, fillA, placeSt, tz39, tk33, tk9]; rfl) ?_)) ?_
            refine tri_ret (ends_ret (by simp only [outRes, resDs, resD, outD, outC, outCs, qload, cellsAt, qmk, C.cpy, TK.agg, C.cp, C.dat, Z1, Z2, Z9, Z10, Z15, Z13, Z24, Z16, Z18, Z17, Z20, Z21, Z8, Z4, Nat.reduceAdd, if_true, and_self, Z3, Z14, Z26, tk39, tsz39]; rfl) rfl (by simp) (by simp) ?_)
            simp only [Z12]
            (simp only [reduceIte, ↓reduceIte, Int.reduceEq, valueF, ht, valC, eq_false a0, a2] at hQ; with_reducible exact hQ)
          ·
            simp only [decide_eq_false_iff_not] at a2
            refine seq_run okH2 rfl (by repeat (first | with_reducible exact runf_nil | refine runf_cons (by simp only [xstep, stepf, stepx, qev, St.ev, St.put, qint, qshift, isShift, qbin, constD, constC, Z1, Z2, Z5, Z6, Z4, Z11, if_true, if_false, decide_false, Z3, Z7, a2]; rfl) ?_)) ?_
            refine tri_cond rfl (fun a3 => ?_) (fun a3 => ?_)
            ·
              simp only [decide_eq_true_eq] at a3
              refine seq_run okH2 rfl (by repeat (first | with_reducible exact runf_nil | refine runf_cons (by simp only [xstep, stepf, stepx, evsA, qev, St.ev, St.put, St.with, D.cells, D.cell, qload, cellsAt, qmk, C.cpy, TK.agg, qfieldAddr, liveR, C.st, C.cp, C.dat, storeA, putCells, Z1, Z2, Z5, Z6, Z9, Z10, Z12, Z15, Z13, Z24, Z16, Z18, Z17, Z20, Z19, Z21, Z8, Z4, Bool.and_true, Bool.true_and, Nat.reduceAdd, Nat.reduceEqDiff, if_true, if_false, and_self, decide_true, Z3, ne_eq, not_false_eq_true, reduceCtorEq, Nat.le_refl, Z7, implies_true, Z14, beq_self_eq_true, Z26, Bool.true_or, callP, callO, dedup, rootsD, rootsC, List.flatMap_cons, List.flatMap_nil, List.filterMap_cons, List.filterMap_nil, argDs, argD, argC, List.contains_nil, objsAt, objOf, List.idxOf?, List.findIdx?, List.findIdx?.go, setObjs, D.ni, D.ni1, C.ni, C.niRow, settle, settle1, settleC, settleCs, Z25, FsH2, hW, valC, tsz39, tsz9, tk33, a3, tk9]; rfl) ?_)) ?_
              refine tri_ret (ends_ret (by simp only [outRes, resDs, resD, outD, outC, outCs, qload, cellsAt, qmk, C.cpy, TK.agg, C.cp, C.dat, Z1, Z2, Z9, Z10, Z15, Z13, Z24, Z16, Z18, Z17, Z20, Z21, Z8, Z4, Nat.reduceAdd, if_true, and_self, Z3, Z14, Z26, tk39, tsz39]; rfl) rfl (by simp) (by simp) ?_)
              simp only [Z12]
              (simp only [reduceIte, ↓reduceIte, Int.reduceEq, valueF, ht, valC, eq_false a0, a3] at hQ; with_reducible exact hQ)
            ·
              simp only [decide_eq_false_iff_not] at a3
              refine tri_skip ?_
              show Tri _ _ _ _
              refine seq_run okH2 rfl (by repeat (first | with_reducible exact runf_nil | refine runf_cons (by simp only [xstep, stepf, stepx, evsA, qev, St.ev, St.put, St.with, D.cell, C.dat, Z1, Z2, Z5, Z6, Z9, Z10, Z12, Z15, Z13, Z16, Z18, Z8, Z4, Bool.and_true, Bool.true_and, Nat.reduceEqDiff, if_true, if_false, and_self, decide_false, Z3, Z7, Z14, beq_self_eq_true, Z26, Bool.true_or, callP, callO, dedup, rootsD, rootsC, List.flatMap_cons, List.flatMap_nil, List.filterMap_cons, List.filterMap_nil, argDs, argD, argC, List.contains_nil, objsAt, objOf, List.idxOf?, List.findIdx?, List.findIdx?.go, setObjs, D.ni, settle, settleDs, Z25, FsH2, hF, a3]; rfl) ?_)) ?_
              refine seq_run okH2 rfl (by repeat (first | with_reducible exact runf_nil | refine runf_cons (by simp only [xstep, stepf, stepx, St.ev, St.put, D.cells, C.st, C.dat, storeA, putCells, Z1, Z2, Z5, Z6, Z9, Z10, Z12, Z15, Z16, Z18, Z20, Z19, Z21, Z8, Z4, Nat.reduceAdd, if_true, and_self, Z3, ne_eq, not_false_eq_true, reduceCtorEq, Nat.le_refl, Nat.reduceBNe, Z7, implies_true, Z14, Z26, tk39, tsz39, tsz2, tsz3, tsz4, tsz9, tsz37, buildA, partsA, fillA, tz39]; rfl) ?_)) ?_
              refine tri_ret (ends_ret (by simp only [outRes, resDs, resD, outD, outC, outCs, qload, cellsAt, qmk, C.cpy, TK.agg, C.cp, C.dat, Z1, Z2, Z9, Z10, Z15, Z13, Z24, Z16, Z18, Z17, Z20, Z21, Z8, Z4, Nat.reduceAdd, if_true, and_self, Z3, Z14, Z26, tk39, tsz39]; rfl) rfl (by simp) (by simp) ?_)
              simp only [Z12]
              (simp only [reduceIte, ↓reduceIte, valueF, ht, h1, valC, val0, noText, eq_false a0, a2, a3] at hQ; with_reducible exact hQ)
  · have hno : l[i]? = none := List.getElem?_eq_none (by omega)
    refine seq_run okH2 rfl (by repeat (first | with_reducible exact runf_nil | refine runf_cons (by simp only [xstep, stepf, stepx, St.put, St.with, boxA, C.st, Z5, Z6, List.replicate, Z9, Z10, Z23, Z12, Z13, Z24, Z16, Z18, Z8, Z4, Nat.reduceAdd, Nat.reduceSub, if_true, Z3, Z14, Z26, paObj, tz39]; rfl) ?_)) ?_
    refine seq_in ?_
    refine seq_anyE mixed okH2 rfl (by kernel_rfl) ?_
    by_cases a0 : (0 ≤ bad)
    ·
      refine ⟨_, (by repeat (first | with_reducible exact runf_nil | refine runf_cons (by simp only [xstep, stepf, stepx, qev, St.ev, St.put, qload, cellsAt, qmk, C.cpy, TK.agg, qnil, qfieldAddr, qpick, qint, qshift, isEq, isShift, qbin, qlen, qbuiltin, liveR, C.cp, constD, constC, Z1, Z2, Z5, Z6, Z9, Z10, Z13, Z24, Z16, Z18, Z17, Z20, Z19, Z21, Z8, Option.bind_none, Z4, Z11, if_true, if_false, and_self, decide_true, cond_true, Z22, Z3, reduceCtorEq, Z7, Z14, Z26, tsz3, tk80, tk3, eq_true a0]; rfl) ?_)), ?_⟩
      refine tri_cond (b := true) rfl (fun _ => ?_) (fun h => by cases h)
      refine seq_run okH2 rfl (by repeat (first | with_reducible exact runf_nil | refine runf_cons (by simp only [xstep, stepf, stepx, evsA, qev, St.ev, St.put, St.with, D.cell, C.dat, Z1, Z2, Z5, Z6, Z9, Z10, Z12, Z15, Z13, Z16, Z18, Z8, Z4, Bool.and_true, Bool.true_and, Nat.reduceEqDiff, if_true, if_false, and_self, Z3, Z7, Z14, beq_self_eq_true, Z26, Bool.true_or, callP, callO, dedup, rootsD, rootsC, List.flatMap_cons, List.flatMap_nil, List.filterMap_cons, List.filterMap_nil, argDs, argD, argC, List.contains_nil, objsAt, objOf, List.idxOf?, List.findIdx?, List.findIdx?.go, setObjs, D.ni, settle, settleDs, Z25, FsH2, hF]; rfl) ?_)) ?_
      refine seq_run okH2 rfl (by repeat (first | with_reducible exact runf_nil | refine runf_cons (by simp only [xstep, stepf, stepx, St.ev, St.put, D.cells, C.st, C.dat, storeA, putCells, Z1, Z2, Z5, Z6, Z9, Z10, Z12, Z15, Z16, Z18, Z20, Z19, Z21, Z8, Z4, Nat.reduceAdd, if_true, and_self, Z3, ne_eq, not_false_eq_true, reduceCtorEq, Nat.le_refl, Nat.reduceBNe, Z7, implies_true, Z14, Z26, tk39, tsz39, tsz2, tsz3, tsz4, tsz9, tsz37, buildA, partsA, fillA, tz39]; rfl) ?_)) ?_
      refine tri_ret (ends_ret (by simp only [outRes, resDs, resD, outD, outC, outCs, qload, cellsAt, qmk, C.cpy, TK.agg, C.cp, C.dat, Z1, Z2, Z9, Z10, Z15, Z13, Z24, Z16, Z18, Z17, Z20, Z21, Z8, Z4, Nat.reduceAdd, if_true, and_self, Z3, Z14, Z26, tk39, tsz39]; rfl) rfl (by simp) (by simp) ?_)
      simp only [Z12]
      (simp only [reduceIte, ↓reduceIte, valueF, valC, val0, noText, eq_true a0] at hQ; with_reducible exact hQ)
    ·
      refine ⟨_, (by repeat (first | with_reducible exact runf_nil | refine runf_cons (by simp only [xstep, stepf, stepx, qev, St.ev, St.put, qload, cellsAt, qmk, C.cpy, TK.agg, qnil, qfieldAddr, qpick, qint, qshift, isShift, qbin, qlen, qbuiltin, liveR, C.cp, constD, constC, Z1, Z2, Z5, Z6, Z9, Z10, Z13, Z24, Z16, Z18, Z17, Z20, Z19, Z21, Z8, Z4, Z11, if_true, if_false, and_self, decide_false, cond_false, Z22, Z3, reduceCtorEq, Z7, Nat.add_zero, Z14, Z26, hlm, tsz3, List.length_map, tk80, tk3, eq_false a0, tsz23, tk23]; rfl) ?_)), ?_⟩
      refine tri_cond rfl (fun a1 => ?_) (fun a1 => ?_)
      ·
        simp only [decide_eq_true_eq] at a1
        refine seq_run okH2 rfl (by repeat (first | with_reducible exact runf_nil | refine runf_cons (by simp only [xstep, stepf, stepx, evsA, qev, St.ev, St.put, St.with, D.cell, C.dat, Z1, Z2, Z5, Z6, Z9, Z10, Z12, Z15, Z13, Z16, Z18, Z8, Z4, Bool.and_true, Bool.true_and, Nat.reduceEqDiff, if_true, if_false, and_self, decide_true, Z3, Z7, Z14, beq_self_eq_true, Z26, Bool.true_or, callP, callO, dedup, rootsD, rootsC, List.flatMap_cons, List.flatMap_nil, List.filterMap_cons, List.filterMap_nil, argDs, argD, argC, List.contains_nil, objsAt, objOf, List.idxOf?, List.findIdx?, List.findIdx?.go, setObjs, D.ni, settle, settleDs, Z25, FsH2, hF, a1]; rfl) ?_)) ?_
        refine seq_run okH2 rfl (by repeat (first | with_reducible exact runf_nil | refine runf_cons (by simp only [xstep, stepf, stepx, St.ev, St.put, D.cells, C.st, C.dat, storeA, putCells, Z1, Z2, Z5, Z6, Z9, Z10, Z12, Z15, Z16, Z18, Z20, Z19, Z21, Z8, Z4, Nat.reduceAdd, if_true, and_self, Z3, ne_eq, not_false_eq_true, reduceCtorEq, Nat.le_refl, Nat.reduceBNe, Z7, implies_true, Z14, Z26, tk39, tsz39, tsz2, tsz3, tsz4, tsz9, tsz37, buildA, partsA, fillA, tz39]; rfl) ?_)) ?_
        refine tri_ret (ends_ret (by simp only [outRes, resDs, resD, outD, outC, outCs, qload, cellsAt, qmk, C.cpy, TK.agg, C.cp, C.dat, Z1, Z2, Z9, Z10, Z15, Z13, Z24, Z16, Z18, Z17, Z20, Z21, Z8, Z4, Nat.reduceAdd, if_true, and_self, Z3, Z14, Z26, tk39, tsz39]; rfl) rfl (by simp) (by simp) ?_)
        simp only [Z12]
        (simp only [reduceIte, ↓reduceIte, valueF, hno, valC, val0, noText, eq_false a0] at hQ; with_reducible exact hQ)
      ·
        simp only [decide_eq_false_iff_not] at a1
        (exfalso; omega)
end Go.Dl
