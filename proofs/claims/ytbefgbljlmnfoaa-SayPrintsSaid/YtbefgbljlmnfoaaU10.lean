/- The walks of float, word, value; The walks of word, value; The walk of names; 'Dl', part Zq: structs by value whose slices nobody will change. -/
import Derived.Test.YtbefgbljlmnfoaaU09
set_option linter.all false
namespace Go.Dl
open Go.RowKit
open Go.Proofs
set_option linter.unusedSimpArgs false
set_option linter.unusedVariables false
abbrev Val := Int × Bool × Int × Int × ByteArray
def valC (v : Val) : List C := [.v (.int .i64 v.1), .v (.bool v.2.1), .v (.int .i64 v.2.2.1), .v (.int .u64 v.2.2.2.1), .v (.string v.2.2.2.2)]
def val0 : Val := (0, false, 0, 0, noText)
def lpar : ByteArray := ⟨#[40]⟩
def rpar : ByteArray := ⟨#[41]⟩
def orw (b d : Int) : Int := IntKind.u64.wrap ((BitVec.ofInt IntKind.u64.bits (IntKind.u64.wrap (b * 2 ^ min 4 IntKind.u64.bits)) ||| BitVec.ofInt IntKind.u64.bits (IntKind.u64.wrap d)).toNat)
/-- The bits that signs are. -/
def bitsN (n : Nat) : List UInt8 → Int → Option Int
 | [], b => some b
 | c :: cs, b => if nibF c.toNat < 0 then none else if (n : Int) = 16 then bitsN n cs (orw b (nibF c.toNat)) else none
def flA (l : List Tok) (i : Nat) (e bad : Int) : Nat × Int := markF l i e bad lpar
def flB (l : List Tok) (i : Nat) (e bad : Int) : ByteArray × Nat × Int := takeF l (flA l i e bad).1 e (flA l i e bad).2 2
def floatF (l : List Tok) (i : Nat) (e bad : Int) : Val × Nat × Int :=
 if 0 ≤ (flB l i e bad).2.2 then (val0, (flB l i e bad).2.1, (flB l i e bad).2.2)
 else match bitsN (flB l i e bad).1.size (flB l i e bad).1.data.toList 0 with
  | none => (val0, (flA l i e bad).1, failF l (flA l i e bad).1 e (flB l i e bad).2.2)
  | some b => if strEq (flB l i e bad).1 noText = true then ((3, false, 0, b, noText), markF l (flA l i e bad).1 e (failF l (flA l i e bad).1 e (flB l i e bad).2.2) rpar)
   else ((3, false, 0, b, noText), markF l (flB l i e bad).2.1 e (flB l i e bad).2.2 rpar)
theorem bits_drop {s : ByteArray} {j : Nat} (h : j < s.size) : s.data.toList.drop j = s.data.toList.getD j 0 :: s.data.toList.drop (j + 1) := by
 have h' : j < s.data.toList.length := by simpa using h
 rw [List.drop_eq_getElem_cons h']
 congr 1
 simp [List.getD, List.getElem?_eq_getElem h']
theorem bits_no {s : ByteArray} {j : Nat} {b r : Int} {z : Option Int} (h : j < s.size) (hr : nibF (byU s j).toNat = r) (hn : r < 0 ∨ ¬ (s.size : Int) = 16) (hz : bitsN s.size (s.data.toList.drop j) b = z) : z = none := by
 rw [bits_drop h] at hz
 subst hz
 show (if nibF (byU s j).toNat < 0 then _ else _) = none
 rw [hr]
 rcases hn with hn | hn
 · rw [if_pos hn]
 · rw [if_neg hn]; split <;> rfl
theorem bits_go {s : ByteArray} {j : Nat} {b : Int} {z : Option Int} (h : j < s.size) (hr : ¬ nibF (byU s j).toNat < 0) (hn : (s.size : Int) = 16) (hz : bitsN s.size (s.data.toList.drop j) b = z) : bitsN s.size (s.data.toList.drop (j + 1)) (orw b (nibF (byU s j).toNat)) = z := by
 rw [bits_drop h] at hz
 rw [← hz]
 show _ = (if nibF (byU s j).toNat < 0 then _ else _)
 rw [if_neg hr, if_pos hn]; rfl
theorem nib_at (x : UInt8) : pNib [.c (.v (.int .u8 x.toNat))] = some (.c (.v (.int .i64 (nibF x.toNat)))) :=
 Ym (by
  intro a b h
  simp only [List.cons.injEq, D.c.injEq, C.v.injEq, Value.int.injEq, and_true, true_and] at h
  have : a = b := by apply UInt8.toNat_inj.1; omega
  subst this; rfl) x trivial rfl
noncomputable def FsG1 : Fs := { pure := fun k => if k = 84 then some pNib else none, objs := fun k => if k = 62 then some oFail else if k = 68 then some oTakeP else if k = 70 then some oMark else none }
theorem okG1 : FsOK Try.prog FsG1 := by
 refine ⟨fun k f h => ?_, fun k f h => ?_⟩
 · simp only [FsG1] at h
   split at h
   · rename_i hk; subst hk; cases h; exact ⟨by kernel_rfl, meets84⟩
   · cases h
 · simp only [FsG1] at h
   split at h
   · rename_i hk; subst hk; cases h; exact ⟨by kernel_rfl, meets62⟩
   split at h
   · rename_i hk; subst hk; cases h; exact ⟨by kernel_rfl, meets68⟩
   split at h
   · rename_i hk; subst hk; cases h; exact ⟨by kernel_rfl, meets70⟩
   · cases h
noncomputable def oFloat := famO (fun x : List Tok × Nat × Int × Int => paPre x.1 x.2.1) (fun x => ([.c (.p 0 0 0)], [paObj x.1 x.2.1 x.2.2.1 x.2.2.2]))
 (fun x => (.agg (valC (floatF x.1 x.2.1 x.2.2.1 x.2.2.2).1), [paObj x.1 (floatF x.1 x.2.1 x.2.2.1 x.2.2.2).2.1 x.2.2.1 (floatF x.1 x.2.1 x.2.2.1 x.2.2.2).2.2]))
theorem meets77 : Meets Try.prog 77 (detS oFloat) := by
 refine meets_famO (show Try.prog.funcs[77]? = some Try.f77 by kernel_rfl) rfl (n := 65) rfl (rs := [ResultVar.cell 2 39]) rfl ?_
 rintro ⟨l, i, e, bad⟩ ⟨hl, hi, hsz⟩ Q hQ
 dsimp only at hl hi hsz hQ
 simp only [paObj] at hQ
 have hM := mark_at hl i e bad lpar hi
 have hM' : oMark [.c (.p 0 0 0), .c (.v (.string ⟨#[40]⟩))] _ = _ := hM
 have hA : (flA l i e bad).1 ≤ l.length := markF_le hi
 have hT := take_at hl (flA l i e bad).1 e (flA l i e bad).2 2 hA
 have hB : (flB l i e bad).2.1 ≤ l.length := takeF_le hA
 have hBs : (flB l i e bad).1.size ≤ 1000000 := takeF_size hsz
 have hF := fail_at hl (flA l i e bad).1 e (flB l i e bad).2.2 hA
 have hM2 := mark_at hl (flA l i e bad).1 e (failF l (flA l i e bad).1 e (flB l i e bad).2.2) rpar hA
 have hM3 := mark_at hl (flB l i e bad).2.1 e (flB l i e bad).2.2 rpar hB
 have hM2' : oMark [.c (.p 0 0 0), .c (.v (.string ⟨#[41]⟩))] _ = _ := hM2
 have hM3' : oMark [.c (.p 0 0 0), .c (.v (.string ⟨#[41]⟩))] _ = _ := hM3
 change oMark _ _ = some (.t [], [⟨4, [[.s false 3 (l.map tokC), .v (.int .i64 (flA l i e bad).1), .v (.int .i64 e), .v (.int .i64 (flA l i e bad).2)]]⟩]) at hM'
 change oTakeP _ _ = some (.c (.v (.string (flB l i e bad).1)), [⟨4, [[.s false 3 (l.map tokC), .v (.int .i64 (flB l i e bad).2.1), .v (.int .i64 e), .v (.int .i64 (flB l i e bad).2.2)]]⟩]) at hT
 refine Y3 okG1 rfl (by repeat first | with_reducible exact Y2 | refine Y1 (by simp only [Y5, Y4, Y6, St.put, St.with, boxA, C.st, List.replicate, Nat.reduceAdd, Nat.reduceSub, if_true, paObj, tz39, ZA]; rfl) ?_) ?_
 refine Y3 okG1 rfl (by repeat first | with_reducible exact Y2 | refine Y1 (by simp only [Y5, Y4, Y6, evsA, qev, St.ev, St.put, St.with, D.cell, C.cpy, C.cp, C.dat, Y8, Y7, Bool.and_true, Bool.true_and, Nat.reduceEqDiff, if_true, if_false, beq_self_eq_true, Bool.true_or, callP, callO, dedup, rootsD, rootsC, List.flatMap_cons, List.flatMap_nil, List.filterMap_cons, List.filterMap_nil, Yg, argD, argC, List.contains_nil, objsAt, objOf, List.idxOf?, List.findIdx?, List.findIdx?.go, setObjs, D.ni, settle, settleDs, FsG1, hM', ZA]; rfl) ?_) ?_
 refine Y3 okG1 rfl (by repeat first | with_reducible exact Y2 | refine Y1 (by simp only [Y5, Y4, Y6, qev, St.ev, St.put, qload, Y9, qmk, C.cpy, TK.agg, qnil, Yb, liveR, C.cp, if_true, if_false, reduceCtorEq, tk80, tsz3, tk3, ZA]; rfl) ?_) ?_
 refine Y3 okG1 rfl (by repeat first | with_reducible exact Y2 | refine Y1 (by simp only [Y5, Y4, Y6, evsA, qev, St.ev, St.put, St.with, D.cell, C.cpy, C.cp, C.dat, Y8, Y7, Bool.and_true, Bool.true_and, Nat.reduceEqDiff, if_true, if_false, beq_self_eq_true, Bool.true_or, callP, callO, dedup, rootsD, rootsC, List.flatMap_cons, List.flatMap_nil, List.filterMap_cons, List.filterMap_nil, Yg, argD, argC, List.contains_nil, objsAt, objOf, List.idxOf?, List.findIdx?, List.findIdx?.go, setObjs, D.ni, D.ni1, C.ni, settle, settle1, settleC, FsG1, hT, ZA]; rfl) ?_) ?_
 refine seq_in ?_
 refine Y3 okG1 rfl (by repeat first | with_reducible exact Y2 | refine Y1 (by simp only [Y5, Y4, Y6, qev, St.ev, St.put, qload, Y9, qmk, C.cpy, TK.agg, qnil, Yb, qint, Yc, Ya, qbin, liveR, C.cp, Y8, Y7, if_true, if_false, reduceCtorEq, tk80, tsz3, tk3, ZA]; rfl) ?_) ?_
 refine Yf rfl (fun a0 => ?_) (fun a0 => ?_)
 ·
  simp only [decide_eq_true_eq] at a0
  refine Y3 okG1 rfl (by repeat first | with_reducible exact Y2 | refine Y1 (by simp only [Y5, Y4, Y6, St.ev, St.put, D.cells, C.st, C.dat, storeA, putCells, Nat.reduceAdd, if_true, decide_true, ne_eq, reduceCtorEq, Nat.le_refl, Nat.reduceBNe, implies_true, buildA, partsA, fillA, tz39, tsz3, a0, tk39, tsz4, tsz2, tsz37, tsz9, tsz39, ZA]; rfl) ?_) ?_
  refine Yo (Yp (by simp only [outRes, Yi, resD, outD, outC, outCs, qload, Y9, qmk, C.cpy, TK.agg, C.cp, C.dat, Nat.reduceAdd, if_true, tk39, tsz39, ZA]; rfl) rfl (by simp) (by simp) ?_)
  simp only [Z12]
  (simp only [reduceIte, ↓reduceIte, floatF, valC, val0, noText, a0] at hQ; with_reducible exact hQ)
 ·
  simp only [decide_eq_false_iff_not] at a0
  refine Ye ?_
  refine Y3 okG1 rfl (by repeat first | with_reducible exact Y2 | refine Y1 (by simp only [Y5, Y4, Y6, St.ev, St.put, St.with, D.cells, boxA, C.st, C.dat, storeA, putCells, Y8, Y7, Nat.reduceAdd, if_true, decide_false, ne_eq, reduceCtorEq, Nat.reduceLeDiff, Nat.le_refl, Nat.reduceBNe, implies_true, buildA, partsA, fillA, placeSt, tz39, tsz3, a0, tk39, tsz4, tsz2, tsz37, tsz9, tsz39, ZA]; rfl) ?_) ?_
  refine seq_in ?_
  refine Y3 okG1 rfl (by repeat first | with_reducible exact Y2 | refine Y1 (by simp only [Y5, Y4, Y6, qev, St.ev, St.put, qlen, qbuiltin, Y8, Y7, tk9, ZA]; rfl) ?_) ?_
  refine tri_block ?_
  refine tri_loop_le (fun n A => ∃ (j : Nat) (b : Int), j ≤ (flB l i e bad).1.size ∧ n = (flB l i e bad).1.size - j ∧ bitsN (flB l i e bad).1.size ((flB l i e bad).1.data.toList.drop j) b = bitsN (flB l i e bad).1.size (flB l i e bad).1.data.toList 0 ∧ A = ⟨[.c (.p 0 0 0), .o, .c (.p 1 0 0), .c (.v (.int .i64 (flA l i e bad).1)), .c (.v (.string (flB l i e bad).1)), .c (.p 2 0 0), .o, .o, .o, .o, .o, .o, .o, .o, .o, .o, .o, .o, .o, .o, .o, .o, .o, .o, .c (.v (.int .i64 (flB l i e bad).1.size)), .c (.v (.int .i64 (j : Nat))), .o, .o, .o, .o, .o, .o, .o, .o, .o, .o, .o, .o, .o, .o, .o, .o, .o, .o, .o, .o, .o, .o, .o, .o, .o, .o, .o, .o, .o, .o, .o, .o, .o, .o, .o, .o, .o, .o, .o], [some ⟨false, 4, [[.s false 3 (l.map tokC), .v (.int .i64 (flB l i e bad).2.1), .v (.int .i64 e), .v (.int .i64 (flB l i e bad).2.2)]]⟩, some ⟨false, 5, [valC val0]⟩, some ⟨false, 5, [[.v (.int .i64 3), .v (.bool false), .v (.int .i64 0), .v (.int .u64 b), .v (.string ⟨#[]⟩)]]⟩]⟩) (flB l i e bad).1.size (B := ⟨[.c (.p 0 0 0), .o, .c (.p 1 0 0), .c (.v (.int .i64 (flA l i e bad).1)), .c (.v (.string (flB l i e bad).1)), .c (.p 2 0 0), .o, .o, .o, .o, .o, .o, .o, .o, .o, .o, .o, .o, .o, .o, .o, .o, .o, .o, .c (.v (.int .i64 (flB l i e bad).1.size)), .c (.v (.int .i64 (0 : Nat))), .o, .o, .o, .o, .o, .o, .o, .o, .o, .o, .o, .o, .o, .o, .o, .o, .o, .o, .o, .o, .o, .o, .o, .o, .o, .o, .o, .o, .o, .o, .o, .o, .o, .o, .o, .o, .o, .o, .o], [some ⟨false, 4, [[.s false 3 (l.map tokC), .v (.int .i64 (flB l i e bad).2.1), .v (.int .i64 e), .v (.int .i64 (flB l i e bad).2.2)]]⟩, some ⟨false, 5, [valC val0]⟩, some ⟨false, 5, [[.v (.int .i64 3), .v (.bool false), .v (.int .i64 0), .v (.int .u64 0), .v (.string ⟨#[]⟩)]]⟩]⟩) ⟨by repeat (first | exact .nil | refine .same ?_ | refine .o ?_), rfl⟩ ⟨0, 0, by omega, by omega, rfl, rfl⟩ ?_
  rintro n A ⟨j, b, hj, rfl, hb, rfl⟩
  have hq1 : (j : Int) + 1 = ((j + 1 : Nat) : Int) := by omega
  have hb0 : (flB l i e bad).1.data.toList.getD j 0 = byU (flB l i e bad).1 j := rfl
  simp only [valC, val0, noText]
  refine Y3 okG1 rfl (by repeat first | with_reducible exact Y2 | refine Y1 (by simp only [Y5, Y4, Y6, qev, St.ev, St.put, qint, Yc, Ya, qbin, if_true, if_false, ZA]; rfl) ?_) ?_
  refine seq_in (Yf rfl (fun a1 => ?_) (fun a1 => ?_))
  ·
   simp only [decide_eq_true_eq] at a1
   refine Ye ?_
   refine seq_in (tri_block ?_)
   refine Y3 okG1 rfl (by repeat first | with_reducible exact Y2 | refine Y1 (by simp only [Y5, Y4, Y6, qev, St.ev, St.put, decide_true, a1, ZA]; rfl) ?_) ?_
   refine Y3 okG1 rfl (by repeat first | with_reducible exact Y2 | refine Y1 (by simp only [Y5, Y4, Y6, evsA, qev, St.ev, St.put, St.with, D.int, C.cpy, qindex, C.cp, C.dat, if_true, Bool.or_true, callP, Yg, argD, argC, D.ni, D.ni1, C.ni, settle, settle1, settleC, FsG1, Int.toNat_natCast, Int.natCast_nonneg, hb0, nib_at, tk9, a1, ZA]; rfl) ?_) ?_
   refine seq_in ?_
   by_cases a2 : (nibF (↑(byU (flB l i e bad).fst j).toNat : Int) < 0)
   ·
    refine Y3 okG1 rfl (by repeat first | with_reducible exact Y2 | refine Y1 (by simp only [Y5, Y4, Y6, qev, St.ev, St.put, qpick, qint, Yc, isEq, qeq, Ya, qbin, qlen, qbuiltin, Y8, Y7, if_true, if_false, decide_true, cond_true, reduceCtorEq, tk3, eq_true a2, ZA]; rfl) ?_) ?_
    refine Yf (b := true) rfl (fun _ => ?_) (fun h => by cases h)
    refine Y3 okG1 rfl (by repeat first | with_reducible exact Y2 | refine Y1 (by simp only [Y5, Y4, Y6, qev, St.ev, St.put, D.cells, qnil, Yb, liveR, C.st, C.dat, storeA, putCells, Nat.reduceAdd, if_true, if_false, ne_eq, reduceCtorEq, Nat.reduceLeDiff, implies_true, tk80, tsz3, ZA]; rfl) ?_) ?_
    refine Y3 okG1 rfl (by repeat first | with_reducible exact Y2 | refine Y1 (by simp only [Y5, Y4, Y6, evsA, qev, St.ev, St.put, St.with, D.cell, C.dat, Bool.and_true, Bool.true_and, Nat.reduceEqDiff, if_true, if_false, beq_self_eq_true, Bool.true_or, callP, callO, dedup, rootsD, rootsC, List.flatMap_cons, List.flatMap_nil, List.filterMap_cons, List.filterMap_nil, Yg, argD, argC, List.contains_nil, objsAt, objOf, List.idxOf?, List.findIdx?, List.findIdx?.go, setObjs, D.ni, settle, settleDs, FsG1, hF, ZA]; rfl) ?_) ?_
    refine Y3 okG1 rfl (by repeat first | with_reducible exact Y2 | refine Y1 (by simp only [Y5, Y4, Y6, St.ev, St.put, D.cells, C.st, C.dat, storeA, putCells, Nat.reduceAdd, if_true, ne_eq, reduceCtorEq, Nat.le_refl, Nat.reduceBNe, implies_true, buildA, partsA, fillA, tz39, tsz3, tk39, tsz4, tsz2, tsz37, tsz9, tsz39, ZA]; rfl) ?_) ?_
    refine Yo (Yp (by simp only [outRes, Yi, resD, outD, outC, outCs, qload, Y9, qmk, C.cpy, TK.agg, C.cp, C.dat, Nat.reduceAdd, if_true, tk39, tsz39, ZA]; rfl) rfl (by simp) (by simp) ?_)
    simp only [Z12]
    (have hn := bits_no (by omega) rfl (by omega) hb; simp only [reduceIte, ↓reduceIte, floatF, valC, val0, noText, a0, hn] at hQ; with_reducible exact hQ)
   ·
    refine Y3 okG1 rfl (by repeat first | with_reducible exact Y2 | refine Y1 (by simp only [Y5, Y4, Y6, qev, St.ev, St.put, qpick, qint, Yc, Ya, qbin, qlen, qbuiltin, Y8, Y7, if_true, if_false, decide_false, cond_false, tk9, eq_false a2, ZA]; rfl) ?_) ?_
    refine Yf rfl (fun a3 => ?_) (fun a3 => ?_)
    ·
     simp only [decide_eq_false_iff_not, Bool.not_eq_true'] at a3
     refine Y3 okG1 rfl (by repeat first | with_reducible exact Y2 | refine Y1 (by simp only [Y5, Y4, Y6, qev, St.ev, St.put, D.cells, qnil, Yb, liveR, C.st, C.dat, storeA, putCells, Nat.reduceAdd, if_true, if_false, decide_false, Bool.not_false, ne_eq, reduceCtorEq, Nat.reduceLeDiff, implies_true, tk80, tsz3, a3, ZA]; rfl) ?_) ?_
     refine Y3 okG1 rfl (by repeat first | with_reducible exact Y2 | refine Y1 (by simp only [Y5, Y4, Y6, evsA, qev, St.ev, St.put, St.with, D.cell, C.dat, Bool.and_true, Bool.true_and, Nat.reduceEqDiff, if_true, if_false, beq_self_eq_true, Bool.true_or, callP, callO, dedup, rootsD, rootsC, List.flatMap_cons, List.flatMap_nil, List.filterMap_cons, List.filterMap_nil, Yg, argD, argC, List.contains_nil, objsAt, objOf, List.idxOf?, List.findIdx?, List.findIdx?.go, setObjs, D.ni, settle, settleDs, FsG1, hF, ZA]; rfl) ?_) ?_
     refine Y3 okG1 rfl (by repeat first | with_reducible exact Y2 | refine Y1 (by simp only [Y5, Y4, Y6, St.ev, St.put, D.cells, C.st, C.dat, storeA, putCells, Nat.reduceAdd, if_true, ne_eq, reduceCtorEq, Nat.le_refl, Nat.reduceBNe, implies_true, buildA, partsA, fillA, tz39, tsz3, tk39, tsz4, tsz2, tsz37, tsz9, tsz39, ZA]; rfl) ?_) ?_
     refine Yo (Yp (by simp only [outRes, Yi, resD, outD, outC, outCs, qload, Y9, qmk, C.cpy, TK.agg, C.cp, C.dat, Nat.reduceAdd, if_true, tk39, tsz39, ZA]; rfl) rfl (by simp) (by simp) ?_)
     simp only [Z12]
     (have hn := bits_no (by omega) rfl (by omega) hb; simp only [reduceIte, ↓reduceIte, floatF, valC, val0, noText, a0, hn] at hQ; with_reducible exact hQ)
    ·
     simp only [decide_eq_true_eq, Bool.not_eq_false'] at a3
     refine Ye ?_
     refine Yk okG1 rfl (by repeat first | with_reducible exact Y2 | refine Y1 (by simp only [Y5, Y4, Y6, qev, St.ev, St.put, D.cells, qload, Y9, qmk, C.cpy, TK.agg, Yb, qint, Yc, Ya, qbin, qconv, liveR, C.st, C.cp, C.dat, storeA, putCells, Y8, Y7, Nat.reduceAdd, if_true, if_false, decide_true, Bool.not_true, ne_eq, reduceCtorEq, Int.reduceLT, Int.reduceToNat, Nat.reduceLeDiff, implies_true, tk3, tk39, tsz37, a3, tk37, ZA]; rfl) ?_) ?_
     show Tri _ _ _ _
     refine Yk okG1 rfl (by repeat first | with_reducible exact Y2 | refine Y1 (by simp only [Y5, Y4, Y6, qev, St.ev, St.put, qint, Yc, Ya, qbin, Y8, Y7, if_true, if_false, hq1, show IntKind.i64.wrap (↑(j + 1) : Int) = _ from wrap_i64 _ (by omega) (by omega), ZA]; rfl) ?_) ?_
     (have h16 : ((flB l i e bad).1.size : Int) = 16 := (by omega); have hn := bits_go (by omega) (by omega) (by omega) hb; exact ⟨(flB l i e bad).1.size - (j + 1), by omega, ⟨[.c (.p 0 0 0), .o, .c (.p 1 0 0), .c (.v (.int .i64 (flA l i e bad).1)), .c (.v (.string (flB l i e bad).1)), .c (.p 2 0 0), .o, .o, .o, .o, .o, .o, .o, .o, .o, .o, .o, .o, .o, .o, .o, .o, .o, .o, .c (.v (.int .i64 16)), .c (.v (.int .i64 (j + 1 : Nat))), .o, .o, .o, .o, .o, .o, .o, .o, .o, .o, .o, .o, .o, .o, .o, .o, .o, .o, .o, .o, .o, .o, .o, .o, .o, .o, .o, .o, .o, .o, .o, .o, .o, .o, .o, .o, .o, .o, .o], [some ⟨false, 4, [[.s false 3 (l.map tokC), .v (.int .i64 (flB l i e bad).2.1), .v (.int .i64 e), .v (.int .i64 (flB l i e bad).2.2)]]⟩, some ⟨false, 5, [valC val0]⟩, some ⟨false, 5, [[.v (.int .i64 3), .v (.bool false), .v (.int .i64 0), .v (.int .u64 (orw b (nibF (byU (flB l i e bad).1 j).toNat))), .v (.string ⟨#[]⟩)]]⟩]⟩, ⟨by repeat (first | exact .nil | refine .same ?_ | refine .o ?_), rfl⟩, j + 1, (orw b (nibF (byU (flB l i e bad).1 j).toNat)), by omega, rfl, hn, (by simp only [h16, valC, val0, noText])⟩)
  ·
   simp only [decide_eq_false_iff_not] at a1
   refine tri_exit ?_
   show Tri _ _ _ _
   refine seq_in ?_
   refine Y3 okG1 rfl (by repeat first | with_reducible exact Y2 | refine Y1 (by simp only [Y5, Y4, Y6, qev, St.ev, St.put, qstr, qbin, Y8, Y7, decide_false, a1, ZA]; rfl) ?_) ?_
   refine Yf rfl (fun a4 => ?_) (fun a4 => ?_)
   ·
    refine Y3 okG1 rfl (by repeat first | with_reducible exact Y2 | refine Y1 (by simp only [Y5, Y4, Y6, qev, St.ev, St.put, D.cells, qnil, Yb, liveR, C.st, C.dat, storeA, putCells, Nat.reduceAdd, if_true, if_false, ne_eq, reduceCtorEq, Nat.reduceLeDiff, implies_true, tk80, tsz3, a4, ZA]; rfl) ?_) ?_
    refine Yk okG1 rfl (by repeat first | with_reducible exact Y2 | refine Y1 (by simp only [Y5, Y4, Y6, evsA, qev, St.ev, St.put, St.with, D.cell, C.dat, Bool.and_true, Bool.true_and, Nat.reduceEqDiff, if_true, if_false, beq_self_eq_true, Bool.true_or, callP, callO, dedup, rootsD, rootsC, List.flatMap_cons, List.flatMap_nil, List.filterMap_cons, List.filterMap_nil, Yg, argD, argC, List.contains_nil, objsAt, objOf, List.idxOf?, List.findIdx?, List.findIdx?.go, setObjs, D.ni, settle, settleDs, FsG1, hF, ZA]; rfl) ?_) ?_
    show Tri _ _ _ _
    refine Y3 okG1 rfl (by repeat first | with_reducible exact Y2 | refine Y1 (by simp only [Y5, Y4, Y6, evsA, qev, St.ev, St.put, St.with, D.cell, C.cpy, C.cp, C.dat, Y8, Y7, Bool.and_true, Bool.true_and, Nat.reduceEqDiff, if_true, if_false, beq_self_eq_true, Bool.true_or, callP, callO, dedup, rootsD, rootsC, List.flatMap_cons, List.flatMap_nil, List.filterMap_cons, List.filterMap_nil, Yg, argD, argC, List.contains_nil, objsAt, objOf, List.idxOf?, List.findIdx?, List.findIdx?.go, setObjs, D.ni, settle, settleDs, FsG1, hM2', ZA]; rfl) ?_) ?_
    refine Y3 okG1 rfl (by repeat first | with_reducible exact Y2 | refine Y1 (by simp only [Y5, Y4, Y6, qev, St.ev, St.put, D.cells, qload, Y9, qmk, C.cpy, TK.agg, C.st, C.cp, C.dat, storeA, putCells, Nat.reduceAdd, if_true, ne_eq, reduceCtorEq, Nat.le_refl, implies_true, tk39, tsz39, ZA]; rfl) ?_) ?_
    refine Yo (Yp (by simp only [outRes, Yi, resD, outD, outC, outCs, qload, Y9, qmk, C.cpy, TK.agg, C.cp, C.dat, Nat.reduceAdd, if_true, tk39, tsz39, ZA]; rfl) rfl (by simp) (by simp) ?_)
    simp only [Z12]
    (have hn : bitsN (flB l i e bad).1.size (flB l i e bad).1.data.toList 0 = some b := (by rw [← hb, List.drop_of_length_le (by simp; omega)]; rfl); simp only [reduceIte, ↓reduceIte, floatF, valC, noText, a0, a4, hn] at hQ; with_reducible exact hQ)
   ·
    refine Ye ?_
    refine Y3 okG1 rfl (by repeat first | with_reducible exact Y2 | refine Y1 (by simp only [Y5, Y4, Y6, evsA, qev, St.ev, St.put, St.with, D.cell, C.cpy, C.cp, C.dat, Y8, Y7, Bool.and_true, Bool.true_and, Nat.reduceEqDiff, if_true, if_false, beq_self_eq_true, Bool.true_or, callP, callO, dedup, rootsD, rootsC, List.flatMap_cons, List.flatMap_nil, List.filterMap_cons, List.filterMap_nil, Yg, argD, argC, List.contains_nil, objsAt, objOf, List.idxOf?, List.findIdx?, List.findIdx?.go, setObjs, D.ni, settle, settleDs, FsG1, hM3', a4, ZA]; rfl) ?_) ?_
    refine Y3 okG1 rfl (by repeat first | with_reducible exact Y2 | refine Y1 (by simp only [Y5, Y4, Y6, qev, St.ev, St.put, D.cells, qload, Y9, qmk, C.cpy, TK.agg, C.st, C.cp, C.dat, storeA, putCells, Nat.reduceAdd, if_true, ne_eq, reduceCtorEq, Nat.le_refl, implies_true, tk39, tsz39, ZA]; rfl) ?_) ?_
    refine Yo (Yp (by simp only [outRes, Yi, resD, outD, outC, outCs, qload, Y9, qmk, C.cpy, TK.agg, C.cp, C.dat, Nat.reduceAdd, if_true, tk39, tsz39, ZA]; rfl) rfl (by simp) (by simp) ?_)
    simp only [Z12]
    (have hn : bitsN (flB l i e bad).1.size (flB l i e bad).1.data.toList 0 = some b := (by rw [← hb, List.drop_of_length_le (by simp; omega)]; rfl); simp only [reduceIte, Z7, ↓reduceIte, floatF, valC, noText, a0, a4, hn] at hQ; with_reducible exact hQ)
end Go.Dl

namespace Go.Dl
open Go.RowKit
open Go.Proofs
set_option linter.unusedSimpArgs false
set_option linter.unusedVariables false
theorem tokC_inj {x y : Tok} (h : tokC x = tokC y) : x = y := by
 obtain ⟨a, b, c⟩ := x
 obtain ⟨a', b', c'⟩ := y
 simp only [tokC, List.cons.injEq, C.v.injEq, Value.int.injEq, Value.string.injEq, true_and, and_true] at h
 obtain ⟨rfl, rfl, rfl⟩ := h; rfl
theorem toks_inj : ∀ {l l' : List Tok}, l.map tokC = l'.map tokC → l = l'
 | [], [], _ => rfl
 | [], _ :: _, h => by simp at h
 | _ :: _, [], h => by simp at h
 | a :: l, b :: l', h => by
  simp only [Z24, List.cons.injEq] at h
  rw [tokC_inj h.1, toks_inj h.2]
theorem pa_inj {l l' : List Tok} {i i' : Nat} {e e' bad bad' : Int} (h : paObj l i e bad = paObj l' i' e' bad') : l = l' ∧ i = i' ∧ e = e' ∧ bad = bad' := by
 simp only [paObj, Obj.mk.injEq, List.cons.injEq, C.s.injEq, C.v.injEq, Value.int.injEq, true_and, and_true] at h
 exact ⟨toks_inj h.1, by omega, h.2.2.1, h.2.2.2⟩
theorem pa_inj4 {β : Type} {f : List Tok × Nat × Int × Int → β} (x y : List Tok × Nat × Int × Int)
  (h : ((([.c (.p 0 0 0)], [paObj x.1 x.2.1 x.2.2.1 x.2.2.2]) : List D × List Obj) = ([.c (.p 0 0 0)], [paObj y.1 y.2.1 y.2.2.1 y.2.2.2]))) : f x = f y := by
 simp only [Prod.mk.injEq, List.cons.injEq, and_true, true_and] at h
 obtain ⟨a, b, c, d⟩ := x
 obtain ⟨a', b', c', d'⟩ := y
 obtain ⟨h1, h2, h3, h4⟩ := pa_inj h
 dsimp only at h1 h2 h3 h4
 subst h1 h2 h3 h4; rfl
theorem float_at {l : List Tok} (i : Nat) (e bad : Int) (h : paPre l i) : oFloat [.c (.p 0 0 0)] [⟨4, [[.s false 3 (l.map tokC), .v (.int .i64 i), .v (.int .i64 e), .v (.int .i64 bad)]]⟩] =
  some (.agg (valC (floatF l i e bad).1), [⟨4, [[.s false 3 (l.map tokC), .v (.int .i64 (floatF l i e bad).2.1), .v (.int .i64 e), .v (.int .i64 (floatF l i e bad).2.2)]]⟩]) :=
 famO_at (fun x y h => pa_inj4 x y h) (l, i, e, bad) h rfl
theorem count_at {l : List Tok} (i : Nat) (e bad : Int) (h : paPre l i) : oCount [.c (.p 0 0 0)] [⟨4, [[.s false 3 (l.map tokC), .v (.int .i64 i), .v (.int .i64 e), .v (.int .i64 bad)]]⟩] =
  some (.c (.v (.int .u64 (countF l i e bad).1)), [⟨4, [[.s false 3 (l.map tokC), .v (.int .i64 (countF l i e bad).2.1), .v (.int .i64 e), .v (.int .i64 (countF l i e bad).2.2)]]⟩]) :=
 famO_at (fun x y h => pa_inj4 x y h) (l, i, e, bad) h rfl
theorem number_at {l : List Tok} (i : Nat) (e bad : Int) (h : paPre l i) {r : Int × Nat × Int} (hr : numberF l i e bad = some r) : oNumber [.c (.p 0 0 0)] [⟨4, [[.s false 3 (l.map tokC), .v (.int .i64 i), .v (.int .i64 e), .v (.int .i64 bad)]]⟩] =
  some (.c (.v (.int .i64 r.1)), [⟨4, [[.s false 3 (l.map tokC), .v (.int .i64 r.2.1), .v (.int .i64 e), .v (.int .i64 r.2.2)]]⟩]) := by
 have := decPa_pa (e := e) (bad := bad) h.1 (show i ≤ 1000000 by have := h.1; have := h.2.1; omega)
 simp only [paObj] at this
 simp only [oNumber, this, Z8, hr, Z4, paObj]
def nullW : ByteArray := ⟨#[110, 117, 108, 108]⟩
def trueW : ByteArray := ⟨#[116, 114, 117, 101]⟩
def falseW : ByteArray := ⟨#[102, 97, 108, 115, 101]⟩
def floatW : ByteArray := ⟨#[102, 108, 111, 97, 116]⟩
def wordF (l : List Tok) (i : Nat) (e bad : Int) (w : ByteArray) : Val × Nat × Int :=
 if strEq w nullW = true then (val0, i + 1, bad)
 else if strEq w trueW = true then ((1, true, 0, 0, noText), i + 1, bad)
 else if strEq w falseW = true then ((1, false, 0, 0, noText), i + 1, bad)
 else if strEq w floatW = true then floatF l (i + 1) e bad
 else (val0, i, failF l i e bad)
noncomputable def FsH1 : Fs := { pure := fun _ => none, objs := fun k => if k = 62 then some oFail else if k = 77 then some oFloat else none }
theorem okH1 : FsOK Try.prog FsH1 := by
 refine ⟨fun k f h => ?_, fun k f h => ?_⟩
 · cases h
 · simp only [FsH1] at h
   split at h
   · rename_i hk; subst hk; cases h; exact ⟨by kernel_rfl, meets62⟩
   split at h
   · rename_i hk; subst hk; cases h; exact ⟨by kernel_rfl, meets77⟩
   · cases h
noncomputable def oWord := famO (fun x : List Tok × Nat × Int × Int × ByteArray => paPre x.1 x.2.1 ∧ x.2.1 < x.1.length) (fun x => ([.c (.p 0 0 0), .c (.v (.string x.2.2.2.2))], [paObj x.1 x.2.1 x.2.2.1 x.2.2.2.1]))
 (fun x => (.agg (valC (wordF x.1 x.2.1 x.2.2.1 x.2.2.2.1 x.2.2.2.2).1), [paObj x.1 (wordF x.1 x.2.1 x.2.2.1 x.2.2.2.1 x.2.2.2.2).2.1 x.2.2.1 (wordF x.1 x.2.1 x.2.2.1 x.2.2.2.1 x.2.2.2.2).2.2]))
theorem meets64 : Meets Try.prog 64 (detS oWord) := by
 refine meets_famO (show Try.prog.funcs[64]? = some Try.f64 by kernel_rfl) rfl (n := 43) rfl (rs := [ResultVar.cell 4 39]) rfl ?_
 rintro ⟨l, i, e, bad, w⟩ ⟨⟨hl, hi, hsz⟩, hlt⟩ Q hQ
 dsimp only at hl hi hsz hQ hlt
 simp only [paObj] at hQ
 have hq1 : (i : Int) + 1 = ((i + 1 : Nat) : Int) := by omega
 have hA := float_at (l := l) (i + 1) e bad ⟨hl, by omega, hsz⟩
 have hF := fail_at hl i e bad hi
 have hlm : l.length ≤ maxStr := by unfold maxStr; omega
 refine Y3 okH1 rfl (by repeat first | with_reducible exact Y2 | refine Y1 (by simp only [Y5, Y4, Y6, St.put, St.with, boxA, C.st, List.replicate, Nat.reduceAdd, Nat.reduceSub, if_true, paObj, tz39, ZA]; rfl) ?_) ?_
 refine seq_in ?_
 refine Y3 okH1 rfl (by repeat first | with_reducible exact Y2 | refine Y1 (by simp only [Y5, Y4, Y6, qev, St.ev, St.put, ZA]; rfl) ?_) ?_
 refine tri_block ?_
 refine Y3 okH1 rfl (by repeat first | with_reducible exact Y2 | refine Y1 (by simp only [Y5, Y4, Y6, qev, St.ev, St.put, qstr, qbin, Y8, Y7, ZA]; rfl) ?_) ?_
 refine Yf rfl (fun a0 => ?_) (fun a0 => ?_)
 ·
  refine Y3 okH1 rfl (by repeat first | with_reducible exact Y2 | refine Y1 (by simp only [Y5, Y4, Y6, qev, St.ev, St.put, D.cells, qload, Y9, qmk, C.cpy, TK.agg, qnil, Yb, qint, Yc, Ya, qbin, liveR, C.st, C.cp, C.dat, storeA, putCells, Y8, Y7, Nat.reduceAdd, if_true, if_false, ne_eq, reduceCtorEq, Nat.reduceLeDiff, implies_true, hq1, tsz3, a0, tk80, tk3, show IntKind.i64.wrap (↑(i + 1) : Int) = _ from wrap_i64 _ (by omega) (by omega), ZA]; rfl) ?_) ?_
  refine Y3 okH1 rfl (by repeat first | with_reducible exact Y2 | refine Y1 (by simp only [Y5, Y4, Y6, St.ev, St.put, D.cells, C.st, C.dat, storeA, putCells, Nat.reduceAdd, if_true, ne_eq, reduceCtorEq, Nat.le_refl, Nat.reduceBNe, implies_true, tk39, tsz39, tsz2, tsz3, tsz4, tsz9, tsz37, buildA, partsA, fillA, tz39, ZA]; rfl) ?_) ?_
  refine Yo (Yp (by simp only [outRes, Yi, resD, outD, outC, outCs, qload, Y9, qmk, C.cpy, TK.agg, C.cp, C.dat, Nat.reduceAdd, if_true, tk39, tsz39, ZA]; rfl) rfl (by simp) (by simp) ?_)
  simp only [Z12]
  (simp only [reduceIte, ↓reduceIte, wordF, valC, val0, noText, nullW, a0] at hQ; with_reducible exact hQ)
 ·
  refine seq_in ?_
  refine Y3 okH1 rfl (by repeat first | with_reducible exact Y2 | refine Y1 (by simp only [Y5, Y4, Y6, qev, St.ev, St.put, qstr, qbin, Y8, Y7, a0, ZA]; rfl) ?_) ?_
  refine Yf rfl (fun a1 => ?_) (fun a1 => ?_)
  ·
   refine Ye ?_
   refine Yf rfl (fun a2 => ?_) (fun a2 => ?_)
   ·
    refine Y3 okH1 rfl (by repeat first | with_reducible exact Y2 | refine Y1 (by simp only [Y5, Y4, Y6, qev, St.ev, St.put, D.cells, qload, Y9, qmk, C.cpy, TK.agg, qnil, Yb, qint, Yc, Ya, qbin, liveR, C.st, C.cp, C.dat, storeA, putCells, Y8, Y7, Nat.reduceAdd, if_true, if_false, ne_eq, reduceCtorEq, Nat.reduceLeDiff, implies_true, hq1, tsz3, a1, tk80, tk3, show IntKind.i64.wrap (↑(i + 1) : Int) = _ from wrap_i64 _ (by omega) (by omega), ZA]; rfl) ?_) ?_
    refine Y3 okH1 rfl (by repeat first | with_reducible exact Y2 | refine Y1 (by simp only [Y5, Y4, Y6, qev, St.ev, St.put, D.cells, qstr, qbin, C.st, C.dat, storeA, putCells, Y8, Y7, Nat.reduceAdd, if_true, ne_eq, reduceCtorEq, Nat.reduceLeDiff, Nat.le_refl, Nat.reduceBNe, implies_true, tk39, tsz39, tsz2, tsz3, tsz4, tsz9, tsz37, buildA, partsA, fillA, placeSt, tz39, a1, ZA]; rfl) ?_) ?_
    refine Yo (Yp (by simp only [outRes, Yi, resD, outD, outC, outCs, qload, Y9, qmk, C.cpy, TK.agg, C.cp, C.dat, Nat.reduceAdd, if_true, tk39, tsz39, ZA]; rfl) rfl (by simp) (by simp) ?_)
    simp only [Z12]
    (simp only [reduceIte, Z7, ↓reduceIte, wordF, valC, noText, nullW, trueW, a0, a1] at hQ; with_reducible exact hQ)
   ·
    (simp only [a1, Bool.true_eq_false] at a2; done)
  ·
   refine Yk okH1 rfl (by repeat first | with_reducible exact Y2 | refine Y1 (by simp only [Y5, Y4, Y6, qev, St.ev, St.put, qstr, qbin, Y8, Y7, a1, ZA]; rfl) ?_) ?_
   show Tri _ _ _ _
   refine Yf rfl (fun a3 => ?_) (fun a3 => ?_)
   ·
    refine Y3 okH1 rfl (by repeat first | with_reducible exact Y2 | refine Y1 (by simp only [Y5, Y4, Y6, qev, St.ev, St.put, D.cells, qload, Y9, qmk, C.cpy, TK.agg, qnil, Yb, qint, Yc, Ya, qbin, liveR, C.st, C.cp, C.dat, storeA, putCells, Y8, Y7, Nat.reduceAdd, if_true, if_false, ne_eq, reduceCtorEq, Nat.reduceLeDiff, implies_true, hq1, tsz3, a3, tk80, tk3, show IntKind.i64.wrap (↑(i + 1) : Int) = _ from wrap_i64 _ (by omega) (by omega), ZA]; rfl) ?_) ?_
    refine Y3 okH1 rfl (by repeat first | with_reducible exact Y2 | refine Y1 (by simp only [Y5, Y4, Y6, qev, St.ev, St.put, D.cells, qstr, qbin, C.st, C.dat, storeA, putCells, Y8, Y7, Nat.reduceAdd, if_true, ne_eq, reduceCtorEq, Nat.reduceLeDiff, Nat.le_refl, Nat.reduceBNe, implies_true, tk39, tsz39, tsz2, tsz3, tsz4, tsz9, tsz37, buildA, partsA, fillA, placeSt, tz39, a1, ZA]; rfl) ?_) ?_
    refine Yo (Yp (by simp only [outRes, Yi, resD, outD, outC, outCs, qload, Y9, qmk, C.cpy, TK.agg, C.cp, C.dat, Nat.reduceAdd, if_true, tk39, tsz39, ZA]; rfl) rfl (by simp) (by simp) ?_)
    simp only [Z12]
    (simp only [reduceIte, Z7, ↓reduceIte, wordF, valC, noText, nullW, trueW, falseW, a0, a1, a3] at hQ; with_reducible exact hQ)
   ·
    refine Y3 okH1 rfl (by repeat first | with_reducible exact Y2 | refine Y1 (by simp only [Y5, Y4, Y6, qev, St.ev, St.put, qstr, qbin, Y8, Y7, a3, ZA]; rfl) ?_) ?_
    refine Yf rfl (fun a4 => ?_) (fun a4 => ?_)
    ·
     refine Y3 okH1 rfl (by repeat first | with_reducible exact Y2 | refine Y1 (by simp only [Y5, Y4, Y6, qev, St.ev, St.put, D.cells, qload, Y9, qmk, C.cpy, TK.agg, qnil, Yb, qint, Yc, Ya, qbin, liveR, C.st, C.cp, C.dat, storeA, putCells, Y8, Y7, Nat.reduceAdd, if_true, if_false, ne_eq, reduceCtorEq, Nat.reduceLeDiff, implies_true, hq1, tsz3, a4, tk80, tk3, show IntKind.i64.wrap (↑(i + 1) : Int) = _ from wrap_i64 _ (by omega) (by omega), ZA]; rfl) ?_) ?_
     refine Y3 okH1 rfl (by repeat first | with_reducible exact Y2 | refine Y1 (by simp only [Y5, Y4, Y6, evsA, qev, St.ev, St.put, St.with, D.cells, D.cell, C.st, C.dat, storeA, putCells, Bool.and_true, Bool.true_and, Nat.reduceAdd, Nat.reduceEqDiff, if_true, if_false, ne_eq, reduceCtorEq, Nat.le_refl, implies_true, beq_self_eq_true, Bool.true_or, callP, callO, dedup, rootsD, rootsC, List.flatMap_cons, List.flatMap_nil, List.filterMap_cons, List.filterMap_nil, Yg, argD, argC, List.contains_nil, objsAt, objOf, List.idxOf?, List.findIdx?, List.findIdx?.go, setObjs, D.ni, D.ni1, C.ni, C.niRow, settle, settle1, settleC, Yl, FsH1, hA, valC, tsz39, ZA]; rfl) ?_) ?_
     refine Yo (Yp (by simp only [outRes, Yi, resD, outD, outC, outCs, qload, Y9, qmk, C.cpy, TK.agg, C.cp, C.dat, Nat.reduceAdd, if_true, tk39, tsz39, ZA]; rfl) rfl (by simp) (by simp) ?_)
     simp only [Z12]
     (simp only [reduceIte, Z7, ↓reduceIte, wordF, valC, nullW, trueW, falseW, floatW, a0, a1, a3, a4] at hQ; with_reducible exact hQ)
    ·
     refine tri_skip ?_
     show Tri _ _ _ _
     refine Y3 okH1 rfl (by repeat first | with_reducible exact Y2 | refine Y1 (by simp only [Y5, Y4, Y6, evsA, qev, St.ev, St.put, St.with, D.cell, C.dat, Bool.and_true, Bool.true_and, Nat.reduceEqDiff, if_true, if_false, beq_self_eq_true, Bool.true_or, callP, callO, dedup, rootsD, rootsC, List.flatMap_cons, List.flatMap_nil, List.filterMap_cons, List.filterMap_nil, Yg, argD, argC, List.contains_nil, objsAt, objOf, List.idxOf?, List.findIdx?, List.findIdx?.go, setObjs, D.ni, settle, settleDs, FsH1, hF, a4, ZA]; rfl) ?_) ?_
     refine Y3 okH1 rfl (by repeat first | with_reducible exact Y2 | refine Y1 (by simp only [Y5, Y4, Y6, St.ev, St.put, D.cells, C.st, C.dat, storeA, putCells, Nat.reduceAdd, if_true, ne_eq, reduceCtorEq, Nat.le_refl, Nat.reduceBNe, implies_true, tk39, tsz39, tsz2, tsz3, tsz4, tsz9, tsz37, buildA, partsA, fillA, tz39, ZA]; rfl) ?_) ?_
     refine Yo (Yp (by simp only [outRes, Yi, resD, outD, outC, outCs, qload, Y9, qmk, C.cpy, TK.agg, C.cp, C.dat, Nat.reduceAdd, if_true, tk39, tsz39, ZA]; rfl) rfl (by simp) (by simp) ?_)
     simp only [Z12]
     (simp only [reduceIte, Z7, ↓reduceIte, wordF, valC, val0, noText, nullW, trueW, falseW, floatW, a0, a1, a3, a4] at hQ; with_reducible exact hQ)
def valueF (l : List Tok) (i : Nat) (e bad : Int) : Val × Nat × Int :=
 if 0 ≤ bad then (val0, i, failF l i e bad)
 else match l[i]? with
  | none => (val0, i, failF l i e bad)
  | some t => if t.1 = 1 then (match numberF l i e bad with | some r => ((2, false, r.1, 0, noText), r.2.1, r.2.2) | none => (val0, i, bad))
   else if t.1 = 2 then ((4, false, 0, 0, t.2.1), i + 1, bad)
   else if t.1 = 0 then wordF l i e bad t.2.1
   else (val0, i, failF l i e bad)
theorem word_at {l : List Tok} (i : Nat) (e bad : Int) (w : ByteArray) (h : paPre l i) (hi : i < l.length) : oWord [.c (.p 0 0 0), .c (.v (.string w))] [⟨4, [[.s false 3 (l.map tokC), .v (.int .i64 i), .v (.int .i64 e), .v (.int .i64 bad)]]⟩] =
  some (.agg (valC (wordF l i e bad w).1), [⟨4, [[.s false 3 (l.map tokC), .v (.int .i64 (wordF l i e bad w).2.1), .v (.int .i64 e), .v (.int .i64 (wordF l i e bad w).2.2)]]⟩]) :=
 famO_at (fun x y h => by
  simp only [Prod.mk.injEq, List.cons.injEq, and_true, true_and, D.c.injEq, C.v.injEq, Value.string.injEq] at h
  obtain ⟨a, b, c, d, w⟩ := x
  obtain ⟨a', b', c', d', w'⟩ := y
  obtain ⟨h1, h2, h3, h4⟩ := pa_inj h.2
  have h5 := h.1
  dsimp only at h1 h2 h3 h4 h5
  subst h1 h2 h3 h4 h5; rfl) (l, i, e, bad, w) ⟨h, hi⟩ rfl
/-- A number's text is not empty. -/
def numPre (l : List Tok) : Prop := ∀ t ∈ l, t.1 = 1 → 0 < t.2.1.size
theorem numberF_some {l : List Tok} {i : Nat} {e bad : Int} (h : paPre l i) (hn : numPre l) {t : Tok} (ht : l[i]? = some t) (h1 : t.1 = 1) : ∃ r, numberF l i e bad = some r := by
 have hs : 0 ≤ bad ∨ 0 < (takeF l i e bad 1).1.size := by
  by_cases hb : 0 ≤ bad
  · exact .inl hb
  · right
    unfold takeF
    rw [if_neg hb, ht]
    simp only [if_pos h1]
    exact hn _ (List.mem_of_getElem? ht) h1
 have hz := takeF_size (i := i) (e := e) (bad := bad) (k := 1) h.2.2
 unfold numberF
 split
 · exact ⟨_, rfl⟩
 · rename_i hb
   have hs' : 0 < (takeF l i e bad 1).1.size := by
    rcases hs with h0 | h0
    · exfalso; apply hb; unfold takeF; rw [if_pos h0]; exact h0
    · exact h0
   rw [if_pos ⟨hs', hz⟩]
   split <;> split <;> exact ⟨_, rfl⟩
noncomputable def FsH2 : Fs := { pure := fun _ => none, objs := fun k => if k = 62 then some oFail else if k = 63 then some oNumber else if k = 64 then some oWord else none }
theorem okH2 : FsOK Try.prog FsH2 := by
 refine ⟨fun k f h => ?_, fun k f h => ?_⟩
 · cases h
 · simp only [FsH2] at h
   split at h
   · rename_i hk; subst hk; cases h; exact ⟨by kernel_rfl, meets62⟩
   split at h
   · rename_i hk; subst hk; cases h; exact ⟨by kernel_rfl, meets63⟩
   split at h
   · rename_i hk; subst hk; cases h; exact ⟨by kernel_rfl, meets64⟩
   · cases h
noncomputable def oValue := famO (fun x : List Tok × Nat × Int × Int => paPre x.1 x.2.1 ∧ numPre x.1) (fun x => ([.c (.p 0 0 0)], [paObj x.1 x.2.1 x.2.2.1 x.2.2.2]))
 (fun x => (.agg (valC (valueF x.1 x.2.1 x.2.2.1 x.2.2.2).1), [paObj x.1 (valueF x.1 x.2.1 x.2.2.1 x.2.2.2).2.1 x.2.2.1 (valueF x.1 x.2.1 x.2.2.1 x.2.2.2).2.2]))
theorem meets39 : Meets Try.prog 39 (detS oValue) := by
 refine meets_famO (show Try.prog.funcs[39]? = some Try.f39 by kernel_rfl) rfl (n := 62) rfl (rs := [ResultVar.cell 2 39]) rfl ?_
 rintro ⟨l, i, e, bad⟩ ⟨⟨hl, hi, hsz⟩, hnum⟩ Q hQ
 dsimp only at hl hi hsz hQ hnum
 simp only [paObj] at hQ
 have hq1 : (i : Int) + 1 = ((i + 1 : Nat) : Int) := by omega
 have hF := fail_at hl i e bad hi
 have hlm : l.length ≤ maxStr := by unfold maxStr; omega
 by_cases hlt : i < l.length
 · obtain ⟨t, ht⟩ : ∃ t, l[i]? = some t := ⟨l[i], List.getElem?_eq_getElem hlt⟩
   have hW := word_at (l := l) i e bad t.2.1 ⟨hl, hi, hsz⟩ hlt
   by_cases h1 : t.1 = 1
   · obtain ⟨r, hr⟩ := numberF_some (e := e) (bad := bad) ⟨hl, hi, hsz⟩ hnum ht h1
     have hN := number_at (l := l) i e bad ⟨hl, hi, hsz⟩ hr
     refine Y3 okH2 rfl (by repeat first | with_reducible exact Y2 | refine Y1 (by simp only [Y5, Y4, Y6, St.put, St.with, boxA, C.st, List.replicate, Nat.reduceAdd, Nat.reduceSub, if_true, paObj, tz39, ZA]; rfl) ?_) ?_
     refine seq_in ?_
     refine Yj mixed okH2 rfl (by kernel_rfl) ?_
     by_cases a0 : (0 ≤ bad)
     ·
      refine ⟨_, (by repeat first | with_reducible exact Y2 | refine Y1 (by simp only [Y5, Y4, Y6, qev, St.ev, St.put, qload, Y9, qmk, C.cpy, TK.agg, qnil, Yb, qpick, qint, Yc, isEq, Ya, qbin, qlen, qbuiltin, liveR, C.cp, Y8, Y7, Option.bind_none, if_true, if_false, decide_true, cond_true, reduceCtorEq, tsz3, tk80, tk3, eq_true a0, ZA]; rfl) ?_), ?_⟩
      refine Yf (b := true) rfl (fun _ => ?_) (fun h => by cases h)
      refine Y3 okH2 rfl (by repeat first | with_reducible exact Y2 | refine Y1 (by simp only [Y5, Y4, Y6, evsA, qev, St.ev, St.put, St.with, D.cell, C.dat, Bool.and_true, Bool.true_and, Nat.reduceEqDiff, if_true, if_false, beq_self_eq_true, Bool.true_or, callP, callO, dedup, rootsD, rootsC, List.flatMap_cons, List.flatMap_nil, List.filterMap_cons, List.filterMap_nil, Yg, argD, argC, List.contains_nil, objsAt, objOf, List.idxOf?, List.findIdx?, List.findIdx?.go, setObjs, D.ni, settle, settleDs, FsH2, hF, ZA]; rfl) ?_) ?_
      refine Y3 okH2 rfl (by repeat first | with_reducible exact Y2 | refine Y1 (by simp only [Y5, Y4, Y6, St.ev, St.put, D.cells, C.st, C.dat, storeA, putCells, Nat.reduceAdd, if_true, ne_eq, reduceCtorEq, Nat.le_refl, Nat.reduceBNe, implies_true, tk39, tsz39, tsz2, tsz3, tsz4, tsz9, tsz37, buildA, partsA, fillA, tz39, ZA]; rfl) ?_) ?_
      refine Yo (Yp (by simp only [outRes, Yi, resD, outD, outC, outCs, qload, Y9, qmk, C.cpy, TK.agg, C.cp, C.dat, Nat.reduceAdd, if_true, tk39, tsz39, ZA]; rfl) rfl (by simp) (by simp) ?_)
      simp only [Z12]
      (simp only [reduceIte, ↓reduceIte, valueF, valC, val0, noText, eq_true a0] at hQ; with_reducible exact hQ)
     ·
      refine ⟨_, (by repeat first | with_reducible exact Y2 | refine Y1 (by simp only [Y5, Y4, Y6, qev, St.ev, St.put, qload, Y9, qmk, C.cpy, TK.agg, qnil, Yb, qpick, qint, Yc, Ya, qbin, qlen, qbuiltin, liveR, C.cp, Y8, Y7, if_true, if_false, decide_false, cond_false, reduceCtorEq, Nat.add_zero, hlm, tsz3, List.length_map, tk80, tk3, eq_false a0, tsz23, tk23, ZA]; rfl) ?_), ?_⟩
      refine Yf rfl (fun a1 => ?_) (fun a1 => ?_)
      ·
       simp only [decide_eq_true_eq] at a1
       (exfalso; omega)
      ·
       simp only [decide_eq_false_iff_not] at a1
       refine Ye ?_
       refine seq_in ?_
       refine Yj mixed okH2 rfl (by kernel_rfl) ?_
       refine ⟨_, (by repeat first | with_reducible exact Y2 | refine Y1 (by simp only [Y5, Y4, Y6, qev, St.ev, St.put, St.with, D.cells, D.int, boxA, qload, Y9, qmk, C.cpy, TK.agg, qnil, Yb, qindexAddr, liveR, C.st, C.cp, C.dat, storeA, putCells, Nat.reduceAdd, if_true, if_false, decide_false, ne_eq, reduceCtorEq, Nat.le_refl, implies_true, Nat.add_zero, tsz3, tokC, List.getElem?_map, ht, h1, List.length_map, Int.toNat_natCast, Int.natCast_nonneg, tk80, tk3, tsz23, tk23, a1, tsz33, show ((↑i : Int) < (↑l.length : Int)) = True from eq_true (by omega), tk33, tz33, ZA]; rfl) ?_), ?_⟩
       refine Y3 okH2 rfl (by repeat first | with_reducible exact Y2 | refine Y1 (by simp only [Y5, Y4, Y6, qev, St.ev, St.put, qload, Y9, qmk, C.cpy, TK.agg, Yb, liveR, C.cp, if_true, if_false, reduceCtorEq, Nat.add_zero, tsz3, tk3, tk33, ZA]; rfl) ?_) ?_
       refine tri_block ?_
       refine Y3 okH2 rfl (by repeat first | with_reducible exact Y2 | refine Y1 (by simp only [Y5, Y4, Y6, qev, St.ev, St.put, qint, Yc, Ya, qbin, Y8, Y7, if_true, if_false, decide_true, ZA]; rfl) ?_) ?_
       refine Yf (b := true) rfl (fun _ => ?_) (fun h => by cases h)
       refine Y3 okH2 rfl (by repeat first | with_reducible exact Y2 | refine Y1 (by simp only [Y5, Y4, Y6, evsA, qev, St.ev, St.put, St.with, D.cells, D.cell, C.st, C.dat, storeA, putCells, Y8, Y7, Bool.and_true, Bool.true_and, Nat.reduceAdd, Nat.reduceEqDiff, if_true, if_false, ne_eq, reduceCtorEq, Nat.reduceLeDiff, Nat.le_refl, Nat.reduceBNe, implies_true, beq_self_eq_true, Bool.true_or, callP, callO, dedup, rootsD, rootsC, List.flatMap_cons, List.flatMap_nil, List.filterMap_cons, List.filterMap_nil, Yg, argD, argC, List.contains_nil, objsAt, objOf, List.idxOf?, List.findIdx?, List.findIdx?.go, setObjs, D.ni, D.ni1, C.ni, settle, settle1, settleC, FsH2, hN, tk39, tsz39, tsz2, tsz3, tsz4, tsz9, tsz37, buildA, partsA, fillA, placeSt, tz39, ZA]; rfl) ?_) ?_
       refine Yo (Yp (by simp only [outRes, Yi, resD, outD, outC, outCs, qload, Y9, qmk, C.cpy, TK.agg, C.cp, C.dat, Nat.reduceAdd, if_true, tk39, tsz39, ZA]; rfl) rfl (by simp) (by simp) ?_)
       simp only [Z12]
       (simp only [reduceIte, ↓reduceIte, valueF, hr, ht, h1, valC, noText, eq_false a0] at hQ; with_reducible exact hQ)
   ·
    refine Y3 okH2 rfl (by repeat first | with_reducible exact Y2 | refine Y1 (by simp only [Y5, Y4, Y6, St.put, St.with, boxA, C.st, List.replicate, Nat.reduceAdd, Nat.reduceSub, if_true, paObj, tz39, ZA]; rfl) ?_) ?_
    refine seq_in ?_
    refine Yj mixed okH2 rfl (by kernel_rfl) ?_
    by_cases a0 : (0 ≤ bad)
    ·
     refine ⟨_, (by repeat first | with_reducible exact Y2 | refine Y1 (by simp only [Y5, Y4, Y6, qev, St.ev, St.put, qload, Y9, qmk, C.cpy, TK.agg, qnil, Yb, qpick, qint, Yc, isEq, Ya, qbin, qlen, qbuiltin, liveR, C.cp, Y8, Y7, Option.bind_none, if_true, if_false, decide_true, cond_true, reduceCtorEq, tsz3, tk80, tk3, eq_true a0, ZA]; rfl) ?_), ?_⟩
     refine Yf (b := true) rfl (fun _ => ?_) (fun h => by cases h)
     refine Y3 okH2 rfl (by repeat first | with_reducible exact Y2 | refine Y1 (by simp only [Y5, Y4, Y6, evsA, qev, St.ev, St.put, St.with, D.cell, C.dat, Bool.and_true, Bool.true_and, Nat.reduceEqDiff, if_true, if_false, beq_self_eq_true, Bool.true_or, callP, callO, dedup, rootsD, rootsC, List.flatMap_cons, List.flatMap_nil, List.filterMap_cons, List.filterMap_nil, Yg, argD, argC, List.contains_nil, objsAt, objOf, List.idxOf?, List.findIdx?, List.findIdx?.go, setObjs, D.ni, settle, settleDs, FsH2, hF, ZA]; rfl) ?_) ?_
     refine Y3 okH2 rfl (by repeat first | with_reducible exact Y2 | refine Y1 (by simp only [Y5, Y4, Y6, St.ev, St.put, D.cells, C.st, C.dat, storeA, putCells, Nat.reduceAdd, if_true, ne_eq, reduceCtorEq, Nat.le_refl, Nat.reduceBNe, implies_true, tk39, tsz39, tsz2, tsz3, tsz4, tsz9, tsz37, buildA, partsA, fillA, tz39, ZA]; rfl) ?_) ?_
     refine Yo (Yp (by simp only [outRes, Yi, resD, outD, outC, outCs, qload, Y9, qmk, C.cpy, TK.agg, C.cp, C.dat, Nat.reduceAdd, if_true, tk39, tsz39, ZA]; rfl) rfl (by simp) (by simp) ?_)
     simp only [Z12]
     (simp only [reduceIte, ↓reduceIte, valueF, valC, val0, noText, eq_true a0] at hQ; with_reducible exact hQ)
    ·
     refine ⟨_, (by repeat first | with_reducible exact Y2 | refine Y1 (by simp only [Y5, Y4, Y6, qev, St.ev, St.put, qload, Y9, qmk, C.cpy, TK.agg, qnil, Yb, qpick, qint, Yc, Ya, qbin, qlen, qbuiltin, liveR, C.cp, Y8, Y7, if_true, if_false, decide_false, cond_false, reduceCtorEq, Nat.add_zero, hlm, tsz3, List.length_map, tk80, tk3, eq_false a0, tsz23, tk23, ZA]; rfl) ?_), ?_⟩
     refine Yf rfl (fun a1 => ?_) (fun a1 => ?_)
     ·
      simp only [decide_eq_true_eq] at a1
      (exfalso; omega)
     ·
      simp only [decide_eq_false_iff_not] at a1
      refine Ye ?_
      refine seq_in ?_
      refine Yj mixed okH2 rfl (by kernel_rfl) ?_
      refine ⟨_, (by repeat first | with_reducible exact Y2 | refine Y1 (by simp only [Y5, Y4, Y6, qev, St.ev, St.put, St.with, D.cells, D.int, boxA, qload, Y9, qmk, C.cpy, TK.agg, qnil, Yb, qindexAddr, liveR, C.st, C.cp, C.dat, storeA, putCells, Nat.reduceAdd, if_true, if_false, decide_false, ne_eq, reduceCtorEq, Nat.le_refl, implies_true, Nat.add_zero, tsz3, tokC, List.getElem?_map, ht, List.length_map, Int.toNat_natCast, Int.natCast_nonneg, tk80, tk3, tsz23, tk23, a1, tsz33, show ((↑i : Int) < (↑l.length : Int)) = True from eq_true (by omega), tk33, tz33, ZA]; rfl) ?_), ?_⟩
      refine Y3 okH2 rfl (by repeat first | with_reducible exact Y2 | refine Y1 (by simp only [Y5, Y4, Y6, qev, St.ev, St.put, qload, Y9, qmk, C.cpy, TK.agg, Yb, liveR, C.cp, if_true, if_false, reduceCtorEq, Nat.add_zero, tsz3, tk3, tk33, ZA]; rfl) ?_) ?_
      refine tri_block ?_
      refine Y3 okH2 rfl (by repeat first | with_reducible exact Y2 | refine Y1 (by simp only [Y5, Y4, Y6, qev, St.ev, St.put, qint, Yc, Ya, qbin, Y8, Y7, if_true, if_false, decide_false, h1, ZA]; rfl) ?_) ?_
      refine Yf (b := false) rfl (fun h => by cases h) (fun _ => ?_)
      refine Y3 okH2 rfl (by repeat first | with_reducible exact Y2 | refine Y1 (by simp only [Y5, Y4, Y6, qev, St.ev, St.put, qint, Yc, Ya, qbin, Y8, Y7, if_true, if_false, ZA]; rfl) ?_) ?_
      refine Yf rfl (fun a2 => ?_) (fun a2 => ?_)
      ·
       simp only [decide_eq_true_eq] at a2
       refine Y3 okH2 rfl (by repeat first | with_reducible exact Y2 | refine Y1 (by simp only [Y5, Y4, Y6, qev, St.ev, St.put, D.cells, qload, Y9, qmk, C.cpy, TK.agg, qnil, Yb, qint, Yc, Ya, qbin, liveR, C.st, C.cp, C.dat, storeA, putCells, Y8, Y7, Nat.reduceAdd, if_true, if_false, decide_true, ne_eq, reduceCtorEq, Nat.reduceLeDiff, implies_true, hq1, tsz3, tk80, tk3, a2, show IntKind.i64.wrap (↑(i + 1) : Int) = _ from wrap_i64 _ (by omega) (by omega), ZA]; rfl) ?_) ?_
       refine Y3 okH2 rfl (by repeat first | with_reducible exact Y2 | refine Y1 (by simp only [Y5, Y4, Y6, qev, St.ev, St.put, D.cells, qload, Y9, qmk, C.cpy, TK.agg, Yb, liveR, C.st, C.cp, C.dat, storeA, putCells, Y8, Y7, Nat.reduceAdd, if_true, if_false, ne_eq, reduceCtorEq, Nat.reduceLeDiff, Nat.le_refl, Nat.reduceBNe, implies_true, tk39, tsz39, tsz2, tsz3, tsz4, tsz9, tsz37, buildA, partsA, fillA, placeSt, tz39, tk33, tk9, ZA]; rfl) ?_) ?_
       refine Yo (Yp (by simp only [outRes, Yi, resD, outD, outC, outCs, qload, Y9, qmk, C.cpy, TK.agg, C.cp, C.dat, Nat.reduceAdd, if_true, tk39, tsz39, ZA]; rfl) rfl (by simp) (by simp) ?_)
       simp only [Z12]
       (simp only [reduceIte, ↓reduceIte, Int.reduceEq, valueF, ht, valC, eq_false a0, a2] at hQ; with_reducible exact hQ)
      ·
       simp only [decide_eq_false_iff_not] at a2
       refine Y3 okH2 rfl (by repeat first | with_reducible exact Y2 | refine Y1 (by simp only [Y5, Y4, Y6, qev, St.ev, St.put, qint, Yc, Ya, qbin, Y8, Y7, if_true, if_false, decide_false, a2, ZA]; rfl) ?_) ?_
       refine Yf rfl (fun a3 => ?_) (fun a3 => ?_)
       ·
        simp only [decide_eq_true_eq] at a3
        refine Y3 okH2 rfl (by repeat first | with_reducible exact Y2 | refine Y1 (by simp only [Y5, Y4, Y6, evsA, qev, St.ev, St.put, St.with, D.cells, D.cell, qload, Y9, qmk, C.cpy, TK.agg, Yb, liveR, C.st, C.cp, C.dat, storeA, putCells, Bool.and_true, Bool.true_and, Nat.reduceAdd, Nat.reduceEqDiff, if_true, if_false, decide_true, ne_eq, reduceCtorEq, Nat.le_refl, implies_true, beq_self_eq_true, Bool.true_or, callP, callO, dedup, rootsD, rootsC, List.flatMap_cons, List.flatMap_nil, List.filterMap_cons, List.filterMap_nil, Yg, argD, argC, List.contains_nil, objsAt, objOf, List.idxOf?, List.findIdx?, List.findIdx?.go, setObjs, D.ni, D.ni1, C.ni, C.niRow, settle, settle1, settleC, Yl, FsH2, hW, valC, tsz39, tsz9, tk33, a3, tk9, ZA]; rfl) ?_) ?_
        refine Yo (Yp (by simp only [outRes, Yi, resD, outD, outC, outCs, qload, Y9, qmk, C.cpy, TK.agg, C.cp, C.dat, Nat.reduceAdd, if_true, tk39, tsz39, ZA]; rfl) rfl (by simp) (by simp) ?_)
        simp only [Z12]
        (simp only [reduceIte, ↓reduceIte, Int.reduceEq, valueF, ht, valC, eq_false a0, a3] at hQ; with_reducible exact hQ)
       ·
        simp only [decide_eq_false_iff_not] at a3
        refine tri_skip ?_
        show Tri _ _ _ _
        refine Y3 okH2 rfl (by repeat first | with_reducible exact Y2 | refine Y1 (by simp only [Y5, Y4, Y6, evsA, qev, St.ev, St.put, St.with, D.cell, C.dat, Bool.and_true, Bool.true_and, Nat.reduceEqDiff, if_true, if_false, decide_false, beq_self_eq_true, Bool.true_or, callP, callO, dedup, rootsD, rootsC, List.flatMap_cons, List.flatMap_nil, List.filterMap_cons, List.filterMap_nil, Yg, argD, argC, List.contains_nil, objsAt, objOf, List.idxOf?, List.findIdx?, List.findIdx?.go, setObjs, D.ni, settle, settleDs, FsH2, hF, a3, ZA]; rfl) ?_) ?_
        refine Y3 okH2 rfl (by repeat first | with_reducible exact Y2 | refine Y1 (by simp only [Y5, Y4, Y6, St.ev, St.put, D.cells, C.st, C.dat, storeA, putCells, Nat.reduceAdd, if_true, ne_eq, reduceCtorEq, Nat.le_refl, Nat.reduceBNe, implies_true, tk39, tsz39, tsz2, tsz3, tsz4, tsz9, tsz37, buildA, partsA, fillA, tz39, ZA]; rfl) ?_) ?_
        refine Yo (Yp (by simp only [outRes, Yi, resD, outD, outC, outCs, qload, Y9, qmk, C.cpy, TK.agg, C.cp, C.dat, Nat.reduceAdd, if_true, tk39, tsz39, ZA]; rfl) rfl (by simp) (by simp) ?_)
        simp only [Z12]
        (simp only [reduceIte, ↓reduceIte, valueF, ht, h1, valC, val0, noText, eq_false a0, a2, a3] at hQ; with_reducible exact hQ)
 · have hno : l[i]? = none := List.getElem?_eq_none (by omega)
   refine Y3 okH2 rfl (by repeat first | with_reducible exact Y2 | refine Y1 (by simp only [Y5, Y4, Y6, St.put, St.with, boxA, C.st, List.replicate, Nat.reduceAdd, Nat.reduceSub, if_true, paObj, tz39, ZA]; rfl) ?_) ?_
   refine seq_in ?_
   refine Yj mixed okH2 rfl (by kernel_rfl) ?_
   by_cases a0 : (0 ≤ bad)
   ·
    refine ⟨_, (by repeat first | with_reducible exact Y2 | refine Y1 (by simp only [Y5, Y4, Y6, qev, St.ev, St.put, qload, Y9, qmk, C.cpy, TK.agg, qnil, Yb, qpick, qint, Yc, isEq, Ya, qbin, qlen, qbuiltin, liveR, C.cp, Y8, Y7, Option.bind_none, if_true, if_false, decide_true, cond_true, reduceCtorEq, tsz3, tk80, tk3, eq_true a0, ZA]; rfl) ?_), ?_⟩
    refine Yf (b := true) rfl (fun _ => ?_) (fun h => by cases h)
    refine Y3 okH2 rfl (by repeat first | with_reducible exact Y2 | refine Y1 (by simp only [Y5, Y4, Y6, evsA, qev, St.ev, St.put, St.with, D.cell, C.dat, Bool.and_true, Bool.true_and, Nat.reduceEqDiff, if_true, if_false, beq_self_eq_true, Bool.true_or, callP, callO, dedup, rootsD, rootsC, List.flatMap_cons, List.flatMap_nil, List.filterMap_cons, List.filterMap_nil, Yg, argD, argC, List.contains_nil, objsAt, objOf, List.idxOf?, List.findIdx?, List.findIdx?.go, setObjs, D.ni, settle, settleDs, FsH2, hF, ZA]; rfl) ?_) ?_
    refine Y3 okH2 rfl (by repeat first | with_reducible exact Y2 | refine Y1 (by simp only [Y5, Y4, Y6, St.ev, St.put, D.cells, C.st, C.dat, storeA, putCells, Nat.reduceAdd, if_true, ne_eq, reduceCtorEq, Nat.le_refl, Nat.reduceBNe, implies_true, tk39, tsz39, tsz2, tsz3, tsz4, tsz9, tsz37, buildA, partsA, fillA, tz39, ZA]; rfl) ?_) ?_
    refine Yo (Yp (by simp only [outRes, Yi, resD, outD, outC, outCs, qload, Y9, qmk, C.cpy, TK.agg, C.cp, C.dat, Nat.reduceAdd, if_true, tk39, tsz39, ZA]; rfl) rfl (by simp) (by simp) ?_)
    simp only [Z12]
    (simp only [reduceIte, ↓reduceIte, valueF, valC, val0, noText, eq_true a0] at hQ; with_reducible exact hQ)
   ·
    refine ⟨_, (by repeat first | with_reducible exact Y2 | refine Y1 (by simp only [Y5, Y4, Y6, qev, St.ev, St.put, qload, Y9, qmk, C.cpy, TK.agg, qnil, Yb, qpick, qint, Yc, Ya, qbin, qlen, qbuiltin, liveR, C.cp, Y8, Y7, if_true, if_false, decide_false, cond_false, reduceCtorEq, Nat.add_zero, hlm, tsz3, List.length_map, tk80, tk3, eq_false a0, tsz23, tk23, ZA]; rfl) ?_), ?_⟩
    refine Yf rfl (fun a1 => ?_) (fun a1 => ?_)
    ·
     simp only [decide_eq_true_eq] at a1
     refine Y3 okH2 rfl (by repeat first | with_reducible exact Y2 | refine Y1 (by simp only [Y5, Y4, Y6, evsA, qev, St.ev, St.put, St.with, D.cell, C.dat, Bool.and_true, Bool.true_and, Nat.reduceEqDiff, if_true, if_false, decide_true, beq_self_eq_true, Bool.true_or, callP, callO, dedup, rootsD, rootsC, List.flatMap_cons, List.flatMap_nil, List.filterMap_cons, List.filterMap_nil, Yg, argD, argC, List.contains_nil, objsAt, objOf, List.idxOf?, List.findIdx?, List.findIdx?.go, setObjs, D.ni, settle, settleDs, FsH2, hF, a1, ZA]; rfl) ?_) ?_
     refine Y3 okH2 rfl (by repeat first | with_reducible exact Y2 | refine Y1 (by simp only [Y5, Y4, Y6, St.ev, St.put, D.cells, C.st, C.dat, storeA, putCells, Nat.reduceAdd, if_true, ne_eq, reduceCtorEq, Nat.le_refl, Nat.reduceBNe, implies_true, tk39, tsz39, tsz2, tsz3, tsz4, tsz9, tsz37, buildA, partsA, fillA, tz39, ZA]; rfl) ?_) ?_
     refine Yo (Yp (by simp only [outRes, Yi, resD, outD, outC, outCs, qload, Y9, qmk, C.cpy, TK.agg, C.cp, C.dat, Nat.reduceAdd, if_true, tk39, tsz39, ZA]; rfl) rfl (by simp) (by simp) ?_)
     simp only [Z12]
     (simp only [reduceIte, ↓reduceIte, valueF, hno, valC, val0, noText, eq_false a0] at hQ; with_reducible exact hQ)
    ·
     simp only [decide_eq_false_iff_not] at a1
     (exfalso; omega)
end Go.Dl

namespace Go.Dl
open Go.RowKit
open Go.Proofs
set_option linter.unusedSimpArgs false
set_option linter.unusedVariables false
def strC (s : ByteArray) : List C := [.v (.string s)]
theorem str_nb (l : List ByteArray) : rowsNB (l.map strC) = true := nb_map (fun _ => rfl)
def lbr : ByteArray := ⟨#[91]⟩
def rbr : ByteArray := ⟨#[93]⟩
def comma : ByteArray := ⟨#[44]⟩
def posPre (l : List Tok) (e : Int) : Prop := 0 ≤ e ∧ ∀ t ∈ l, 0 ≤ t.2.2
theorem fail_pos {l : List Tok} {e : Int} (h : posPre l e) (i : Nat) (bad : Int) : 0 ≤ failF l i e bad := by
 unfold failF hereF
 split
 · split
   · rename_i t ht; exact h.2 _ (List.mem_of_getElem? ht)
   · exact h.1
 · omega
theorem take_bad {l : List Tok} {i : Nat} {e bad k : Int} (h : 0 ≤ bad) : 0 ≤ (takeF l i e bad k).2.2 := by
 unfold takeF; rw [if_pos h]; exact h
/-- The names within brackets. -/
def namesGo (l : List Tok) (e : Int) : Nat → Nat → Nat → Int → List ByteArray → List ByteArray × Nat × Int
 | 0, _, i, bad, acc => (acc, i, bad)
 | k + 1, c, i, bad, acc => if bad < 0 then (if peekF l i bad rbr = true then (acc, i, bad)
   else if (0 : Int) < (c : Int) then (if (100 : Int) ≤ (c : Int) then namesGo l e k (c + 1) (takeF l (markF l i e bad comma).1 e (failF l (markF l i e bad comma).1 e (markF l i e bad comma).2) 2).2.1 (takeF l (markF l i e bad comma).1 e (failF l (markF l i e bad comma).1 e (markF l i e bad comma).2) 2).2.2 (acc ++ [(takeF l (markF l i e bad comma).1 e (failF l (markF l i e bad comma).1 e (markF l i e bad comma).2) 2).1])
    else namesGo l e k (c + 1) (takeF l (markF l i e bad comma).1 e (markF l i e bad comma).2 2).2.1 (takeF l (markF l i e bad comma).1 e (markF l i e bad comma).2 2).2.2 (acc ++ [(takeF l (markF l i e bad comma).1 e (markF l i e bad comma).2 2).1]))
   else namesGo l e k (c + 1) (takeF l i e bad 2).2.1 (takeF l i e bad 2).2.2 (acc ++ [(takeF l i e bad 2).1]))
  else (acc, i, bad)
def namesR (l : List Tok) (i : Nat) (e bad : Int) : List ByteArray × Nat × Int := namesGo l e 102 0 (markF l i e bad lbr).1 (markF l i e bad lbr).2 []
def namesF (l : List Tok) (i : Nat) (e bad : Int) : List ByteArray × Nat × Int := ((namesR l i e bad).1, markF l (namesR l i e bad).2.1 e (namesR l i e bad).2.2 rbr)
theorem names_eq {l : List Tok} {i : Nat} {e bad : Int} {r : List ByteArray × Nat × Int} (h : namesR l i e bad = r) : namesF l i e bad = (r.1, markF l r.2.1 e r.2.2 rbr) := by subst h; rfl
noncomputable def FsI1 : Fs := { pure := fun _ => none, objs := fun k => if k = 62 then some oFail else if k = 68 then some oTakeP else if k = 70 then some oMark else if k = 82 then some oPeek else none }
theorem okI1 : FsOK Try.prog FsI1 := by
 refine ⟨fun k f h => ?_, fun k f h => ?_⟩
 · cases h
 · simp only [FsI1] at h
   split at h
   · rename_i hk; subst hk; cases h; exact ⟨by kernel_rfl, meets62⟩
   split at h
   · rename_i hk; subst hk; cases h; exact ⟨by kernel_rfl, meets68⟩
   split at h
   · rename_i hk; subst hk; cases h; exact ⟨by kernel_rfl, meets70⟩
   split at h
   · rename_i hk; subst hk; cases h; exact ⟨by kernel_rfl, meets82⟩
   · cases h
noncomputable def oNames := famO (fun x : List Tok × Nat × Int × Int => paPre x.1 x.2.1 ∧ posPre x.1 x.2.2.1) (fun x => ([.c (.p 0 0 0)], [paObj x.1 x.2.1 x.2.2.1 x.2.2.2]))
 (fun x => (.c (.s true 1 ((namesF x.1 x.2.1 x.2.2.1 x.2.2.2).1.map strC)), [paObj x.1 (namesF x.1 x.2.1 x.2.2.1 x.2.2.2).2.1 x.2.2.1 (namesF x.1 x.2.1 x.2.2.1 x.2.2.2).2.2]))
theorem meets79 : Meets Try.prog 79 (detS oNames) := by
 refine meets_famO (show Try.prog.funcs[79]? = some Try.f79 by kernel_rfl) rfl (n := 35) rfl (rs := [ResultVar.tmp 2]) rfl ?_
 rintro ⟨l, i0, e, bad0⟩ ⟨⟨hl, hi0, hsz⟩, hpos⟩ Q hQ
 dsimp only at hl hi0 hsz hQ hpos
 simp only [paObj] at hQ
 have hM0 : oMark [.c (.p 0 0 0), .c (.v (.string ⟨#[91]⟩))] _ = _ := mark_at hl i0 e bad0 lbr hi0
 have hj0 : (markF l i0 e bad0 lbr).1 ≤ l.length := markF_le hi0
 obtain ⟨res, hres⟩ : ∃ res, namesR l i0 e bad0 = res := ⟨_, rfl⟩
 rw [names_eq hres] at hQ
 have hQ2 : ∀ a j b, (a, j, b) = res → Q (.c (.s true 1 (a.map strC))) [⟨4, [[.s false 3 (l.map tokC), .v (.int .i64 (markF l j e b rbr).1), .v (.int .i64 e), .v (.int .i64 (markF l j e b rbr).2)]]⟩] := by
  intro a j b h
  subst h
  exact hQ
 clear hQ
 simp only [namesR] at hres
 generalize hk0 : (102 : Nat) = k0 at hres
 generalize hm0 : markF l i0 e bad0 lbr = m0 at hres hM0 hj0
 obtain ⟨i1, bad1⟩ := m0
 dsimp only at hres hM0 hj0
 refine Y3 okI1 rfl (by repeat first | with_reducible exact Y2 | refine Y1 (by simp only [Y5, Y4, Y6, qev, St.ev, St.put, Y8, Y7, List.replicate, Nat.reduceSub, paObj, ZA]; rfl) ?_) ?_
 refine Y3 okI1 rfl (by repeat first | with_reducible exact Y2 | refine Y1 (by simp only [Y5, Y4, Y6, qev, St.ev, St.put, Y8, Y7, ZA]; rfl) ?_) ?_
 refine Y3 okI1 rfl (by repeat first | with_reducible exact Y2 | refine Y1 (by simp only [Y5, Y4, Y6, evsA, qev, St.ev, St.put, St.with, D.cell, C.cpy, C.cp, C.dat, Y8, Y7, Bool.and_true, Bool.true_and, Nat.reduceEqDiff, if_true, if_false, beq_self_eq_true, Bool.true_or, callP, callO, dedup, rootsD, rootsC, List.flatMap_cons, List.flatMap_nil, List.filterMap_cons, List.filterMap_nil, Yg, argD, argC, List.contains_nil, objsAt, objOf, List.idxOf?, List.findIdx?, List.findIdx?.go, setObjs, D.ni, settle, settleDs, FsI1, hM0, ZA]; rfl) ?_) ?_
 refine seq_in ?_
 refine Y3 okI1 rfl (by repeat first | with_reducible exact Y2 | refine Y1 (by simp only [Y5, Y4, Y6, qev, St.ev, St.put, Y8, Y7, ZA]; rfl) ?_) ?_
 refine tri_block ?_
 refine tri_nil 3 1 rfl ?_
 show Tri _ _ _ _
 refine tri_loop_le (fun m A => ∃ (k c i : Nat) (bad : Int) (acc : List ByteArray) (T : List (Option Root)), m = k ∧ c + k = 102 ∧ (c = 101 → 0 ≤ bad) ∧ c ≤ 101 ∧ i ≤ l.length ∧ acc.length = c ∧ namesGo l e k c i bad acc = res ∧ A = ⟨[.c (.p 0 0 0), .o, .c (.s true 0 []), .c (.h 1 0 acc.length), .c (.v (.int .i64 (c : Nat))), .o, .o, .o, .o, .o, .o, .o, .o, .o, .o, .o, .o, .o, .o, .o, .o, .o, .o, .o, .o, .o, .o, .o, .o, .o, .o, .o, .o, .o, .o], some ⟨false, 4, [[.s false 3 (l.map tokC), .v (.int .i64 i), .v (.int .i64 e), .v (.int .i64 bad)]]⟩ :: some ⟨true, 1, acc.map strC⟩ :: T⟩) k0 (B := ⟨[.c (.p 0 0 0), .o, .c (.s true 0 []), .c (.h 1 0 0), .c (.v (.int .i64 (0 : Nat))), .o, .o, .o, .o, .o, .o, .o, .o, .o, .o, .o, .o, .o, .o, .o, .o, .o, .o, .o, .o, .o, .o, .o, .o, .o, .o, .o, .o, .o, .o], [some ⟨false, 4, [[.s false 3 (l.map tokC), .v (.int .i64 i1), .v (.int .i64 e), .v (.int .i64 bad1)]]⟩, some ⟨true, 1, []⟩]⟩) ⟨by repeat (first | exact .nil | refine .same ?_ | refine .o ?_), rfl⟩ ⟨k0, 0, i1, bad1, [], [], rfl, by omega, by omega, by omega, hj0, rfl, hres, rfl⟩ ?_
 rintro m A ⟨k, c, i, bad, acc, T, rfl, hck, hcb, hc, hi, hacc, hk, rfl⟩
 obtain ⟨k, rfl⟩ : ∃ k, m = k + 1 := ⟨m - 1, by omega⟩
 have hq1 : (c : Int) + 1 = ((c + 1 : Nat) : Int) := by omega
 have hP : oPeek [.c (.p 0 0 0), .c (.v (.string ⟨#[93]⟩))] _ = _ := peek_at hl i e bad rbr hi
 have hR : oMark [.c (.p 0 0 0), .c (.v (.string ⟨#[93]⟩))] _ = _ := mark_at hl i e bad rbr hi
 have hC : oMark [.c (.p 0 0 0), .c (.v (.string ⟨#[44]⟩))] _ = _ := mark_at hl i e bad comma hi
 have hm : (markF l i e bad comma).1 ≤ l.length := markF_le hi
 have hF := fail_at hl (markF l i e bad comma).1 e (markF l i e bad comma).2 hm
 have hT1 := take_at hl i e bad 2 hi
 have hT2 := take_at hl (markF l i e bad comma).1 e (markF l i e bad comma).2 2 hm
 have hT3 := take_at hl (markF l i e bad comma).1 e (failF l (markF l i e bad comma).1 e (markF l i e bad comma).2) 2 hm
 have ht0 : (acc.map strC).take acc.length = acc.map strC := List.take_of_length_le (by simp)
 have hne : ∀ k : Nat, (k + 1 + 1 != 1) = true := (by intro k; simp)
 have hz : (acc.length + 1) * 16 ≤ 140737488355328 := by omega
 refine seq_in ?_
 by_cases a0 : (bad < 0)
 ·
  refine Y3 okI1 rfl (by repeat first | with_reducible exact Y2 | refine Y1 (by simp only [Y5, Y4, Y6, evsA, qev, St.ev, St.put, St.with, D.cell, qload, Y9, qmk, C.cpy, TK.agg, qnil, Yb, qpick, qint, Yc, Ya, qbin, qun, liveR, C.cp, C.dat, Y8, Y7, Bool.and_true, Bool.true_and, Nat.reduceEqDiff, if_true, if_false, decide_true, cond_true, reduceCtorEq, beq_self_eq_true, Bool.true_or, callP, callO, dedup, rootsD, rootsC, List.flatMap_cons, List.flatMap_nil, List.filterMap_cons, List.filterMap_nil, Yg, argD, argC, List.contains_nil, objsAt, objOf, List.idxOf?, List.findIdx?, List.findIdx?.go, setObjs, D.ni, D.ni1, C.ni, settle, settle1, settleC, FsI1, hP, tk80, tsz3, tk3, eq_true a0, ZA]; rfl) ?_) ?_
  refine Yf rfl (fun a1 => ?_) (fun a1 => ?_)
  ·
   simp only [Bool.not_eq_true'] at a1
   refine Ye ?_
   refine seq_in (tri_block ?_)
   refine seq_in ?_
   refine Y3 okI1 rfl (by repeat first | with_reducible exact Y2 | refine Y1 (by simp only [Y5, Y4, Y6, qev, St.ev, St.put, qint, Yc, Ya, qbin, Y8, Y7, if_true, if_false, Bool.not_false, a1, ZA]; rfl) ?_) ?_
   refine Yf rfl (fun a2 => ?_) (fun a2 => ?_)
   ·
    simp only [decide_eq_true_eq] at a2
    refine Yk okI1 rfl (by repeat first | with_reducible exact Y2 | refine Y1 (by simp only [Y5, Y4, Y6, evsA, qev, St.ev, St.put, St.with, D.cell, C.cpy, C.cp, C.dat, Y8, Y7, Bool.and_true, Bool.true_and, Nat.reduceEqDiff, if_true, if_false, decide_true, beq_self_eq_true, Bool.true_or, callP, callO, dedup, rootsD, rootsC, List.flatMap_cons, List.flatMap_nil, List.filterMap_cons, List.filterMap_nil, Yg, argD, argC, List.contains_nil, objsAt, objOf, List.idxOf?, List.findIdx?, List.findIdx?.go, setObjs, D.ni, settle, settleDs, FsI1, hC, a2, ZA]; rfl) ?_) ?_
    show Tri _ _ _ _
    refine seq_in ?_
    refine Y3 okI1 rfl (by repeat first | with_reducible exact Y2 | refine Y1 (by simp only [Y5, Y4, Y6, qev, St.ev, St.put, qint, Yc, Ya, qbin, Y8, Y7, if_true, if_false, ZA]; rfl) ?_) ?_
    refine Yf rfl (fun a3 => ?_) (fun a3 => ?_)
    ·
     simp only [decide_eq_true_eq] at a3
     refine Yk okI1 rfl (by repeat first | with_reducible exact Y2 | refine Y1 (by simp only [Y5, Y4, Y6, evsA, qev, St.ev, St.put, St.with, D.cell, C.dat, Bool.and_true, Bool.true_and, Nat.reduceEqDiff, if_true, if_false, decide_true, beq_self_eq_true, Bool.true_or, callP, callO, dedup, rootsD, rootsC, List.flatMap_cons, List.flatMap_nil, List.filterMap_cons, List.filterMap_nil, Yg, argD, argC, List.contains_nil, objsAt, objOf, List.idxOf?, List.findIdx?, List.findIdx?.go, setObjs, D.ni, settle, settleDs, FsI1, hF, a3, ZA]; rfl) ?_) ?_
     show Tri _ _ _ _
     refine Yk okI1 rfl (by repeat first | with_reducible exact Y2 | refine Y1 (by simp only [Y5, Y4, Y6, evsA, qev, St.ev, St.put, St.with, D.cells, D.cell, C.cpy, C.st, C.cp, C.dat, putCells, Y8, Y7, Bool.and_true, Bool.true_and, Nat.reduceMul, Nat.reduceEqDiff, if_true, if_false, ne_eq, reduceCtorEq, Nat.reduceLeDiff, Nat.le_refl, Nat.reduceBNe, bne_self_eq_false, beq_self_eq_true, Bool.true_or, callP, callO, dedup, rootsD, rootsC, List.flatMap_cons, List.flatMap_nil, List.filterMap_cons, List.filterMap_nil, Yg, argD, argC, List.contains_nil, objsAt, objOf, List.idxOf?, List.findIdx?, List.findIdx?.go, setObjs, D.ni, D.ni1, C.ni, settle, settle1, settleC, FsI1, hT3, ht0, hne, hz, last_get, buildSliceA, partsA, fillA, reps, chop, tkApp, str_nb, appendA, srcRows, srcOther, D.kill, D.no, C.no, C.kill, killH, Root.kill, D.nos, tk28, tz9, tsz9, bo9, ZA]; rfl) ?_) ?_
     show Tri _ _ _ _
     refine Yk okI1 rfl (by repeat first | with_reducible exact Y2 | refine Y1 (by simp only [Y5, Y4, Y6, qev, St.ev, St.put, qint, Yc, Ya, qbin, Y8, Y7, if_true, if_false, hq1, show IntKind.i64.wrap (↑(c + 1) : Int) = _ from wrap_i64 _ (by omega) (by omega), ZA]; rfl) ?_) ?_
     simp only []
     (simp only [namesGo, reduceIte, Z7, ↓reduceIte, eq_true a0, a1, a2, a3] at hk; exact ⟨k, by omega, ⟨[.c (.p 0 0 0), .o, .c (.s true 0 []), .c (.h 1 0 (acc ++ [(takeF l (markF l i e bad comma).1 e (failF l (markF l i e bad comma).1 e (markF l i e bad comma).2) 2).1]).length), .c (.v (.int .i64 (c + 1 : Nat))), .o, .o, .o, .o, .o, .o, .o, .o, .o, .o, .o, .o, .o, .o, .o, .o, .o, .o, .o, .o, .o, .o, .o, .o, .o, .o, .o, .o, .o, .o], some ⟨false, 4, [[.s false 3 (l.map tokC), .v (.int .i64 (takeF l (markF l i e bad comma).1 e (failF l (markF l i e bad comma).1 e (markF l i e bad comma).2) 2).2.1), .v (.int .i64 e), .v (.int .i64 (takeF l (markF l i e bad comma).1 e (failF l (markF l i e bad comma).1 e (markF l i e bad comma).2) 2).2.2)]]⟩ :: some ⟨true, 1, (acc ++ [(takeF l (markF l i e bad comma).1 e (failF l (markF l i e bad comma).1 e (markF l i e bad comma).2) 2).1]).map strC⟩ :: List.map (fun o => Option.map (Root.kill 1) o) (T ++ [some ⟨true, 1, [strC (takeF l (markF l i e bad comma).1 e (failF l (markF l i e bad comma).1 e (markF l i e bad comma).2) 2).1]⟩])⟩, ⟨(by rw [show (acc ++ [(takeF l (markF l i e bad comma).1 e (failF l (markF l i e bad comma).1 e (markF l i e bad comma).2) 2).1]).length = acc.length + 1 from by simp]; repeat (first | exact .nil | refine .same ?_ | refine .o ?_)), (by rw [show (acc ++ [(takeF l (markF l i e bad comma).1 e (failF l (markF l i e bad comma).1 e (markF l i e bad comma).2) 2).1]).map strC = acc.map strC ++ [strC (takeF l (markF l i e bad comma).1 e (failF l (markF l i e bad comma).1 e (markF l i e bad comma).2) 2).1] from List.map_append]; rfl)⟩, k, c + 1, (takeF l (markF l i e bad comma).1 e (failF l (markF l i e bad comma).1 e (markF l i e bad comma).2) 2).2.1, (takeF l (markF l i e bad comma).1 e (failF l (markF l i e bad comma).1 e (markF l i e bad comma).2) 2).2.2, acc ++ [(takeF l (markF l i e bad comma).1 e (failF l (markF l i e bad comma).1 e (markF l i e bad comma).2) 2).1], _, rfl, by omega, (fun _ => take_bad (fail_pos hpos _ _)), by omega, takeF_le hm, (by simp [hacc]), hk, rfl⟩)
    ·
     simp only [decide_eq_false_iff_not] at a3
     refine Ye ?_
     refine Yk okI1 rfl (by repeat first | with_reducible exact Y2 | refine Y1 (by simp only [Y5, Y4, Y6, evsA, qev, St.ev, St.put, St.with, D.cells, D.cell, C.cpy, C.st, C.cp, C.dat, putCells, Y8, Y7, Bool.and_true, Bool.true_and, Nat.reduceMul, Nat.reduceEqDiff, if_true, if_false, decide_false, ne_eq, reduceCtorEq, Nat.reduceLeDiff, Nat.le_refl, Nat.reduceBNe, bne_self_eq_false, beq_self_eq_true, Bool.true_or, callP, callO, dedup, rootsD, rootsC, List.flatMap_cons, List.flatMap_nil, List.filterMap_cons, List.filterMap_nil, Yg, argD, argC, List.contains_nil, objsAt, objOf, List.idxOf?, List.findIdx?, List.findIdx?.go, setObjs, D.ni, D.ni1, C.ni, settle, settle1, settleC, FsI1, hT2, ht0, hne, hz, last_get, buildSliceA, partsA, fillA, reps, chop, tkApp, str_nb, appendA, srcRows, srcOther, D.kill, D.no, C.no, C.kill, killH, Root.kill, D.nos, a3, tk28, tz9, tsz9, bo9, ZA]; rfl) ?_) ?_
     show Tri _ _ _ _
     refine Yk okI1 rfl (by repeat first | with_reducible exact Y2 | refine Y1 (by simp only [Y5, Y4, Y6, qev, St.ev, St.put, qint, Yc, Ya, qbin, Y8, Y7, if_true, if_false, hq1, show IntKind.i64.wrap (↑(c + 1) : Int) = _ from wrap_i64 _ (by omega) (by omega), ZA]; rfl) ?_) ?_
     simp only []
     (simp only [namesGo, reduceIte, Z7, ↓reduceIte, eq_true a0, a1, a2, a3] at hk; exact ⟨k, by omega, ⟨[.c (.p 0 0 0), .o, .c (.s true 0 []), .c (.h 1 0 (acc ++ [(takeF l (markF l i e bad comma).1 e (markF l i e bad comma).2 2).1]).length), .c (.v (.int .i64 (c + 1 : Nat))), .o, .o, .o, .o, .o, .o, .o, .o, .o, .o, .o, .o, .o, .o, .o, .o, .o, .o, .o, .o, .o, .o, .o, .o, .o, .o, .o, .o, .o, .o], some ⟨false, 4, [[.s false 3 (l.map tokC), .v (.int .i64 (takeF l (markF l i e bad comma).1 e (markF l i e bad comma).2 2).2.1), .v (.int .i64 e), .v (.int .i64 (takeF l (markF l i e bad comma).1 e (markF l i e bad comma).2 2).2.2)]]⟩ :: some ⟨true, 1, (acc ++ [(takeF l (markF l i e bad comma).1 e (markF l i e bad comma).2 2).1]).map strC⟩ :: List.map (fun o => Option.map (Root.kill 1) o) (T ++ [some ⟨true, 1, [strC (takeF l (markF l i e bad comma).1 e (markF l i e bad comma).2 2).1]⟩])⟩, ⟨(by rw [show (acc ++ [(takeF l (markF l i e bad comma).1 e (markF l i e bad comma).2 2).1]).length = acc.length + 1 from by simp]; repeat (first | exact .nil | refine .same ?_ | refine .o ?_)), (by rw [show (acc ++ [(takeF l (markF l i e bad comma).1 e (markF l i e bad comma).2 2).1]).map strC = acc.map strC ++ [strC (takeF l (markF l i e bad comma).1 e (markF l i e bad comma).2 2).1] from List.map_append]; rfl)⟩, k, c + 1, (takeF l (markF l i e bad comma).1 e (markF l i e bad comma).2 2).2.1, (takeF l (markF l i e bad comma).1 e (markF l i e bad comma).2 2).2.2, acc ++ [(takeF l (markF l i e bad comma).1 e (markF l i e bad comma).2 2).1], _, rfl, by omega, (by omega), by omega, takeF_le hm, (by simp [hacc]), hk, rfl⟩)
   ·
    simp only [decide_eq_false_iff_not] at a2
    refine Ye ?_
    refine seq_in ?_
    refine Y3 okI1 rfl (by repeat first | with_reducible exact Y2 | refine Y1 (by simp only [Y5, Y4, Y6, qev, St.ev, St.put, qint, Yc, Ya, qbin, Y8, Y7, if_true, if_false, decide_false, a2, ZA]; rfl) ?_) ?_
    refine Yf rfl (fun a4 => ?_) (fun a4 => ?_)
    ·
     simp only [decide_eq_true_eq] at a4
     (exfalso; omega)
    ·
     simp only [decide_eq_false_iff_not] at a4
     refine Ye ?_
     refine Yk okI1 rfl (by repeat first | with_reducible exact Y2 | refine Y1 (by simp only [Y5, Y4, Y6, evsA, qev, St.ev, St.put, St.with, D.cells, D.cell, C.cpy, C.st, C.cp, C.dat, putCells, Y8, Y7, Bool.and_true, Bool.true_and, Nat.reduceMul, Nat.reduceEqDiff, if_true, if_false, decide_false, ne_eq, reduceCtorEq, Nat.reduceLeDiff, Nat.le_refl, Nat.reduceBNe, bne_self_eq_false, beq_self_eq_true, Bool.true_or, callP, callO, dedup, rootsD, rootsC, List.flatMap_cons, List.flatMap_nil, List.filterMap_cons, List.filterMap_nil, Yg, argD, argC, List.contains_nil, objsAt, objOf, List.idxOf?, List.findIdx?, List.findIdx?.go, setObjs, D.ni, D.ni1, C.ni, settle, settle1, settleC, FsI1, hT1, ht0, hne, hz, last_get, buildSliceA, partsA, fillA, reps, chop, tkApp, str_nb, appendA, srcRows, srcOther, D.kill, D.no, C.no, C.kill, killH, Root.kill, a4, tk28, tz9, tsz9, bo9, ZA]; rfl) ?_) ?_
     show Tri _ _ _ _
     refine Yk okI1 rfl (by repeat first | with_reducible exact Y2 | refine Y1 (by simp only [Y5, Y4, Y6, qev, St.ev, St.put, qint, Yc, Ya, qbin, Y8, Y7, if_true, if_false, hq1, show IntKind.i64.wrap (↑(c + 1) : Int) = _ from wrap_i64 _ (by omega) (by omega), ZA]; rfl) ?_) ?_
     simp only []
     (simp only [namesGo, reduceIte, Z7, ↓reduceIte, eq_true a0, a1, a2] at hk; exact ⟨k, by omega, ⟨[.c (.p 0 0 0), .o, .c (.s true 0 []), .c (.h 1 0 (acc ++ [(takeF l i e bad 2).1]).length), .c (.v (.int .i64 (c + 1 : Nat))), .o, .o, .o, .o, .o, .o, .o, .o, .o, .o, .o, .o, .o, .o, .o, .o, .o, .o, .o, .o, .o, .o, .o, .o, .o, .o, .o, .o, .o, .o], some ⟨false, 4, [[.s false 3 (l.map tokC), .v (.int .i64 (takeF l i e bad 2).2.1), .v (.int .i64 e), .v (.int .i64 (takeF l i e bad 2).2.2)]]⟩ :: some ⟨true, 1, (acc ++ [(takeF l i e bad 2).1]).map strC⟩ :: List.map (fun o => Option.map (Root.kill 1) o) (T ++ [some ⟨true, 1, [strC (takeF l i e bad 2).1]⟩])⟩, ⟨(by rw [show (acc ++ [(takeF l i e bad 2).1]).length = acc.length + 1 from by simp]; repeat (first | exact .nil | refine .same ?_ | refine .o ?_)), (by rw [show (acc ++ [(takeF l i e bad 2).1]).map strC = acc.map strC ++ [strC (takeF l i e bad 2).1] from List.map_append]; rfl)⟩, k, c + 1, (takeF l i e bad 2).2.1, (takeF l i e bad 2).2.2, acc ++ [(takeF l i e bad 2).1], _, rfl, by omega, (by omega), by omega, takeF_le hi, (by simp [hacc]), hk, rfl⟩)
  ·
   simp only [Bool.not_eq_false'] at a1
   refine tri_exit ?_
   show Tri _ _ _ _
   refine Y3 okI1 rfl (by repeat first | with_reducible exact Y2 | refine Y1 (by simp only [Y5, Y4, Y6, evsA, qev, St.ev, St.put, St.with, D.cell, C.cpy, C.cp, C.dat, Y8, Y7, Bool.and_true, Bool.true_and, Nat.reduceEqDiff, if_true, if_false, Bool.not_true, beq_self_eq_true, Bool.true_or, callP, callO, dedup, rootsD, rootsC, List.flatMap_cons, List.flatMap_nil, List.filterMap_cons, List.filterMap_nil, Yg, argD, argC, List.contains_nil, objsAt, objOf, List.idxOf?, List.findIdx?, List.findIdx?.go, setObjs, D.ni, settle, settleDs, FsI1, hR, a1, ZA]; rfl) ?_) ?_
   refine Y3 okI1 rfl (by repeat first | with_reducible exact Y2 | refine Y1 (by simp only [Y5, Y4, Y6, qev, St.ev, St.put, ZA]; rfl) ?_) ?_
   refine Yo (Yp (by simp only [outRes, Yi, resD, outD, outC, if_true, ne_eq, reduceCtorEq, List.length_map, ZA]; rfl) rfl (by simp) (by simp) ?_)
   simp only [Z12]
   (simp only [namesGo, reduceIte, ↓reduceIte, eq_true a0, a1] at hk; with_reducible exact hQ2 _ _ _ hk)
 ·
  refine Y3 okI1 rfl (by repeat first | with_reducible exact Y2 | refine Y1 (by simp only [Y5, Y4, Y6, evsA, qev, St.ev, St.put, D.cell, qload, Y9, qmk, C.cpy, TK.agg, qnil, Yb, qpick, qint, Yc, Ya, qbin, qun, liveR, C.cp, C.dat, Y8, Y7, Nat.reduceEqDiff, if_true, if_false, decide_false, cond_false, reduceCtorEq, callP, callO, dedup, rootsD, rootsC, List.flatMap_cons, List.flatMap_nil, List.filterMap_cons, List.filterMap_nil, Yg, argD, argC, objsAt, FsI1, tk80, tsz3, tk3, eq_false a0, ZA]; rfl) ?_) ?_
  refine Yf (b := false) rfl (fun h => by cases h) (fun _ => ?_)
  refine tri_exit ?_
  show Tri _ _ _ _
  refine Y3 okI1 rfl (by repeat first | with_reducible exact Y2 | refine Y1 (by simp only [Y5, Y4, Y6, evsA, qev, St.ev, St.put, St.with, D.cell, C.cpy, C.cp, C.dat, Y8, Y7, Bool.and_true, Bool.true_and, Nat.reduceEqDiff, if_true, if_false, beq_self_eq_true, Bool.true_or, callP, callO, dedup, rootsD, rootsC, List.flatMap_cons, List.flatMap_nil, List.filterMap_cons, List.filterMap_nil, Yg, argD, argC, List.contains_nil, objsAt, objOf, List.idxOf?, List.findIdx?, List.findIdx?.go, setObjs, D.ni, settle, settleDs, FsI1, hR, ZA]; rfl) ?_) ?_
  refine Y3 okI1 rfl (by repeat first | with_reducible exact Y2 | refine Y1 (by simp only [Y5, Y4, Y6, qev, St.ev, St.put, ZA]; rfl) ?_) ?_
  refine Yo (Yp (by simp only [outRes, Yi, resD, outD, outC, if_true, ne_eq, reduceCtorEq, List.length_map, ZA]; rfl) rfl (by simp) (by simp) ?_)
  simp only [Z12]
  (simp only [namesGo, reduceIte, ↓reduceIte, eq_false a0] at hk; with_reducible exact hQ2 _ _ _ hk)
end Go.Dl

namespace Go.Dl
open Go.RowKit
/-- A cell that nobody will change. -/
def C.frz : C → C
 | .s true es rows => if (rows.all fun row => row.all C.cp) = true then .s false es rows else .s true es rows
 | c => c
def D.frzA : D → D
 | .agg xs => .agg (xs.map C.frz)
 | d => d
theorem frzC1 {w : World} {S : Nat → Prop} {c : C} {v : Value} {f : List Nat} (h : Rep w S [] (.k false c v) f) : ∃ f0 f1, f.Perm (f0 ++ f1) ∧ Rep w (fun x => S x ∨ x ∈ f0) [] (.k false c.frz v) f1 := by
 unfold C.frz
 split
 · rename_i es rows
   split
   · rename_i hc
     cases h with
     | nilO => exact ⟨[], [], .refl _, .nilI⟩
     | own hz hb hc' hl hr =>
      rename_i b off cap fp
      have hfp := cells_cp hr (rows_cp hc)
      subst hfp
      exact ⟨[b], [], .refl _, .imm (.inr (by simp)) hc' hl (hr.mono (fun _ h => .inl h) (.refl _ _) (fun _ _ => rfl))⟩
   · exact ⟨[], f, .refl _, h.mono (fun _ h => .inl h) (.refl _ _) (fun _ _ => rfl)⟩
 · exact ⟨[], f, .refl _, h.mono (fun _ h => .inl h) (.refl _ _) (fun _ _ => rfl)⟩
theorem frzCs {w : World} {S : Nat → Prop} : ∀ {cs : List C} {vs : List Value} {f : List Nat}, Rep w S [] (.vs cs vs) f → ∃ f0 f1, f.Perm (f0 ++ f1) ∧ Rep w (fun x => S x ∨ x ∈ f0) [] (.vs (cs.map C.frz) vs) f1
 | [], _, _, h => by cases h; exact ⟨[], [], .refl _, .vnil⟩
 | c :: cs, _, _, h => by
  cases h with
  | vcons h1 h2 =>
   obtain ⟨a0, a1, p1, r1⟩ := frzC1 h1
   obtain ⟨b0, b1, p2, r2⟩ := frzCs h2
   refine ⟨a0 ++ b0, a1 ++ b1, (p1.append p2).trans ?_, .vcons (r1.mono (fun x h => h.imp id fun h => List.mem_append_left _ h) (.refl _ _) (fun _ _ => rfl)) (r2.mono (fun x h => h.imp id fun h => List.mem_append_right _ h) (.refl _ _) (fun _ _ => rfl))⟩
   rw [List.append_assoc, List.append_assoc]
   refine List.Perm.append_left _ ?_
   rw [← List.append_assoc, ← List.append_assoc]
   exact List.Perm.append_right _ List.perm_append_comm
theorem left_frzA {w w' : World} {S : Nat → Prop} {pls : List Pl} {fps : List (List Nat)} {d : D} {v : Value} {objs' : List Obj} (h : Left w w' S pls fps d v objs') : Left w w' S pls fps d.frzA v objs' := by
 unfold D.frzA
 split
 · rename_i xs
   refine ⟨h.size, h.keep, h.os, h.tape, h.output, ?_⟩
   obtain ⟨S', pls', fps', fpd, l1, l2, l3, l4, l5, l6, l7⟩ := h.rest
   obtain ⟨arr, hv, h3⟩ := (show ∃ arr : Array Value, v = .agg arr ∧ Rep w' S' [] (.vs xs arr.toList) fpd from l3)
   obtain ⟨f0, f1, hp, hr⟩ := frzCs h3
   have hm : ∀ x, x ∈ fpd ↔ x ∈ f0 ∨ x ∈ f1 := fun x => by rw [hp.mem_iff, List.mem_append]
   have hnd : (f0 ++ f1).Nodup := hp.nodup_iff.1 (List.nodup_append.1 l5).1
   refine ⟨fun x => S' x ∨ x ∈ f0, pls', fps', f1, fun x hx => .inl (l1 x hx), fun x hx => ?_, ⟨arr, hv, hr⟩, ?_, ?_, ?_, l7⟩
   · rcases hx with hx | hx
     · exact l2 x hx
     · have := l6 x (List.mem_append_left _ ((hm x).2 (.inl hx)))
       exact ⟨this.2.1, .inr this.2.2⟩
   · obtain ⟨m1, m2, m3⟩ := l4
     refine ⟨m1, m2, fun i ob hob => ?_⟩
     obtain ⟨p, f, r1, r2, r3⟩ := m3 i ob hob
     exact ⟨p, f, r1, r2, r3.mono (fun _ h => .inl h) (.refl _ _) (fun _ _ => rfl)⟩
   · have l5' := List.nodup_append.1 l5
     exact List.nodup_append.2 ⟨(List.nodup_append.1 hnd).2.1, l5'.2.1, fun x hx y hy hxy => l5'.2.2 x ((hm x).2 (.inr hx)) y hy hxy⟩
   · intro x hx
     rcases List.mem_append.1 hx with h | h
     · obtain ⟨r1, r2, r3⟩ := l6 x (List.mem_append_left _ ((hm x).2 (.inr h)))
       refine ⟨?_, r2, r3⟩
       rintro (h' | h')
       · exact r1 h'
       · exact (List.nodup_append.1 hnd).2.2 x h' x h rfl
     · obtain ⟨r1, r2, r3⟩ := l6 x (List.mem_append_right _ h)
       refine ⟨?_, r2, r3⟩
       rintro (h' | h')
       · exact r1 h'
       · exact (List.nodup_append.1 l5).2.2 x ((hm x).2 (.inl h')) x h rfl
 · exact h
theorem meets_frzA {P : Program} {k : FuncId} {spec : Spec} (h : Meets P k spec) : Meets P k (fun args objs Q => spec args objs (fun d os => Q d.frzA os)) := by
 intro args objs Q hs w S vs pls fps h1 h2 h3 h4 h5 h6
 refine (h args objs _ hs w S vs pls fps h1 h2 h3 h4 h5 h6).mono ?_
 rintro e w' ⟨v, d, os, e1, hq, hl, left⟩
 exact ⟨v, d.frzA, os, e1, hq, hl, left_frzA left⟩
theorem meets_frzAO {P : Program} {k : FuncId} {f : List D → List Obj → Option (D × List Obj)} (h : Meets P k (detS f)) : Meets P k (detS fun a o => (f a o).map fun r => (r.1.frzA, r.2)) := by
 intro args objs Q hs
 refine meets_frzA h args objs Q ?_
 obtain ⟨d, os, h2, h3⟩ := hs
 cases hf : f args objs with
 | none => simp only [hf] at h2; cases h2
 | some d0 => simp only [hf] at h2; cases h2; exact ⟨d0.1, d0.2, hf, h3⟩
theorem meets_frzAP {P : Program} {k : FuncId} {f : List D → Option D} (h : Meets P k (pureS f)) : Meets P k (pureS fun a => (f a).map D.frzA) := by
 intro args objs Q hs
 refine meets_frzA h args objs Q ?_
 obtain ⟨h1, d, h2, h3⟩ := hs
 cases hf : f args with
 | none => simp only [hf] at h2; cases h2
 | some d0 => simp only [hf] at h2; cases h2; exact ⟨h1, d0, hf, h3⟩
end Go.Dl
