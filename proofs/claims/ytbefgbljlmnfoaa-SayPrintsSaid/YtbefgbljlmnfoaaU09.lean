/- The walks of the parser's peek, take, mark; The walks of digits and number; The walk of number; The walks of forms, args, arg (a number), step (the word tick); The walks of nibble, count; the parser's contracts, said for callers. -/
import Derived.Test.YtbefgbljlmnfoaaU08
set_option linter.all false
namespace Go.Dl
open Go.RowKit
open Go.Proofs
set_option linter.unusedSimpArgs false
set_option linter.unusedVariables false
def peekF (l : List Tok) (i : Nat) (bad : Int) (m : ByteArray) : Bool := decide (bad < 0) && match l[i]? with
 | some t => decide (t.1 = 3) && strEq t.2.1 m
 | none => false
def oPeek : List D → List Obj → Option (D × List Obj)
 | [.c (.p 0 0 0), .c (.v (.string m))], [o] => (decPa o).map fun r => (dB (peekF r.1 r.2.1 r.2.2.2 m), [o])
 | _, _ => none
theorem meets82 : Meets Try.prog 82 (detS oPeek) := by
 refine meets_of_tri (show Try.prog.funcs[82]? = some Try.f82 by kernel_rfl) rfl (n := 51) rfl (rs := [ResultVar.tmp 4]) rfl ?_
 rintro args objs Q ⟨d, os, hd, hQ⟩
 unfold oPeek at hd
 split at hd
 · rename_i m o
   cases hp : decPa o with
   | none => rw [hp] at hd; cases hd
   | some r =>
    obtain ⟨l, i, e, bad⟩ := r
    rw [hp] at hd
    cases hd
    obtain ⟨rfl, hl, hi⟩ := decPa_eq hp
    have hlm : l.length ≤ maxStr := by unfold maxStr; omega
    simp only [paObj] at hQ ⊢
    refine Y3 ok0 rfl (by repeat first | with_reducible exact Y2 | refine Y1 (by simp only [Y5, Y4, Y6, qev, St.ev, St.put, Y8, Y7, List.replicate, Nat.reduceAdd, Nat.reduceSub, ZA]; rfl) ?_) ?_
    by_cases hb : bad < 0
    · by_cases hil : i < l.length
      · obtain ⟨x, hx⟩ : ∃ x, l[i]? = some x := ⟨l[i], List.getElem?_eq_getElem hil⟩
        have hlt : ((i : Int) < (l.length : Int)) = True := eq_true (by omega)
        have hg := toks_get l i x hx
        obtain ⟨k, t, at'⟩ := x
        simp only [peekF, hx, hb, decide_true, Bool.true_and] at hQ
        by_cases hk : k = 3
        · simp only [hk, decide_true, Bool.true_and] at hQ
          refine seq_any mixed ok0 rfl (by kernel_rfl) (by repeat first | with_reducible exact Y2 | refine Y1 (by simp only [Y5, Y4, Y6, qev, St.ev, St.put, D.int, qload, Y9, qmk, C.cpy, TK.agg, qnil, Yb, qindexAddr, qpick, qint, Yc, qstr, Ya, qbin, qlen, qbuiltin, liveR, C.cp, Y8, Y7, if_true, if_false, decide_true, cond_true, ne_eq, reduceCtorEq, Nat.add_zero, tk3, tsz3, tk9, tsz9, tk23, tsz23, tk33, tsz33, tk80, Int.toNat_natCast, Int.natCast_nonneg, List.length_map, hlm, tokC, hlt, hg, eq_true hb, eq_true hk, ZA]; rfl) ?_) ?_
          refine Yo (Yp (by simp only [outRes, Yi, resD, outD, outC, C.dat, if_true, ZA]; rfl) rfl .nil (by simp) ?_)
          exact hQ
        · simp only [hk, decide_false, Bool.false_and] at hQ
          refine seq_any mixed ok0 rfl (by kernel_rfl) (by repeat first | with_reducible exact Y2 | refine Y1 (by simp only [Y5, Y4, Y6, qev, St.ev, St.put, D.int, qload, Y9, qmk, C.cpy, TK.agg, qnil, Yb, qindexAddr, qpick, qint, Yc, isEq, qeq, Ya, qbin, qlen, qbuiltin, liveR, C.cp, Y8, Y7, Option.bind_none, if_true, if_false, decide_true, decide_false, cond_true, cond_false, ne_eq, reduceCtorEq, Nat.add_zero, tk3, tsz3, tk9, tsz9, tk23, tsz23, tk33, tsz33, tk80, Int.toNat_natCast, Int.natCast_nonneg, List.length_map, hlm, tokC, hlt, hg, eq_true hb, eq_false hk, ZA]; rfl) ?_) ?_
          refine Yo (Yp (by simp only [outRes, Yi, resD, outD, outC, C.dat, if_true, ZA]; rfl) rfl .nil (by simp) ?_)
          exact hQ
      · have hx : l[i]? = none := List.getElem?_eq_none (by omega)
        simp only [peekF, hx, Bool.and_false] at hQ
        refine seq_any mixed ok0 rfl (by kernel_rfl) (by repeat first | with_reducible exact Y2 | refine Y1 (by simp only [Y5, Y4, Y6, qev, St.ev, St.put, D.int, qload, Y9, qmk, C.cpy, TK.agg, qnil, Yb, qpick, qint, Yc, isEq, qeq, Ya, qbin, qlen, qbuiltin, liveR, C.cp, Y8, Y7, Option.bind_none, if_true, if_false, decide_true, decide_false, cond_true, cond_false, reduceCtorEq, Nat.add_zero, tk3, tsz3, tk9, tsz9, tk23, tsz23, tk33, tk80, List.length_map, hlm, eq_true hb, show ((i : Int) < (l.length : Int)) = False from eq_false (by omega), ZA]; rfl) ?_) ?_
        refine Yo (Yp (by simp only [outRes, Yi, resD, outD, outC, C.dat, if_true, ZA]; rfl) rfl .nil (by simp) ?_)
        exact hQ
    · simp only [peekF, hb, decide_false, Bool.false_and] at hQ
      refine seq_any mixed ok0 rfl (by kernel_rfl) (by repeat first | with_reducible exact Y2 | refine Y1 (by simp only [Y5, Y4, Y6, qev, St.ev, St.put, D.int, qload, Y9, qmk, C.cpy, TK.agg, qnil, Yb, qpick, qint, Yc, isEq, qeq, Ya, qbin, qlen, qbuiltin, liveR, C.cp, Y8, Y7, Option.bind_none, if_true, if_false, decide_false, cond_false, reduceCtorEq, tk3, tsz3, tk9, tsz9, tsz23, tk33, tk80, eq_false hb, ZA]; rfl) ?_) ?_
      refine Yo (Yp (by simp only [outRes, Yi, resD, outD, outC, C.dat, if_true, ZA]; rfl) rfl .nil (by simp) ?_)
      exact hQ
 · cases hd
def FsK2 : Fs := { Fs.none with objs := fun k => if k = 62 then some oFail else if k = 82 then some oPeek else none }
theorem okK2 : FsOK Try.prog FsK2 := by
 refine ⟨fun _ _ h => (by cases h), fun k f h => ?_⟩
 simp only [FsK2] at h
 split at h
 · rename_i hk; subst hk; cases h; exact ⟨by kernel_rfl, meets62⟩
 split at h
 · rename_i hk; subst hk; cases h; exact ⟨by kernel_rfl, meets82⟩
 · cases h
/-- A token of a kind: its text, the next place, the first error. -/
def takeF (l : List Tok) (i : Nat) (e bad kind : Int) : ByteArray × Nat × Int :=
 if 0 ≤ bad then (noText, i, bad) else match l[i]? with
  | some t => if t.1 = kind then (t.2.1, i + 1, bad) else (noText, i, failF l i e bad)
  | none => (noText, i, failF l i e bad)
def oTakeP : List D → List Obj → Option (D × List Obj)
 | [.c (.p 0 0 0), .c (.v (.int .i64 kind))], [o] => (decPa o).map fun r => (.c (.v (.string (takeF r.1 r.2.1 r.2.2.1 r.2.2.2 kind).1)), [paObj r.1 (takeF r.1 r.2.1 r.2.2.1 r.2.2.2 kind).2.1 r.2.2.1 (takeF r.1 r.2.1 r.2.2.1 r.2.2.2 kind).2.2])
 | _, _ => none
theorem meets68 : Meets Try.prog 68 (detS oTakeP) := by
 refine meets_of_tri (show Try.prog.funcs[68]? = some Try.f68 by kernel_rfl) rfl (n := 56) rfl (rs := [ResultVar.tmp 4]) rfl ?_
 rintro args objs Q ⟨d, os, hd, hQ⟩
 unfold oTakeP at hd
 split at hd
 · rename_i kind o
   cases hp : decPa o with
   | none => rw [hp] at hd; cases hd
   | some r =>
    obtain ⟨l, i, e, bad⟩ := r
    rw [hp] at hd
    cases hd
    obtain ⟨rfl, hl, hi⟩ := decPa_eq hp
    have hlm : l.length ≤ maxStr := by unfold maxStr; omega
    have hF : oFail [.c (.p 0 0 0)] [paObj l i e bad] = some (.t [], [paObj l i e (failF l i e bad)]) := by
     simp only [oFail, decPa_pa hl hi, Z4]
    simp only [paObj] at hQ hF ⊢
    refine Y3 ok0 rfl (by repeat first | with_reducible exact Y2 | refine Y1 (by simp only [Y5, Y4, Y6, qev, St.ev, St.put, Y8, Y7, List.replicate, Nat.reduceAdd, Nat.reduceSub, ZA]; rfl) ?_) ?_
    by_cases hb : 0 ≤ bad
    · simp only [takeF, if_pos hb] at hQ
      refine seq_in (Y3 ok0 rfl (by repeat first | with_reducible exact Y2 | refine Y1 (by simp only [Y5, Y4, Y6, qev, St.ev, St.put, qload, Y9, qmk, C.cpy, TK.agg, qnil, Yb, qint, Yc, Ya, qbin, liveR, C.cp, Y8, Y7, if_true, if_false, decide_true, reduceCtorEq, tk3, tsz3, tk80, eq_true hb, ZA]; rfl) ?_) ?_)
      refine Yf rfl (fun _ => ?_) (fun h => by cases h)
      refine Y3 ok0 rfl (by repeat first | with_reducible exact Y2 | refine Y1 (by simp only [Y5, Y4, Y6, qev, St.ev, St.put, Y8, Y7, ZA]; rfl) ?_) ?_
      refine Yo (Yp (by simp only [outRes, Yi, resD, outD, outC, C.dat, if_true, ZA]; rfl) rfl .nil (by simp) ?_)
      exact hQ
    · simp only [takeF, if_neg hb] at hQ
      refine seq_in (Y3 ok0 rfl (by repeat first | with_reducible exact Y2 | refine Y1 (by simp only [Y5, Y4, Y6, qev, St.ev, St.put, qload, Y9, qmk, C.cpy, TK.agg, qnil, Yb, qint, Yc, Ya, qbin, liveR, C.cp, Y8, Y7, if_true, if_false, decide_false, reduceCtorEq, tk3, tsz3, tk80, eq_false hb, ZA]; rfl) ?_) ?_)
      refine Yf rfl (fun h => by cases h) (fun _ => Ye ?_)
      by_cases hil : i < l.length
      · obtain ⟨x, hx⟩ : ∃ x, l[i]? = some x := ⟨l[i], List.getElem?_eq_getElem hil⟩
        have hlt : ((i : Int) < (l.length : Int)) = True := eq_true (by omega)
        have hge : ((l.length : Int) ≤ (i : Int)) = False := eq_false (by omega)
        have hg := toks_get l i x hx
        have hw := wrap_succ i l.length hil hlm
        have hw1 : IntKind.wrap .i64 (((i + 1 : Nat) : Int) - 1) = (i : Int) := by rw [wrap_i64 _ (by omega) (by omega)]; omega
        obtain ⟨k, t, at'⟩ := x
        simp only [hx] at hQ
        by_cases hk : k = kind
        · simp only [if_pos hk] at hQ
          refine seq_in (seq_any mixed ok0 rfl (by kernel_rfl) (by repeat first | with_reducible exact Y2 | refine Y1 (by simp only [Y5, Y4, Y6, qev, St.ev, St.put, D.int, qload, Y9, qmk, C.cpy, TK.agg, qnil, Yb, qindexAddr, qpick, qint, Yc, Ya, qbin, qlen, qbuiltin, liveR, C.cp, Y8, Y7, if_true, if_false, decide_true, decide_false, Bool.not_true, cond_false, ne_eq, reduceCtorEq, Nat.add_zero, tk3, tsz3, tk23, tsz23, tk33, tsz33, tk80, Int.toNat_natCast, Int.natCast_nonneg, List.length_map, hlm, tokC, hlt, hge, hg, eq_true hk, ZA]; rfl) ?_) ?_)
          refine Yf rfl (fun h => by cases h) (fun _ => Ye ?_)
          refine Y3 ok0 rfl (by repeat first | with_reducible exact Y2 | refine Y1 (by simp only [Y5, Y4, Y6, qev, St.ev, St.put, D.cells, qload, Y9, qmk, C.cpy, TK.agg, qnil, Yb, qint, Yc, Ya, qbin, liveR, C.st, C.cp, C.dat, storeA, putCells, Y8, Y7, Nat.reduceAdd, if_true, if_false, ne_eq, reduceCtorEq, Nat.reduceLeDiff, implies_true, tk3, tsz3, tk80, hw, ZA]; rfl) ?_) ?_
          refine seq_any mixed ok0 rfl (by kernel_rfl) (by repeat first | with_reducible exact Y2 | refine Y1 (by simp only [Y5, Y4, Y6, qev, St.ev, St.put, D.int, qload, Y9, qmk, C.cpy, TK.agg, qnil, Yb, qindexAddr, qint, Yc, Ya, qbin, liveR, C.cp, Y8, Y7, if_true, if_false, ne_eq, reduceCtorEq, Nat.add_zero, tk3, tsz3, tk9, tsz9, tk23, tsz23, tk33, tsz33, tk80, Int.toNat_natCast, Int.natCast_nonneg, List.length_map, tokC, hw1, hlt, hg, ZA]; rfl) ?_) ?_
          refine Yo (Yp (by simp only [outRes, Yi, resD, outD, outC, C.dat, if_true, ZA]; rfl) rfl .nil (by simp) ?_)
          exact hQ
        · simp only [if_neg hk] at hQ
          refine seq_in (seq_any mixed ok0 rfl (by kernel_rfl) (by repeat first | with_reducible exact Y2 | refine Y1 (by simp only [Y5, Y4, Y6, qev, St.ev, St.put, D.int, qload, Y9, qmk, C.cpy, TK.agg, qnil, Yb, qindexAddr, qpick, qint, Yc, Ya, qbin, qlen, qbuiltin, liveR, C.cp, Y8, Y7, if_true, if_false, decide_false, Bool.not_false, cond_false, ne_eq, reduceCtorEq, Nat.add_zero, tk3, tsz3, tk23, tsz23, tk33, tsz33, tk80, Int.toNat_natCast, Int.natCast_nonneg, List.length_map, hlm, tokC, hlt, hge, hg, eq_false hk, ZA]; rfl) ?_) ?_)
          refine Yf rfl (fun _ => ?_) (fun h => by cases h)
          refine Y3 okK2 rfl (by repeat first | with_reducible exact Y2 | refine Y1 (by simp only [Y5, Y4, Y6, evsA, qev, St.ev, St.put, St.with, D.cell, C.dat, Bool.and_true, Nat.reduceEqDiff, if_true, if_false, beq_self_eq_true, Bool.true_or, callP, callO, Fs.none, dedup, rootsD, rootsC, List.flatMap_cons, List.flatMap_nil, List.filterMap_cons, List.filterMap_nil, Yg, argD, argC, List.contains_nil, objsAt, objOf, List.idxOf?, List.findIdx?, List.findIdx?.go, setObjs, settle, settleDs, FsK2, hF, ZA]; rfl) ?_) ?_
          refine Y3 ok0 rfl (by repeat first | with_reducible exact Y2 | refine Y1 (by simp only [Y5, Y4, Y6, qev, St.ev, St.put, Y8, Y7, ZA]; rfl) ?_) ?_
          refine Yo (Yp (by simp only [outRes, Yi, resD, outD, outC, C.dat, if_true, ZA]; rfl) rfl .nil (by simp) ?_)
          exact hQ
      · have hx : l[i]? = none := List.getElem?_eq_none (by omega)
        simp only [hx] at hQ
        refine seq_in (seq_any mixed ok0 rfl (by kernel_rfl) (by repeat first | with_reducible exact Y2 | refine Y1 (by simp only [Y5, Y4, Y6, qev, St.ev, St.put, D.int, qload, Y9, qmk, C.cpy, TK.agg, qnil, Yb, qpick, qint, Yc, isEq, qeq, Ya, qbin, qlen, qbuiltin, liveR, C.cp, Y8, Y7, Option.bind_none, if_true, if_false, decide_true, cond_true, reduceCtorEq, Nat.add_zero, tk3, tsz3, tk23, tsz23, tk33, tk80, List.length_map, hlm, show ((l.length : Int) ≤ (i : Int)) = True from eq_true (by omega), ZA]; rfl) ?_) ?_)
        refine Yf rfl (fun _ => ?_) (fun h => by cases h)
        refine Y3 okK2 rfl (by repeat first | with_reducible exact Y2 | refine Y1 (by simp only [Y5, Y4, Y6, evsA, qev, St.ev, St.put, St.with, D.cell, C.dat, Bool.and_true, Nat.reduceEqDiff, if_true, if_false, beq_self_eq_true, Bool.true_or, callP, callO, Fs.none, dedup, rootsD, rootsC, List.flatMap_cons, List.flatMap_nil, List.filterMap_cons, List.filterMap_nil, Yg, argD, argC, List.contains_nil, objsAt, objOf, List.idxOf?, List.findIdx?, List.findIdx?.go, setObjs, settle, settleDs, FsK2, hF, ZA]; rfl) ?_) ?_
        refine Y3 ok0 rfl (by repeat first | with_reducible exact Y2 | refine Y1 (by simp only [Y5, Y4, Y6, qev, St.ev, St.put, Y8, Y7, ZA]; rfl) ?_) ?_
        refine Yo (Yp (by simp only [outRes, Yi, resD, outD, outC, C.dat, if_true, ZA]; rfl) rfl .nil (by simp) ?_)
        exact hQ
 · cases hd
/-- A mark. -/
def markF (l : List Tok) (i : Nat) (e bad : Int) (m : ByteArray) : Nat × Int := if peekF l i bad m = true then (i + 1, bad) else (i, failF l i e bad)
def oMark : List D → List Obj → Option (D × List Obj)
 | [.c (.p 0 0 0), .c (.v (.string m))], [o] => (decPa o).map fun r => (.t [], [paObj r.1 (markF r.1 r.2.1 r.2.2.1 r.2.2.2 m).1 r.2.2.1 (markF r.1 r.2.1 r.2.2.1 r.2.2.2 m).2])
 | _, _ => none
theorem meets70 : Meets Try.prog 70 (detS oMark) := by
 refine meets_of_tri (show Try.prog.funcs[70]? = some Try.f70 by kernel_rfl) rfl (n := 17) rfl (rs := []) rfl ?_
 rintro args objs Q ⟨d, os, hd, hQ⟩
 unfold oMark at hd
 split at hd
 · rename_i m o
   cases hp : decPa o with
   | none => rw [hp] at hd; cases hd
   | some r =>
    obtain ⟨l, i, e, bad⟩ := r
    rw [hp] at hd
    cases hd
    obtain ⟨rfl, hl, hi⟩ := decPa_eq hp
    have hlm : l.length ≤ maxStr := by unfold maxStr; omega
    have hF : oFail [.c (.p 0 0 0)] [paObj l i e bad] = some (.t [], [paObj l i e (failF l i e bad)]) := by
     simp only [oFail, decPa_pa hl hi, Z4]
    have hP : oPeek [.c (.p 0 0 0), .c (.v (.string m))] [paObj l i e bad] = some (dB (peekF l i bad m), [paObj l i e bad]) := by
     simp only [oPeek, decPa_pa hl hi, Z4]
    have hw := wrap_succ i 2000000 (by omega) (by decide)
    simp only [paObj] at hQ hF hP ⊢
    cases hpk : peekF l i bad m with
    | true =>
     rw [hpk] at hP
     simp only [markF, hpk, if_true] at hQ
     refine seq_in (Y3 okK2 rfl (by repeat first | with_reducible exact Y2 | refine Y1 (by simp only [Y5, Y4, Y6, evsA, qev, St.ev, St.put, St.with, D.cell, C.cpy, qun, C.cp, C.dat, List.replicate, Bool.and_true, Nat.reduceAdd, Nat.reduceSub, Nat.reduceEqDiff, if_true, if_false, Bool.not_true, beq_self_eq_true, Bool.true_or, dB, callP, callO, Fs.none, dedup, rootsD, rootsC, List.flatMap_cons, List.flatMap_nil, List.filterMap_cons, List.filterMap_nil, Yg, argD, argC, List.contains_nil, objsAt, objOf, List.idxOf?, List.findIdx?, List.findIdx?.go, setObjs, settle, settle1, settleC, FsK2, hP, ZA]; rfl) ?_) ?_)
     refine Yf rfl (fun h => by cases h) (fun _ => Ye ?_)
     refine Yk ok0 rfl (by repeat first | with_reducible exact Y2 | refine Y1 (by simp only [Y5, Y4, Y6, qev, St.ev, St.put, D.cells, qload, Y9, qmk, C.cpy, TK.agg, qnil, Yb, qint, Yc, Ya, qbin, liveR, C.st, C.cp, C.dat, storeA, putCells, Y8, Y7, Nat.reduceAdd, if_true, if_false, ne_eq, reduceCtorEq, Nat.reduceLeDiff, implies_true, tk3, tsz3, tk80, hw, ZA]; rfl) ?_) ?_
     refine ends_norm rfl rfl .nil (by simp) ?_
     exact hQ
    | false =>
     rw [hpk] at hP
     simp only [markF, hpk, Z7, if_false] at hQ
     refine seq_in (Y3 okK2 rfl (by repeat first | with_reducible exact Y2 | refine Y1 (by simp only [Y5, Y4, Y6, evsA, qev, St.ev, St.put, St.with, D.cell, C.cpy, qun, C.cp, C.dat, List.replicate, Bool.and_true, Nat.reduceAdd, Nat.reduceSub, Nat.reduceEqDiff, if_true, if_false, Bool.not_false, beq_self_eq_true, Bool.true_or, dB, callP, callO, Fs.none, dedup, rootsD, rootsC, List.flatMap_cons, List.flatMap_nil, List.filterMap_cons, List.filterMap_nil, Yg, argD, argC, List.contains_nil, objsAt, objOf, List.idxOf?, List.findIdx?, List.findIdx?.go, setObjs, settle, settle1, settleC, FsK2, hP, ZA]; rfl) ?_) ?_)
     refine Yf rfl (fun _ => ?_) (fun h => by cases h)
     refine Y3 okK2 rfl (by repeat first | with_reducible exact Y2 | refine Y1 (by simp only [Y5, Y4, Y6, evsA, qev, St.ev, St.put, St.with, D.cell, C.dat, Bool.and_true, Nat.reduceEqDiff, if_true, if_false, beq_self_eq_true, Bool.true_or, callP, callO, Fs.none, dedup, rootsD, rootsC, List.flatMap_cons, List.flatMap_nil, List.filterMap_cons, List.filterMap_nil, Yg, argD, argC, List.contains_nil, objsAt, objOf, List.idxOf?, List.findIdx?, List.findIdx?.go, setObjs, settle, settleDs, FsK2, hF, ZA]; rfl) ?_) ?_
     refine Yo (Yp (by simp only [outRes, Yi, Yh, ZA]; rfl) rfl .nil (by simp) ?_)
     exact hQ
 · cases hd
end Go.Dl

namespace Go.Dl
open Go.RowKit
open Go.Proofs
set_option linter.unusedSimpArgs false
set_option linter.unusedVariables false
/-- Digits, from a number on. -/
def digN : List UInt8 → Int → Option Int
 | [], n => some n
 | c :: l, n => if IntKind.wrap .u64 ((IntKind.wrap .u64 (18446744073709551615 - IntKind.wrap .u64 (IntKind.wrap .u8 ((c.toNat : Int) - 48)))).tdiv 10) < n then none
  else digN l (IntKind.wrap .u64 (IntKind.wrap .u64 (10 * n) + IntKind.wrap .u64 (IntKind.wrap .u8 ((c.toNat : Int) - 48))))
def digitsF (s : ByteArray) : Int × Bool :=
 if strEq s noText = true then (0, false) else if 1 < s.size ∧ byt s 0 = 48 then (0, false) else if 20 < s.size then (0, false) else match digN s.data.toList 0 with
  | none => (0, false)
  | some n => (n, true)
def pDigits : List D → Option D
 | [.c (.v (.string s))] => if s.size ≤ 1000000 then some (.t [.c (.v (.int .u64 (digitsF s).1)), dB (digitsF s).2]) else none
 | _ => none
theorem meets76 : Meets Try.prog 76 (pureS pDigits) := by
 refine meets_of_tri (show Try.prog.funcs[76]? = some Try.f76 by kernel_rfl) rfl (n := 46) rfl (rs := [ResultVar.tmp 2, ResultVar.tmp 3]) rfl ?_
 rintro args objs Q ⟨rfl, d, hd, hQ⟩
 unfold pDigits at hd
 split at hd
 · rename_i s
   split at hd
   · rename_i hs
     cases hd
     refine Y3 ok0 rfl (by repeat first | with_reducible exact Y2 | refine Y1 (by simp only [Y5, Y4, Y6, qev, St.ev, St.put, Y8, Y7, List.replicate, Nat.reduceSub, ZA]; rfl) ?_) ?_
     have bad : ∀ A : St, True := fun _ => trivial
     by_cases h0 : strEq s noText = true
     · simp only [digitsF, if_pos h0] at hQ
       have h0' : strEq s ⟨#[]⟩ = true := h0
       refine seq_in (Y3 ok0 rfl (by repeat first | with_reducible exact Y2 | refine Y1 (by simp only [Y5, Y4, Y6, qev, St.ev, St.put, qpick, qstr, isEq, qbin, qlen, qbuiltin, Y8, Y7, if_false, cond_true, reduceCtorEq, h0', ZA]; rfl) ?_) ?_)
       refine Yf rfl (fun _ => ?_) (fun h => by cases h)
       refine Y3 ok0 rfl (by repeat first | with_reducible exact Y2 | refine Y1 (by simp only [Y5, Y4, Y6, qev, St.ev, St.put, Y8, Y7, ZA]; rfl) ?_) ?_
       refine Yo (Yp (by simp only [outRes, Yi, resD, Yh, outD, outC, C.dat, if_true, ZA]; rfl) rfl (by simp) (by simp) ?_)
       exact hQ
     · simp only [digitsF, if_neg h0] at hQ
       have h0' : strEq s ⟨#[]⟩ = false := (Bool.eq_false_iff).2 h0
       by_cases h1 : 1 < s.size
       · by_cases h2 : byt s 0 = 48
         · simp only [if_pos (And.intro h1 h2)] at hQ
           have h2' : ((s.data.toList.getD 0 0).toNat : Int) = 48 := h2
           refine seq_in (Y3 ok0 rfl (by repeat first | with_reducible exact Y2 | refine Y1 (by simp only [Y5, Y4, Y6, qev, St.ev, St.put, D.int, qindex, qpick, qint, Yc, qstr, isEq, Ya, qbin, qlen, qbuiltin, Y8, Y7, if_true, if_false, decide_true, cond_true, cond_false, reduceCtorEq, Int.reduceLE, tk9, Int.toNat_zero, h0', show ((1 : Int) < (s.size : Int)) = True from eq_true (by omega), show ((0 : Int) < (s.size : Int)) = True from eq_true (by omega), eq_true h2', ZA]; rfl) ?_) ?_)
           refine Yf rfl (fun _ => ?_) (fun h => by cases h)
           refine Y3 ok0 rfl (by repeat first | with_reducible exact Y2 | refine Y1 (by simp only [Y5, Y4, Y6, qev, St.ev, St.put, Y8, Y7, ZA]; rfl) ?_) ?_
           refine Yo (Yp (by simp only [outRes, Yi, resD, Yh, outD, outC, C.dat, if_true, ZA]; rfl) rfl (by simp) (by simp) ?_)
           exact hQ
         · simp only [if_neg (show ¬ (1 < s.size ∧ byt s 0 = 48) from fun h => h2 h.2)] at hQ
           have h2' : ¬ ((s.data.toList.getD 0 0).toNat : Int) = 48 := h2
           by_cases h3 : 20 < s.size
           · simp only [if_pos h3] at hQ
             refine seq_in (Y3 ok0 rfl (by repeat first | with_reducible exact Y2 | refine Y1 (by simp only [Y5, Y4, Y6, qev, St.ev, St.put, D.int, qindex, qpick, qint, Yc, qstr, Ya, qbin, qlen, qbuiltin, Y8, Y7, if_true, if_false, decide_true, decide_false, cond_true, cond_false, Int.reduceLE, tk9, Int.toNat_zero, h0', show ((1 : Int) < (s.size : Int)) = True from eq_true (by omega), show ((0 : Int) < (s.size : Int)) = True from eq_true (by omega), eq_false h2', show ((20 : Int) < (s.size : Int)) = True from eq_true (by omega), ZA]; rfl) ?_) ?_)
             refine Yf rfl (fun _ => ?_) (fun h => by cases h)
             refine Y3 ok0 rfl (by repeat first | with_reducible exact Y2 | refine Y1 (by simp only [Y5, Y4, Y6, qev, St.ev, St.put, Y8, Y7, ZA]; rfl) ?_) ?_
             refine Yo (Yp (by simp only [outRes, Yi, resD, Yh, outD, outC, C.dat, if_true, ZA]; rfl) rfl (by simp) (by simp) ?_)
             exact hQ
           · simp only [if_neg h3] at hQ
             refine seq_in (Y3 ok0 rfl (by repeat first | with_reducible exact Y2 | refine Y1 (by simp only [Y5, Y4, Y6, qev, St.ev, St.put, D.int, qindex, qpick, qint, Yc, qstr, Ya, qbin, qlen, qbuiltin, Y8, Y7, if_true, if_false, decide_true, decide_false, cond_true, cond_false, Int.reduceLE, tk9, Int.toNat_zero, h0', show ((1 : Int) < (s.size : Int)) = True from eq_true (by omega), show ((0 : Int) < (s.size : Int)) = True from eq_true (by omega), eq_false h2', show ((20 : Int) < (s.size : Int)) = False from eq_false (by omega), ZA]; rfl) ?_) ?_)
             refine Yf rfl (fun h => by cases h) (fun _ => Ye ?_)
             refine Y3 ok0 rfl (by repeat first | with_reducible exact Y2 | refine Y1 (by simp only [Y5, Y4, Y6, qev, St.ev, St.put, Y8, Y7, ZA]; rfl) ?_) ?_
             obtain ⟨bs, hbs⟩ : ∃ bs, s.data.toList = bs := ⟨_, rfl⟩
             rw [hbs] at hQ
             have hbl : bs.length ≤ 1000000 := by rw [← hbs]; exact Nat.le_trans (Nat.le_of_eq (B_length s)) hs
             have hbm : bs.length ≤ maxStr := by unfold maxStr; omega
             refine seq_in (Y3 ok0 rfl (by repeat first | with_reducible exact Y2 | refine Y1 (by simp only [Y5, Y4, Y6, qev, St.ev, St.put, St.with, qconv, qlen, qbuiltin, liveR, Y8, Y7, if_true, tk5, tk9, tk35, bytesStr, strBytes, hbs, hbm, ZA]; rfl) ?_) ?_)
             refine tri_block ?_
             refine tri_loop_le (fun n A => ∃ (j : Nat) (m : Int), j ≤ bs.length ∧ n = bs.length - j ∧ digN (bs.drop j) m = digN bs 0 ∧ A = ⟨[.o, .o, .o, .o, .c (.v (.int .u64 m)), .o, .o, .o, .o, .o, .o, .o, .o, .o, .o, .o, .o, .o, .o, .o, .o, .o, .o, .o, .o, .o, .c (.h 0 0 bs.length), dI bs.length, dI j, .o, .o, .o, .o, .o, .o, .o, .o, .o, .o, .o, .o, .o, .o, .o, .o, .o], [some ⟨true, 1, bs.map byteRow⟩]⟩) bs.length
              (B := ⟨[.o, .o, .o, .o, .c (.v (.int .u64 0)), .o, .o, .o, .o, .o, .o, .o, .o, .o, .o, .o, .o, .o, .o, .o, .o, .o, .o, .o, .o, .o, .c (.h 0 0 bs.length), dI bs.length, dI (0 : Nat), .o, .o, .o, .o, .o, .o, .o, .o, .o, .o, .o, .o, .o, .o, .o, .o, .o], [some ⟨true, 1, bs.map byteRow⟩]⟩)
              ⟨by repeat (first | exact .nil | refine .same ?_ | refine .o ?_), rfl⟩ ⟨0, 0, by omega, by omega, rfl, rfl⟩ ?_
             rintro n A ⟨j, m, hj, rfl, hg, rfl⟩
             refine Y3 ok0 rfl (by repeat first | with_reducible exact Y2 | refine Y1 (by simp only [Y5, Y4, Y6, qev, St.ev, St.put, qint, Yc, Ya, qbin, if_true, if_false, dI, ZA]; rfl) ?_) ?_
             refine seq_cond rfl (fun h => Ye ?_) (fun h => tri_exit ?_)
             · have hjl : j < bs.length := by have := of_decide_eq_true h; omega
               obtain ⟨x, hx⟩ : ∃ x, bs[j]? = some x := ⟨bs[j], List.getElem?_eq_getElem hjl⟩
               have hdx : bs.drop j = x :: bs.drop (j + 1) := by rw [List.drop_eq_getElem_cons hjl]; rw [List.getElem?_eq_getElem hjl] at hx; cases hx; rfl
               rw [hdx] at hg
               simp only [digN] at hg
               have hgx : (bs.map byteRow)[j]? = some [.v (.int .u8 (x.toNat : Nat))] := by rw [List.getElem?_map, hx]; rfl
               refine seq_in (tri_block ?_)
               refine Y3 ok0 rfl (by repeat first | with_reducible exact Y2 | refine Y1 (by simp only [Y5, Y4, Y6, qev, St.ev, St.put, D.int, qload, Y9, qmk, C.cpy, TK.agg, qindexAddr, C.cp, if_true, if_false, decide_true, ne_eq, reduceCtorEq, tk5, tsz5, tk35, Int.toNat_natCast, Int.natCast_nonneg, hgx, show ((j : Int) < (bs.length : Int)) = True from eq_true (by omega), ZA]; rfl) ?_) ?_
               refine Y3 ok0 rfl (by repeat first | with_reducible exact Y2 | refine Y1 (by simp only [Y5, Y4, Y6, qev, St.ev, St.put, qint, Yc, Ya, qbin, qconv, Y8, Y7, if_true, if_false, tk5, tk37, ZA]; rfl) ?_) ?_
               split at hg
               · rename_i hover
                 refine seq_in (Y3 ok0 rfl (by repeat first | with_reducible exact Y2 | refine Y1 (by simp only [Y5, Y4, Y6, qev, St.ev, St.put, qint, Yc, Ya, qbin, Y8, Y7, if_true, if_false, decide_true, show ((10 : Int) = 0) = False from eq_false (by decide), eq_true hover, ZA]; rfl) ?_) ?_)
                 refine Yf rfl (fun _ => ?_) (fun h => by cases h)
                 refine Y3 ok0 rfl (by repeat first | with_reducible exact Y2 | refine Y1 (by simp only [Y5, Y4, Y6, qev, St.ev, St.put, Y8, Y7, ZA]; rfl) ?_) ?_
                 refine Yo (Yp (by simp only [outRes, Yi, resD, Yh, outD, outC, C.dat, if_true, ZA]; rfl) rfl (by simp) (by simp) ?_)
                 rw [← hg] at hQ
                 exact hQ
               · rename_i hover
                 refine seq_in (Y3 ok0 rfl (by repeat first | with_reducible exact Y2 | refine Y1 (by simp only [Y5, Y4, Y6, qev, St.ev, St.put, qint, Yc, Ya, qbin, Y8, Y7, if_true, if_false, decide_false, show ((10 : Int) = 0) = False from eq_false (by decide), eq_false hover, ZA]; rfl) ?_) ?_)
                 refine Yf rfl (fun h => by cases h) (fun _ => Ye ?_)
                 refine Yk ok0 rfl (by repeat first | with_reducible exact Y2 | refine Y1 (by simp only [Y5, Y4, Y6, qev, St.ev, St.put, qint, Yc, Ya, qbin, Y8, Y7, if_true, if_false, ZA]; rfl) ?_) ?_
                 refine Yk ok0 rfl (by repeat first | with_reducible exact Y2 | refine Y1 (by simp only [Y5, Y4, Y6, qev, St.ev, St.put, qint, Yc, Ya, qbin, Y8, Y7, if_true, if_false, wrap_succ j bs.length hjl hbm, ZA]; rfl) ?_) ?_
                 exact ⟨bs.length - (j + 1), by omega, ⟨[.o, .o, .o, .o, .c (.v (.int .u64 _)), .o, .o, .o, .o, .o, .o, .o, .o, .o, .o, .o, .o, .o, .o, .o, .o, .o, .o, .o, .o, .o, .c (.h 0 0 bs.length), dI bs.length, dI (j + 1 : Nat), .o, .o, .o, .o, .o, .o, .o, .o, .o, .o, .o, .o, .o, .o, .o, .o, .o], [some ⟨true, 1, bs.map byteRow⟩]⟩, ⟨by repeat (first | exact .nil | refine .same ?_ | refine .o ?_), rfl⟩, j + 1, _, hjl, rfl, hg, rfl⟩
             · have hjl : j = bs.length := by have := of_decide_eq_false h; omega
               subst hjl
               rw [List.drop_length] at hg
               simp only [digN] at hg
               rw [← hg] at hQ
               show Tri _ _ _ _
               refine Y3 ok0 rfl (by repeat first | with_reducible exact Y2 | refine Y1 (by simp only [Y5, Y4, Y6, qev, St.ev, St.put, Y8, Y7, ZA]; rfl) ?_) ?_
               refine Yo (Yp (by simp only [outRes, Yi, resD, Yh, outD, outC, C.dat, if_true, ZA]; rfl) rfl (by simp) (by simp) ?_)
               exact hQ
       · simp only [if_neg (show ¬ (1 < s.size ∧ byt s 0 = 48) from fun h => h1 h.1), if_neg (show ¬ 20 < s.size by omega)] at hQ
         refine seq_in (Y3 ok0 rfl (by repeat first | with_reducible exact Y2 | refine Y1 (by simp only [Y5, Y4, Y6, qev, St.ev, St.put, D.int, qindex, qpick, qint, Yc, qstr, isEq, qeq, Ya, qbin, qlen, qbuiltin, Y8, Y7, if_true, if_false, decide_false, cond_false, tk5, tk9, h0', show ((1 : Int) < (s.size : Int)) = False from eq_false (by omega), show ((20 : Int) < (s.size : Int)) = False from eq_false (by omega), ZA]; rfl) ?_) ?_)
         refine Yf rfl (fun h => by cases h) (fun _ => Ye ?_)
         refine Y3 ok0 rfl (by repeat first | with_reducible exact Y2 | refine Y1 (by simp only [Y5, Y4, Y6, qev, St.ev, St.put, Y8, Y7, ZA]; rfl) ?_) ?_
         obtain ⟨bs, hbs⟩ : ∃ bs, s.data.toList = bs := ⟨_, rfl⟩
         rw [hbs] at hQ
         have hbl : bs.length ≤ 1000000 := by rw [← hbs]; exact Nat.le_trans (Nat.le_of_eq (B_length s)) hs
         have hbm : bs.length ≤ maxStr := by unfold maxStr; omega
         refine seq_in (Y3 ok0 rfl (by repeat first | with_reducible exact Y2 | refine Y1 (by simp only [Y5, Y4, Y6, qev, St.ev, St.put, St.with, qconv, qlen, qbuiltin, liveR, Y8, Y7, if_true, tk5, tk9, tk35, bytesStr, strBytes, hbs, hbm, ZA]; rfl) ?_) ?_)
         refine tri_block ?_
         refine tri_loop_le (fun n A => ∃ (j : Nat) (m : Int), j ≤ bs.length ∧ n = bs.length - j ∧ digN (bs.drop j) m = digN bs 0 ∧ A = ⟨[.o, .o, .o, .o, .c (.v (.int .u64 m)), .o, .o, .o, .o, .o, .o, .o, .o, .o, .o, .o, .o, .o, .o, .o, .o, .o, .o, .o, .o, .o, .c (.h 0 0 bs.length), dI bs.length, dI j, .o, .o, .o, .o, .o, .o, .o, .o, .o, .o, .o, .o, .o, .o, .o, .o, .o], [some ⟨true, 1, bs.map byteRow⟩]⟩) bs.length
          (B := ⟨[.o, .o, .o, .o, .c (.v (.int .u64 0)), .o, .o, .o, .o, .o, .o, .o, .o, .o, .o, .o, .o, .o, .o, .o, .o, .o, .o, .o, .o, .o, .c (.h 0 0 bs.length), dI bs.length, dI (0 : Nat), .o, .o, .o, .o, .o, .o, .o, .o, .o, .o, .o, .o, .o, .o, .o, .o, .o], [some ⟨true, 1, bs.map byteRow⟩]⟩)
          ⟨by repeat (first | exact .nil | refine .same ?_ | refine .o ?_), rfl⟩ ⟨0, 0, by omega, by omega, rfl, rfl⟩ ?_
         rintro n A ⟨j, m, hj, rfl, hg, rfl⟩
         refine Y3 ok0 rfl (by repeat first | with_reducible exact Y2 | refine Y1 (by simp only [Y5, Y4, Y6, qev, St.ev, St.put, qint, Yc, Ya, qbin, if_true, if_false, dI, ZA]; rfl) ?_) ?_
         refine seq_cond rfl (fun h => Ye ?_) (fun h => tri_exit ?_)
         · have hjl : j < bs.length := by have := of_decide_eq_true h; omega
           obtain ⟨x, hx⟩ : ∃ x, bs[j]? = some x := ⟨bs[j], List.getElem?_eq_getElem hjl⟩
           have hdx : bs.drop j = x :: bs.drop (j + 1) := by rw [List.drop_eq_getElem_cons hjl]; rw [List.getElem?_eq_getElem hjl] at hx; cases hx; rfl
           rw [hdx] at hg
           simp only [digN] at hg
           have hgx : (bs.map byteRow)[j]? = some [.v (.int .u8 (x.toNat : Nat))] := by rw [List.getElem?_map, hx]; rfl
           refine seq_in (tri_block ?_)
           refine Y3 ok0 rfl (by repeat first | with_reducible exact Y2 | refine Y1 (by simp only [Y5, Y4, Y6, qev, St.ev, St.put, D.int, qload, Y9, qmk, C.cpy, TK.agg, qindexAddr, C.cp, if_true, if_false, decide_true, ne_eq, reduceCtorEq, tk5, tsz5, tk35, Int.toNat_natCast, Int.natCast_nonneg, hgx, show ((j : Int) < (bs.length : Int)) = True from eq_true (by omega), ZA]; rfl) ?_) ?_
           refine Y3 ok0 rfl (by repeat first | with_reducible exact Y2 | refine Y1 (by simp only [Y5, Y4, Y6, qev, St.ev, St.put, qint, Yc, Ya, qbin, qconv, Y8, Y7, if_true, if_false, tk5, tk37, ZA]; rfl) ?_) ?_
           split at hg
           · rename_i hover
             refine seq_in (Y3 ok0 rfl (by repeat first | with_reducible exact Y2 | refine Y1 (by simp only [Y5, Y4, Y6, qev, St.ev, St.put, qint, Yc, Ya, qbin, Y8, Y7, if_true, if_false, decide_true, show ((10 : Int) = 0) = False from eq_false (by decide), eq_true hover, ZA]; rfl) ?_) ?_)
             refine Yf rfl (fun _ => ?_) (fun h => by cases h)
             refine Y3 ok0 rfl (by repeat first | with_reducible exact Y2 | refine Y1 (by simp only [Y5, Y4, Y6, qev, St.ev, St.put, Y8, Y7, ZA]; rfl) ?_) ?_
             refine Yo (Yp (by simp only [outRes, Yi, resD, Yh, outD, outC, C.dat, if_true, ZA]; rfl) rfl (by simp) (by simp) ?_)
             rw [← hg] at hQ
             exact hQ
           · rename_i hover
             refine seq_in (Y3 ok0 rfl (by repeat first | with_reducible exact Y2 | refine Y1 (by simp only [Y5, Y4, Y6, qev, St.ev, St.put, qint, Yc, Ya, qbin, Y8, Y7, if_true, if_false, decide_false, show ((10 : Int) = 0) = False from eq_false (by decide), eq_false hover, ZA]; rfl) ?_) ?_)
             refine Yf rfl (fun h => by cases h) (fun _ => Ye ?_)
             refine Yk ok0 rfl (by repeat first | with_reducible exact Y2 | refine Y1 (by simp only [Y5, Y4, Y6, qev, St.ev, St.put, qint, Yc, Ya, qbin, Y8, Y7, if_true, if_false, ZA]; rfl) ?_) ?_
             refine Yk ok0 rfl (by repeat first | with_reducible exact Y2 | refine Y1 (by simp only [Y5, Y4, Y6, qev, St.ev, St.put, qint, Yc, Ya, qbin, Y8, Y7, if_true, if_false, wrap_succ j bs.length hjl hbm, ZA]; rfl) ?_) ?_
             exact ⟨bs.length - (j + 1), by omega, ⟨[.o, .o, .o, .o, .c (.v (.int .u64 _)), .o, .o, .o, .o, .o, .o, .o, .o, .o, .o, .o, .o, .o, .o, .o, .o, .o, .o, .o, .o, .o, .c (.h 0 0 bs.length), dI bs.length, dI (j + 1 : Nat), .o, .o, .o, .o, .o, .o, .o, .o, .o, .o, .o, .o, .o, .o, .o, .o, .o], [some ⟨true, 1, bs.map byteRow⟩]⟩, ⟨by repeat (first | exact .nil | refine .same ?_ | refine .o ?_), rfl⟩, j + 1, _, hjl, rfl, hg, rfl⟩
         · have hjl : j = bs.length := by have := of_decide_eq_false h; omega
           subst hjl
           rw [List.drop_length] at hg
           simp only [digN] at hg
           rw [← hg] at hQ
           show Tri _ _ _ _
           refine Y3 ok0 rfl (by repeat first | with_reducible exact Y2 | refine Y1 (by simp only [Y5, Y4, Y6, qev, St.ev, St.put, Y8, Y7, ZA]; rfl) ?_) ?_
           refine Yo (Yp (by simp only [outRes, Yi, resD, Yh, outD, outC, C.dat, if_true, ZA]; rfl) rfl (by simp) (by simp) ?_)
           exact hQ
   · cases hd
 · cases hd
end Go.Dl

namespace Go.Dl
open Go.RowKit
open Go.Proofs
set_option linter.unusedSimpArgs false
set_option linter.unusedVariables false
def overF (neg : Bool) (n : Int) (ok : Bool) : Bool := !ok || (!neg && decide (9223372036854775808 ≤ n)) || (neg && (decide (n = 0) || decide (9223372036854775808 < n)))
/-- A whole number: itself, the next place, the first error. -/
def numberF (l : List Tok) (i : Nat) (e bad : Int) : Option (Int × Nat × Int) :=
 if 0 ≤ (takeF l i e bad 1).2.2 then some (0, (takeF l i e bad 1).2.1, (takeF l i e bad 1).2.2)
 else if 0 < (takeF l i e bad 1).1.size ∧ (takeF l i e bad 1).1.size ≤ 1000000 then
  (if byt (takeF l i e bad 1).1 0 = 45 then
   (if overF true (digitsF ((takeF l i e bad 1).1.extract 1 (takeF l i e bad 1).1.size)).1 (digitsF ((takeF l i e bad 1).1.extract 1 (takeF l i e bad 1).1.size)).2 = true then some (0, i, failF l i e (takeF l i e bad 1).2.2)
    else some (IntKind.wrap .i64 (IntKind.wrap .u64 (0 - (digitsF ((takeF l i e bad 1).1.extract 1 (takeF l i e bad 1).1.size)).1)), (takeF l i e bad 1).2.1, (takeF l i e bad 1).2.2))
  else
   (if overF false (digitsF (takeF l i e bad 1).1).1 (digitsF (takeF l i e bad 1).1).2 = true then some (0, i, failF l i e (takeF l i e bad 1).2.2)
    else some (IntKind.wrap .i64 (digitsF (takeF l i e bad 1).1).1, (takeF l i e bad 1).2.1, (takeF l i e bad 1).2.2)))
 else none
def oNumber : List D → List Obj → Option (D × List Obj)
 | [.c (.p 0 0 0)], [o] => (decPa o).bind fun r => (numberF r.1 r.2.1 r.2.2.1 r.2.2.2).map fun q => (.c (.v (.int .i64 q.1)), [paObj r.1 q.2.1 r.2.2.1 q.2.2])
 | _, _ => none
def FsK3 : Fs := { pure := fun k => if k = 76 then some pDigits else none, objs := fun k => if k = 62 then some oFail else if k = 68 then some oTakeP else none }
theorem okK3 : FsOK Try.prog FsK3 := by
 refine ⟨fun k f h => ?_, fun k f h => ?_⟩
 · simp only [FsK3] at h
   split at h
   · rename_i hk; subst hk; cases h; exact ⟨by kernel_rfl, meets76⟩
   · cases h
 · simp only [FsK3] at h
   split at h
   · rename_i hk; subst hk; cases h; exact ⟨by kernel_rfl, meets62⟩
   split at h
   · rename_i hk; subst hk; cases h; exact ⟨by kernel_rfl, meets68⟩
   · cases h
theorem take_le (l : List Tok) (i : Nat) (e bad k : Int) : (takeF l i e bad k).2.1 = i ∨ ((takeF l i e bad k).2.1 = i + 1 ∧ i < l.length) := by
 unfold takeF
 split
 · exact .inl rfl
 · split
   · rename_i t ht
     split
     · exact .inr ⟨rfl, lt_len ht⟩
     · exact .inl rfl
   · exact .inl rfl
theorem meets63 : Meets Try.prog 63 (detS oNumber) := by
 refine meets_of_tri (show Try.prog.funcs[63]? = some Try.f63 by kernel_rfl) rfl (n := 63) rfl (rs := [ResultVar.tmp 2]) rfl ?_
 rintro args objs Q ⟨d, os, hd, hQ⟩
 unfold oNumber at hd
 split at hd
 · rename_i o
   cases hp : decPa o with
   | none => rw [hp] at hd; cases hd
   | some r =>
    obtain ⟨l, i, e, bad⟩ := r
    rw [hp] at hd
    simp only [Z8] at hd
    obtain ⟨rfl, hl, hi⟩ := decPa_eq hp
    have hT : oTakeP [.c (.p 0 0 0), .c (.v (.int .i64 1))] [paObj l i e bad] = some (.c (.v (.string (takeF l i e bad 1).1)), [paObj l (takeF l i e bad 1).2.1 e (takeF l i e bad 1).2.2]) := by
     simp only [oTakeP, decPa_pa hl hi, Z4]
    have htl := take_le l i e bad 1
    unfold numberF at hd
    generalize takeF l i e bad 1 = tk at hT hd htl
    obtain ⟨s, j, b1⟩ := tk
    simp only at hT hd htl
    have hF : oFail [.c (.p 0 0 0)] [paObj l i e b1] = some (.t [], [paObj l i e (failF l i e b1)]) := by
     simp only [oFail, decPa_pa hl hi, Z4]
    simp only [paObj] at hT hF hd ⊢
    refine Y3 ok0 rfl (by repeat first | with_reducible exact Y2 | refine Y1 (by simp only [Y5, Y4, Y6, qev, St.ev, St.put, Y8, Y7, List.replicate, Nat.reduceSub, ZA]; rfl) ?_) ?_
    refine Y3 ok0 rfl (by repeat first | with_reducible exact Y2 | refine Y1 (by simp only [Y5, Y4, Y6, qev, St.ev, St.put, qload, Y9, qmk, C.cpy, TK.agg, qnil, Yb, liveR, C.cp, if_true, if_false, reduceCtorEq, tk3, tsz3, tk80, ZA]; rfl) ?_) ?_
    refine Y3 okK3 rfl (by repeat first | with_reducible exact Y2 | refine Y1 (by simp only [Y5, Y4, Y6, evsA, qev, St.ev, St.put, St.with, D.cell, C.cpy, C.cp, C.dat, Y8, Y7, Bool.and_true, Nat.reduceEqDiff, if_true, if_false, beq_self_eq_true, Bool.true_or, callP, callO, dedup, rootsD, rootsC, List.flatMap_cons, List.flatMap_nil, List.filterMap_cons, List.filterMap_nil, Yg, argD, argC, List.contains_nil, objsAt, objOf, List.idxOf?, List.findIdx?, List.findIdx?.go, setObjs, settle, settle1, settleC, FsK3, hT, ZA]; rfl) ?_) ?_
    by_cases hb : 0 ≤ b1
    · rw [if_pos hb] at hd
      cases hd
      refine seq_in (Y3 ok0 rfl (by repeat first | with_reducible exact Y2 | refine Y1 (by simp only [Y5, Y4, Y6, qev, St.ev, St.put, qload, Y9, qmk, C.cpy, TK.agg, qnil, Yb, qint, Yc, Ya, qbin, liveR, C.cp, Y8, Y7, if_true, if_false, decide_true, reduceCtorEq, tk3, tsz3, tk80, eq_true hb, ZA]; rfl) ?_) ?_)
      refine Yf rfl (fun _ => ?_) (fun h => by cases h)
      refine Y3 ok0 rfl (by repeat first | with_reducible exact Y2 | refine Y1 (by simp only [Y5, Y4, Y6, qev, St.ev, St.put, Y8, Y7, ZA]; rfl) ?_) ?_
      refine Yo (Yp (by simp only [outRes, Yi, resD, outD, outC, C.dat, if_true, ZA]; rfl) rfl .nil (by simp) ?_)
      exact hQ
    · rw [if_neg hb] at hd
      refine seq_in (Y3 ok0 rfl (by repeat first | with_reducible exact Y2 | refine Y1 (by simp only [Y5, Y4, Y6, qev, St.ev, St.put, qload, Y9, qmk, C.cpy, TK.agg, qnil, Yb, qint, Yc, Ya, qbin, liveR, C.cp, Y8, Y7, if_true, if_false, decide_false, reduceCtorEq, tk3, tsz3, tk80, eq_false hb, ZA]; rfl) ?_) ?_)
      refine Yf rfl (fun h => by cases h) (fun _ => Ye ?_)
      split at hd
      · rename_i hsz
        obtain ⟨hs0, hs1⟩ := hsz
        have h0 : ((0 : Int) < (s.size : Int)) = True := eq_true (by omega)
        split at hd
        · rename_i hneg
          have hneg' : ((s.data.toList.getD 0 0).toNat : Int) = 45 := hneg
          have hex : (s.extract 1 s.size).size ≤ 1000000 := by rw [ByteArray.size_extract]; omega
          have hD : pDigits [.c (.v (.string (s.extract 1 s.size)))] = some (.t [.c (.v (.int .u64 (digitsF (s.extract 1 s.size)).1)), dB (digitsF (s.extract 1 s.size)).2]) := if_pos hex
          refine Y3 ok0 rfl (by repeat first | with_reducible exact Y2 | refine Y1 (by simp only [Y5, Y4, Y6, qev, St.ev, St.put, D.int, qindex, qint, Yc, Ya, qbin, Y8, Y7, if_true, if_false, decide_true, Int.reduceLE, tk9, Int.toNat_zero, h0, eq_true hneg', ZA]; rfl) ?_) ?_
          refine seq_in (Y3 ok0 rfl (by repeat first | with_reducible exact Y2 | refine Y1 (by simp only [Y5, Y4, Y6, qev, St.ev, St.put, ZA]; rfl) ?_) ?_)
          refine Yf rfl (fun _ => ?_) (fun h => by cases h)
          refine Yk ok0 rfl (by repeat first | with_reducible exact Y2 | refine Y1 (by simp only [Y5, Y4, Y6, qev, St.ev, St.put, D.int, qbounds, qslice, omap, Y8, Y7, if_true, Int.reduceLE, Int.reduceToNat, tk9, qbounds, D.int, show ((1 : Int) ≤ (s.size : Int)) = True from eq_true (by omega), ZA]; rfl) ?_) ?_
          generalize digitsF (s.extract 1 s.size) = dg at hD hd
          obtain ⟨n, ok⟩ := dg
          simp only at hD hd
          refine Y3 okK3 rfl (by repeat first | with_reducible exact Y2 | refine Y1 (by simp only [Y5, Y4, Y6, evsA, qev, St.ev, St.put, St.with, C.cpy, qext, C.cp, C.dat, if_true, Bool.true_or, dB, callP, Yg, argD, argC, settle, settle1, settleC, settleDs, FsK3, hD, ZA]; rfl) ?_) ?_
          cases ok with
          | false =>
           rw [if_pos (by simp [overF])] at hd
           cases hd
           refine seq_in (Y3 ok0 rfl (by repeat first | with_reducible exact Y2 | refine Y1 (by simp only [Y5, Y4, Y6, qev, St.ev, St.put, qpick, qun, Y8, Y7, if_false, Bool.not_false, cond_true, reduceCtorEq, ZA]; rfl) ?_) ?_)
           refine Yf rfl (fun _ => ?_) (fun h => by cases h)
           refine Y3 ok0 rfl (by repeat first | with_reducible exact Y2 | refine Y1 (by simp only [Y5, Y4, Y6, qev, St.ev, St.put, D.cells, qnil, Yb, liveR, C.st, C.dat, storeA, putCells, Nat.reduceAdd, if_true, if_false, ne_eq, reduceCtorEq, Nat.reduceLeDiff, implies_true, tsz3, tk80, ZA]; rfl) ?_) ?_
           refine Y3 okK3 rfl (by repeat first | with_reducible exact Y2 | refine Y1 (by simp only [Y5, Y4, Y6, evsA, qev, St.ev, St.put, St.with, D.cell, C.dat, Bool.and_true, Nat.reduceEqDiff, if_true, if_false, beq_self_eq_true, Bool.true_or, callP, callO, dedup, rootsD, rootsC, List.flatMap_cons, List.flatMap_nil, List.filterMap_cons, List.filterMap_nil, Yg, argD, argC, List.contains_nil, objsAt, objOf, List.idxOf?, List.findIdx?, List.findIdx?.go, setObjs, settle, settleDs, FsK3, hF, ZA]; rfl) ?_) ?_
           refine Y3 ok0 rfl (by repeat first | with_reducible exact Y2 | refine Y1 (by simp only [Y5, Y4, Y6, qev, St.ev, St.put, Y8, Y7, ZA]; rfl) ?_) ?_
           refine Yo (Yp (by simp only [outRes, Yi, resD, outD, outC, C.dat, if_true, ZA]; rfl) rfl .nil (by simp) ?_)
           exact hQ
          | true =>
           by_cases hn0 : n = 0
           · rw [if_pos (by simp [overF, hn0])] at hd
             cases hd
             refine seq_in (Y3 ok0 rfl (by repeat first | with_reducible exact Y2 | refine Y1 (by simp only [Y5, Y4, Y6, qev, St.ev, St.put, qpick, qint, Yc, isEq, Ya, qbin, qun, Y8, Y7, if_true, if_false, decide_true, Bool.not_true, cond_true, cond_false, reduceCtorEq, eq_true hn0, ZA]; rfl) ?_) ?_)
             refine Yf rfl (fun _ => ?_) (fun h => by cases h)
             refine Y3 ok0 rfl (by repeat first | with_reducible exact Y2 | refine Y1 (by simp only [Y5, Y4, Y6, qev, St.ev, St.put, D.cells, qnil, Yb, liveR, C.st, C.dat, storeA, putCells, Nat.reduceAdd, if_true, if_false, ne_eq, reduceCtorEq, Nat.reduceLeDiff, implies_true, tsz3, tk80, ZA]; rfl) ?_) ?_
             refine Y3 okK3 rfl (by repeat first | with_reducible exact Y2 | refine Y1 (by simp only [Y5, Y4, Y6, evsA, qev, St.ev, St.put, St.with, D.cell, C.dat, Bool.and_true, Nat.reduceEqDiff, if_true, if_false, beq_self_eq_true, Bool.true_or, callP, callO, dedup, rootsD, rootsC, List.flatMap_cons, List.flatMap_nil, List.filterMap_cons, List.filterMap_nil, Yg, argD, argC, List.contains_nil, objsAt, objOf, List.idxOf?, List.findIdx?, List.findIdx?.go, setObjs, settle, settleDs, FsK3, hF, ZA]; rfl) ?_) ?_
             refine Y3 ok0 rfl (by repeat first | with_reducible exact Y2 | refine Y1 (by simp only [Y5, Y4, Y6, qev, St.ev, St.put, Y8, Y7, ZA]; rfl) ?_) ?_
             refine Yo (Yp (by simp only [outRes, Yi, resD, outD, outC, C.dat, if_true, ZA]; rfl) rfl .nil (by simp) ?_)
             exact hQ
           · by_cases hbig : 9223372036854775808 < n
             · rw [if_pos (by simp [overF, hbig])] at hd
               cases hd
               refine seq_in (Y3 ok0 rfl (by repeat first | with_reducible exact Y2 | refine Y1 (by simp only [Y5, Y4, Y6, qev, St.ev, St.put, qpick, qint, Yc, isEq, Ya, qbin, qun, Y8, Y7, if_true, if_false, decide_true, decide_false, Bool.not_true, cond_true, cond_false, eq_false hn0, eq_true hbig, ZA]; rfl) ?_) ?_)
               refine Yf rfl (fun _ => ?_) (fun h => by cases h)
               refine Y3 ok0 rfl (by repeat first | with_reducible exact Y2 | refine Y1 (by simp only [Y5, Y4, Y6, qev, St.ev, St.put, D.cells, qnil, Yb, liveR, C.st, C.dat, storeA, putCells, Nat.reduceAdd, if_true, if_false, ne_eq, reduceCtorEq, Nat.reduceLeDiff, implies_true, tsz3, tk80, ZA]; rfl) ?_) ?_
               refine Y3 okK3 rfl (by repeat first | with_reducible exact Y2 | refine Y1 (by simp only [Y5, Y4, Y6, evsA, qev, St.ev, St.put, St.with, D.cell, C.dat, Bool.and_true, Nat.reduceEqDiff, if_true, if_false, beq_self_eq_true, Bool.true_or, callP, callO, dedup, rootsD, rootsC, List.flatMap_cons, List.flatMap_nil, List.filterMap_cons, List.filterMap_nil, Yg, argD, argC, List.contains_nil, objsAt, objOf, List.idxOf?, List.findIdx?, List.findIdx?.go, setObjs, settle, settleDs, FsK3, hF, ZA]; rfl) ?_) ?_
               refine Y3 ok0 rfl (by repeat first | with_reducible exact Y2 | refine Y1 (by simp only [Y5, Y4, Y6, qev, St.ev, St.put, Y8, Y7, ZA]; rfl) ?_) ?_
               refine Yo (Yp (by simp only [outRes, Yi, resD, outD, outC, C.dat, if_true, ZA]; rfl) rfl .nil (by simp) ?_)
               exact hQ
             · rw [if_neg (by simp [overF, hn0, hbig])] at hd
               cases hd
               refine seq_in (Y3 ok0 rfl (by repeat first | with_reducible exact Y2 | refine Y1 (by simp only [Y5, Y4, Y6, qev, St.ev, St.put, qpick, qint, Yc, isEq, Ya, qbin, qun, Y8, Y7, if_true, if_false, decide_false, Bool.not_true, cond_true, cond_false, eq_false hn0, eq_false hbig, ZA]; rfl) ?_) ?_)
               refine Yf rfl (fun h => by cases h) (fun _ => Ye ?_)
               refine seq_in (Y3 ok0 rfl (by repeat first | with_reducible exact Y2 | refine Y1 (by simp only [Y5, Y4, Y6, qev, St.ev, St.put, ZA]; rfl) ?_) ?_)
               refine Yf rfl (fun _ => ?_) (fun h => by cases h)
               refine Y3 ok0 rfl (by repeat first | with_reducible exact Y2 | refine Y1 (by simp only [Y5, Y4, Y6, qev, St.ev, St.put, qun, qconv, tk2, tk37, ZA]; rfl) ?_) ?_
               refine Yo (Yp (by simp only [outRes, Yi, resD, outD, outC, C.dat, if_true, ZA]; rfl) rfl .nil (by simp) ?_)
               exact hQ
        · rename_i hneg
          have hneg' : ¬ ((s.data.toList.getD 0 0).toNat : Int) = 45 := hneg
          have hD : pDigits [.c (.v (.string s))] = some (.t [.c (.v (.int .u64 (digitsF s).1)), dB (digitsF s).2]) := if_pos hs1
          refine Y3 ok0 rfl (by repeat first | with_reducible exact Y2 | refine Y1 (by simp only [Y5, Y4, Y6, qev, St.ev, St.put, D.int, qindex, qint, Yc, Ya, qbin, Y8, Y7, if_true, if_false, decide_false, Int.reduceLE, tk9, Int.toNat_zero, h0, eq_false hneg', ZA]; rfl) ?_) ?_
          refine seq_in (Y3 ok0 rfl (by repeat first | with_reducible exact Y2 | refine Y1 (by simp only [Y5, Y4, Y6, qev, St.ev, St.put, ZA]; rfl) ?_) ?_)
          refine Yf rfl (fun h => by cases h) (fun _ => Ye ?_)
          generalize digitsF s = dg at hD hd
          obtain ⟨n, ok⟩ := dg
          simp only at hD hd
          refine Y3 okK3 rfl (by repeat first | with_reducible exact Y2 | refine Y1 (by simp only [Y5, Y4, Y6, evsA, qev, St.ev, St.put, St.with, C.cpy, qext, C.cp, C.dat, if_true, Bool.true_or, dB, callP, Yg, argD, argC, settle, settle1, settleC, settleDs, FsK3, hD, ZA]; rfl) ?_) ?_
          cases ok with
          | false =>
           rw [if_pos (by simp [overF])] at hd
           cases hd
           refine seq_in (Y3 ok0 rfl (by repeat first | with_reducible exact Y2 | refine Y1 (by simp only [Y5, Y4, Y6, qev, St.ev, St.put, qpick, qun, Y8, Y7, if_false, Bool.not_false, cond_true, reduceCtorEq, ZA]; rfl) ?_) ?_)
           refine Yf rfl (fun _ => ?_) (fun h => by cases h)
           refine Y3 ok0 rfl (by repeat first | with_reducible exact Y2 | refine Y1 (by simp only [Y5, Y4, Y6, qev, St.ev, St.put, D.cells, qnil, Yb, liveR, C.st, C.dat, storeA, putCells, Nat.reduceAdd, if_true, if_false, ne_eq, reduceCtorEq, Nat.reduceLeDiff, implies_true, tsz3, tk80, ZA]; rfl) ?_) ?_
           refine Y3 okK3 rfl (by repeat first | with_reducible exact Y2 | refine Y1 (by simp only [Y5, Y4, Y6, evsA, qev, St.ev, St.put, St.with, D.cell, C.dat, Bool.and_true, Nat.reduceEqDiff, if_true, if_false, beq_self_eq_true, Bool.true_or, callP, callO, dedup, rootsD, rootsC, List.flatMap_cons, List.flatMap_nil, List.filterMap_cons, List.filterMap_nil, Yg, argD, argC, List.contains_nil, objsAt, objOf, List.idxOf?, List.findIdx?, List.findIdx?.go, setObjs, settle, settleDs, FsK3, hF, ZA]; rfl) ?_) ?_
           refine Y3 ok0 rfl (by repeat first | with_reducible exact Y2 | refine Y1 (by simp only [Y5, Y4, Y6, qev, St.ev, St.put, Y8, Y7, ZA]; rfl) ?_) ?_
           refine Yo (Yp (by simp only [outRes, Yi, resD, outD, outC, C.dat, if_true, ZA]; rfl) rfl .nil (by simp) ?_)
           exact hQ
          | true =>
           by_cases hbig : 9223372036854775808 ≤ n
           · rw [if_pos (by simp [overF, hbig])] at hd
             cases hd
             refine seq_in (Y3 ok0 rfl (by repeat first | with_reducible exact Y2 | refine Y1 (by simp only [Y5, Y4, Y6, qev, St.ev, St.put, qpick, qint, Yc, Ya, qbin, qun, Y8, Y7, if_true, if_false, decide_true, Bool.not_true, Bool.not_false, cond_true, cond_false, reduceCtorEq, eq_true hbig, ZA]; rfl) ?_) ?_)
             refine Yf rfl (fun _ => ?_) (fun h => by cases h)
             refine Y3 ok0 rfl (by repeat first | with_reducible exact Y2 | refine Y1 (by simp only [Y5, Y4, Y6, qev, St.ev, St.put, D.cells, qnil, Yb, liveR, C.st, C.dat, storeA, putCells, Nat.reduceAdd, if_true, if_false, ne_eq, reduceCtorEq, Nat.reduceLeDiff, implies_true, tsz3, tk80, ZA]; rfl) ?_) ?_
             refine Y3 okK3 rfl (by repeat first | with_reducible exact Y2 | refine Y1 (by simp only [Y5, Y4, Y6, evsA, qev, St.ev, St.put, St.with, D.cell, C.dat, Bool.and_true, Nat.reduceEqDiff, if_true, if_false, beq_self_eq_true, Bool.true_or, callP, callO, dedup, rootsD, rootsC, List.flatMap_cons, List.flatMap_nil, List.filterMap_cons, List.filterMap_nil, Yg, argD, argC, List.contains_nil, objsAt, objOf, List.idxOf?, List.findIdx?, List.findIdx?.go, setObjs, settle, settleDs, FsK3, hF, ZA]; rfl) ?_) ?_
             refine Y3 ok0 rfl (by repeat first | with_reducible exact Y2 | refine Y1 (by simp only [Y5, Y4, Y6, qev, St.ev, St.put, Y8, Y7, ZA]; rfl) ?_) ?_
             refine Yo (Yp (by simp only [outRes, Yi, resD, outD, outC, C.dat, if_true, ZA]; rfl) rfl .nil (by simp) ?_)
             exact hQ
           · rw [if_neg (by simp [overF, hbig])] at hd
             cases hd
             refine seq_in (Y3 ok0 rfl (by repeat first | with_reducible exact Y2 | refine Y1 (by simp only [Y5, Y4, Y6, qev, St.ev, St.put, qpick, qint, Yc, isEq, qeq, Ya, qbin, qun, Y8, Y7, if_true, if_false, decide_false, Bool.not_true, Bool.not_false, cond_true, cond_false, tk37, eq_false hbig, ZA]; rfl) ?_) ?_)
             refine Yf rfl (fun h => by cases h) (fun _ => Ye ?_)
             refine seq_in (Y3 ok0 rfl (by repeat first | with_reducible exact Y2 | refine Y1 (by simp only [Y5, Y4, Y6, qev, St.ev, St.put, ZA]; rfl) ?_) ?_)
             refine Yf rfl (fun h => by cases h) (fun _ => Ye ?_)
             refine Y3 ok0 rfl (by repeat first | with_reducible exact Y2 | refine Y1 (by simp only [Y5, Y4, Y6, qev, St.ev, St.put, qconv, tk2, tk37, ZA]; rfl) ?_) ?_
             refine Yo (Yp (by simp only [outRes, Yi, resD, outD, outC, C.dat, if_true, ZA]; rfl) rfl .nil (by simp) ?_)
             exact hQ
      · cases hd
 · cases hd
end Go.Dl

namespace Go.Dl
open Go.RowKit
open Go.Proofs
set_option linter.unusedSimpArgs false
set_option linter.unusedVariables false
def formB (k : Nat) : ByteArray := [⟨#[]⟩, ⟨#[97, 112, 112, 101, 110, 100]⟩, ⟨#[103, 101, 116]⟩, ⟨#[101, 114, 97, 115, 101]⟩, ⟨#[100, 114, 111, 112]⟩, ⟨#[104, 111, 108, 100]⟩, ⟨#[114, 101, 108, 101, 97, 115, 101]⟩, ⟨#[112, 111, 105, 110, 116]⟩, ⟨#[116, 105, 99, 107]⟩, ⟨#[115, 116, 101, 112]⟩, ⟨#[115, 119, 101, 101, 112]⟩, ⟨#[99, 114, 97, 115, 104]⟩, ⟨#[97, 114, 109]⟩, ⟨#[111, 112, 101, 110]⟩, ⟨#[115, 104, 111, 119]⟩, ⟨#[112, 114, 111, 118, 101]⟩].getD k ⟨#[]⟩
def formsC : List C := [.v (.string ⟨#[]⟩), .v (.string ⟨#[97, 112, 112, 101, 110, 100]⟩), .v (.string ⟨#[103, 101, 116]⟩), .v (.string ⟨#[101, 114, 97, 115, 101]⟩), .v (.string ⟨#[100, 114, 111, 112]⟩), .v (.string ⟨#[104, 111, 108, 100]⟩), .v (.string ⟨#[114, 101, 108, 101, 97, 115, 101]⟩), .v (.string ⟨#[112, 111, 105, 110, 116]⟩), .v (.string ⟨#[116, 105, 99, 107]⟩), .v (.string ⟨#[115, 116, 101, 112]⟩), .v (.string ⟨#[115, 119, 101, 101, 112]⟩), .v (.string ⟨#[99, 114, 97, 115, 104]⟩), .v (.string ⟨#[97, 114, 109]⟩), .v (.string ⟨#[111, 112, 101, 110]⟩), .v (.string ⟨#[115, 104, 111, 119]⟩), .v (.string ⟨#[112, 114, 111, 118, 101]⟩)]
def pForms : List D → Option D
 | [] => some (.agg formsC)
 | _ => none
theorem meets43 : Meets Try.prog 43 (pureS pForms) := by
 refine meets_of_tri (show Try.prog.funcs[43]? = some Try.f43 by kernel_rfl) rfl (n := 2) rfl (rs := [ResultVar.cell 0 84]) rfl ?_
 rintro args objs Q ⟨rfl, d, hd, hQ⟩
 unfold pForms at hd
 split at hd
 · cases hd
   refine Y3 ok0 rfl (by repeat first | with_reducible exact Y2 | refine Y1 (by simp only [Y5, Y4, Y6, St.put, St.with, boxA, C.st, List.replicate, Nat.reduceAdd, Nat.reduceSub, if_true, tz84, ZA]; rfl) ?_) ?_
   refine Y3 ok0 rfl (by repeat first | with_reducible exact Y2 | refine Y1 (by simp only [Y5, Y4, Y6, St.ev, St.put, D.cells, C.st, C.dat, storeA, putCells, Y8, Y7, Nat.reduceAdd, Nat.reduceMul, if_true, ne_eq, reduceCtorEq, Nat.reduceLeDiff, Nat.le_refl, implies_true, tsz9, tk84, tsz84, tz84, buildA, partsA, fillA, ZA]; rfl) ?_) ?_
   refine Yo (Yp (by simp only [outRes, Yi, resD, outD, outC, outCs, tk84, tsz84, qload, Y9, qmk, C.cpy, TK.agg, C.cp, C.dat, Nat.reduceAdd, if_true, ZA]; rfl) rfl (by simp) (by simp) ?_)
   exact hQ
 · cases hd
abbrev ints (l : List Int) : List (List C) := l.map fun n => [.v (.int .i64 n)]
end Go.Dl

namespace Go.Dl
open Go.RowKit
open Go.Proofs
set_option linter.unusedSimpArgs false
set_option linter.unusedVariables false
theorem fail_at {l : List Tok} (hl : l.length ≤ 1000000) (i : Nat) (e bad : Int) (hi : i ≤ l.length) : oFail [.c (.p 0 0 0)] [⟨4, [[.s false 3 (l.map tokC), .v (.int .i64 i), .v (.int .i64 e), .v (.int .i64 bad)]]⟩] =
  some (.t [], [⟨4, [[.s false 3 (l.map tokC), .v (.int .i64 i), .v (.int .i64 e), .v (.int .i64 (failF l i e bad))]]⟩]) := by
 have := decPa_pa (e := e) (bad := bad) hl (show i ≤ 1000000 by omega)
 simp only [paObj] at this
 simp only [oFail, this, Z4, paObj]
theorem peek_at {l : List Tok} (hl : l.length ≤ 1000000) (i : Nat) (e bad : Int) (m : ByteArray) (hi : i ≤ l.length) : oPeek [.c (.p 0 0 0), .c (.v (.string m))] [⟨4, [[.s false 3 (l.map tokC), .v (.int .i64 i), .v (.int .i64 e), .v (.int .i64 bad)]]⟩] =
  some (.c (.v (.bool (peekF l i bad m))), [⟨4, [[.s false 3 (l.map tokC), .v (.int .i64 i), .v (.int .i64 e), .v (.int .i64 bad)]]⟩]) := by
 have := decPa_pa (e := e) (bad := bad) hl (show i ≤ 1000000 by omega)
 simp only [paObj] at this
 simp only [oPeek, this, Z4, dB]
theorem take_at {l : List Tok} (hl : l.length ≤ 1000000) (i : Nat) (e bad k : Int) (hi : i ≤ l.length) : oTakeP [.c (.p 0 0 0), .c (.v (.int .i64 k))] [⟨4, [[.s false 3 (l.map tokC), .v (.int .i64 i), .v (.int .i64 e), .v (.int .i64 bad)]]⟩] =
  some (.c (.v (.string (takeF l i e bad k).1)), [⟨4, [[.s false 3 (l.map tokC), .v (.int .i64 (takeF l i e bad k).2.1), .v (.int .i64 e), .v (.int .i64 (takeF l i e bad k).2.2)]]⟩]) := by
 have := decPa_pa (e := e) (bad := bad) hl (show i ≤ 1000000 by omega)
 simp only [paObj] at this
 simp only [oTakeP, this, Z4, paObj]
theorem mark_at {l : List Tok} (hl : l.length ≤ 1000000) (i : Nat) (e bad : Int) (m : ByteArray) (hi : i ≤ l.length) : oMark [.c (.p 0 0 0), .c (.v (.string m))] [⟨4, [[.s false 3 (l.map tokC), .v (.int .i64 i), .v (.int .i64 e), .v (.int .i64 bad)]]⟩] =
  some (.t [], [⟨4, [[.s false 3 (l.map tokC), .v (.int .i64 (markF l i e bad m).1), .v (.int .i64 e), .v (.int .i64 (markF l i e bad m).2)]]⟩]) := by
 have := decPa_pa (e := e) (bad := bad) hl (show i ≤ 1000000 by omega)
 simp only [paObj] at this
 simp only [oMark, this, Z4, paObj]
theorem takeF_le {l : List Tok} {i : Nat} {e bad k : Int} (hi : i ≤ l.length) : (takeF l i e bad k).2.1 ≤ l.length := by
 rcases take_le l i e bad k with h | ⟨h, h2⟩ <;> omega
theorem markF_le {l : List Tok} {i : Nat} {e bad : Int} {m : ByteArray} (hi : i ≤ l.length) : (markF l i e bad m).1 ≤ l.length := by
 unfold markF
 split
 · rename_i h
   unfold peekF at h
   cases hx : l[i]? with
   | none => simp [hx] at h
   | some x => have := (List.getElem?_eq_some_iff.1 hx).1; simp only; omega
 · exact hi
/-- A sign's worth. -/
def nibF (c : Int) : Int := if isDigit c = true then c - 48 else if 97 ≤ c then (if c ≤ 102 then c - 97 + 10 else -1) else -1
theorem digit_at (c : Int) : pU8 isDigit [.c (.v (.int .u8 c))] = some (.c (.v (.bool (isDigit c)))) := rfl
noncomputable def pNib : List D → Option D := famP (fun x : UInt8 => True) (fun x => [.c (.v (.int .u8 x.toNat))]) (fun x => dI (nibF x.toNat))
theorem meets84 : Meets Try.prog 84 (pureS pNib) := by
 refine Yn (show Try.prog.funcs[84]? = some Try.f84 by kernel_rfl) rfl (n := 20) rfl (rs := [ResultVar.tmp 2]) rfl ?_
 intro x _ Q hQ
 have hx := x.toNat_lt
 generalize hc : ((x.toNat : Nat) : Int) = c at hQ ⊢
 have h0 : 0 ≤ c := by omega
 have h1 : c ≤ 255 := by omega
 have hd : isDigit c = true → 48 ≤ c ∧ c ≤ 57 := by simp [isDigit]
 by_cases hdg : isDigit c = true
 · obtain ⟨d1, d2⟩ := hd hdg
   refine Y3 okL1 rfl (by repeat first | with_reducible exact Y2 | refine Y1 (by simp only [Y5, Y4, Y6, qev, St.ev, St.put, Y8, Y7, List.replicate, Nat.reduceSub, ZA]; rfl) ?_) ?_
   refine seq_in (tri_block ?_)
   refine Y3 okL1 rfl (by repeat first | with_reducible exact Y2 | refine Y1 (by simp only [Y5, Y4, Y6, evsA, qev, St.ev, St.put, St.with, C.cpy, C.cp, C.dat, Nat.reduceEqDiff, if_true, if_false, Bool.or_true, callP, Fs.none, Yg, argD, argC, D.ni, D.ni1, C.ni, settle, settle1, settleC, FsL1, digit_at, hdg, ZA]; rfl) ?_) ?_
   refine Yf (b := true) rfl (fun _ => ?_) (fun h => by cases h)
   refine Y3 okL1 rfl (by repeat first | with_reducible exact Y2 | refine Y1 (by simp only [Y5, Y4, Y6, qev, St.ev, St.put, qint, Yc, Ya, qbin, qconv, Y8, Y7, if_true, if_false, show IntKind.u8.wrap (c - 48) = _ from wrap_u8 _ (by omega) (by omega), tk3, tk5, show IntKind.i64.wrap (c - 48) = _ from wrap_i64 _ (by omega) (by omega), ZA]; rfl) ?_) ?_
   refine Yo (Yp (by simp only [outRes, Yi, resD, outD, outC, C.dat, if_true, ZA]; rfl) rfl (by simp) (by simp) ?_)
   (simp only [reduceIte, ↓reduceIte, nibF, dI, hdg] at hQ; with_reducible exact hQ)
 · have hdf : isDigit c = false := by simpa using hdg
   refine Y3 okL1 rfl (by repeat first | with_reducible exact Y2 | refine Y1 (by simp only [Y5, Y4, Y6, qev, St.ev, St.put, Y8, Y7, List.replicate, Nat.reduceSub, ZA]; rfl) ?_) ?_
   refine seq_in (tri_block ?_)
   refine Y3 okL1 rfl (by repeat first | with_reducible exact Y2 | refine Y1 (by simp only [Y5, Y4, Y6, evsA, qev, St.ev, St.put, St.with, C.cpy, C.cp, C.dat, Nat.reduceEqDiff, if_true, if_false, Bool.or_true, callP, Fs.none, Yg, argD, argC, D.ni, D.ni1, C.ni, settle, settle1, settleC, FsL1, digit_at, hdf, ZA]; rfl) ?_) ?_
   refine Yf (b := false) rfl (fun h => by cases h) (fun _ => ?_)
   by_cases a0 : (97 ≤ c)
   ·
    refine Y3 okL1 rfl (by repeat first | with_reducible exact Y2 | refine Y1 (by simp only [Y5, Y4, Y6, qev, St.ev, St.put, qpick, qint, Yc, Ya, qbin, Y8, Y7, if_true, if_false, decide_true, cond_true, eq_true a0, ZA]; rfl) ?_) ?_
    refine Yf rfl (fun a1 => ?_) (fun a1 => ?_)
    ·
     simp only [decide_eq_true_eq] at a1
     refine Y3 okL1 rfl (by repeat first | with_reducible exact Y2 | refine Y1 (by simp only [Y5, Y4, Y6, qev, St.ev, St.put, qint, Yc, Ya, qbin, qconv, Y8, Y7, if_true, if_false, decide_true, a1, show IntKind.u8.wrap (c - 97) = _ from wrap_u8 _ (by omega) (by omega), tk3, tk5, show IntKind.i64.wrap (c - 97) = _ from wrap_i64 _ (by omega) (by omega), show IntKind.i64.wrap (c - 97 + 10) = _ from wrap_i64 _ (by omega) (by omega), ZA]; rfl) ?_) ?_
     refine Yo (Yp (by simp only [outRes, Yi, resD, outD, outC, C.dat, if_true, ZA]; rfl) rfl (by simp) (by simp) ?_)
     (simp only [reduceIte, Z7, ↓reduceIte, nibF, dI, hdf, eq_true a0, a1] at hQ; with_reducible exact hQ)
    ·
     simp only [decide_eq_false_iff_not] at a1
     refine tri_skip ?_
     show Tri _ _ _ _
     refine Y3 okL1 rfl (by repeat first | with_reducible exact Y2 | refine Y1 (by simp only [Y5, Y4, Y6, qev, St.ev, St.put, Y8, Y7, decide_false, a1, ZA]; rfl) ?_) ?_
     refine Yo (Yp (by simp only [outRes, Yi, resD, outD, outC, C.dat, if_true, ZA]; rfl) rfl (by simp) (by simp) ?_)
     (simp only [reduceIte, Z7, ↓reduceIte, Int.reduceNeg, nibF, dI, hdf, eq_true a0, a1] at hQ; with_reducible exact hQ)
   ·
    refine Y3 okL1 rfl (by repeat first | with_reducible exact Y2 | refine Y1 (by simp only [Y5, Y4, Y6, qev, St.ev, St.put, qpick, qint, Yc, isEq, Ya, qbin, Y8, Y7, if_true, if_false, decide_false, cond_false, eq_false a0, ZA]; rfl) ?_) ?_
    refine Yf (b := false) rfl (fun h => by cases h) (fun _ => ?_)
    refine tri_skip ?_
    show Tri _ _ _ _
    refine Y3 okL1 rfl (by repeat first | with_reducible exact Y2 | refine Y1 (by simp only [Y5, Y4, Y6, qev, St.ev, St.put, Y8, Y7, ZA]; rfl) ?_) ?_
    refine Yo (Yp (by simp only [outRes, Yi, resD, outD, outC, C.dat, if_true, ZA]; rfl) rfl (by simp) (by simp) ?_)
    (simp only [reduceIte, Z7, ↓reduceIte, Int.reduceNeg, nibF, dI, hdf, eq_false a0] at hQ; with_reducible exact hQ)
/-- A number that is not below 0. -/
def countF (l : List Tok) (i : Nat) (e bad : Int) : Int × Nat × Int :=
 if (takeF l i e bad 1).2.2 < 0 then
  (if (digitsF (takeF l i e bad 1).1).2 = true then ((digitsF (takeF l i e bad 1).1).1, (takeF l i e bad 1).2.1, (takeF l i e bad 1).2.2) else (0, i, failF l i e (takeF l i e bad 1).2.2))
 else if (digitsF (takeF l i e bad 1).1).2 = true then ((digitsF (takeF l i e bad 1).1).1, (takeF l i e bad 1).2.1, (takeF l i e bad 1).2.2) else (0, (takeF l i e bad 1).2.1, (takeF l i e bad 1).2.2)
def paPre (l : List Tok) (i : Nat) : Prop := l.length ≤ 1000000 ∧ i ≤ l.length ∧ ∀ t ∈ l, t.2.1.size ≤ 1000000
theorem digits_at (s : ByteArray) (h : s.size ≤ 1000000) : pDigits [.c (.v (.string s))] = some (.t [.c (.v (.int .u64 (digitsF s).1)), .c (.v (.bool (digitsF s).2))]) := if_pos h
theorem takeF_size {l : List Tok} {i : Nat} {e bad k : Int} (h : ∀ t ∈ l, t.2.1.size ≤ 1000000) : (takeF l i e bad k).1.size ≤ 1000000 := by
 unfold takeF
 split
 · exact Nat.zero_le _
 · split
   · rename_i t ht
     split
     · exact h _ (List.mem_of_getElem? ht)
     · exact Nat.zero_le _
   · exact Nat.zero_le _
noncomputable def oCount := famO (fun x : List Tok × Nat × Int × Int => paPre x.1 x.2.1) (fun x => ([.c (.p 0 0 0)], [paObj x.1 x.2.1 x.2.2.1 x.2.2.2]))
 (fun x => (.c (.v (.int .u64 (countF x.1 x.2.1 x.2.2.1 x.2.2.2).1)), [paObj x.1 (countF x.1 x.2.1 x.2.2.1 x.2.2.2).2.1 x.2.2.1 (countF x.1 x.2.1 x.2.2.1 x.2.2.2).2.2]))
theorem meets80 : Meets Try.prog 80 (detS oCount) := by
 refine meets_famO (show Try.prog.funcs[80]? = some Try.f80 by kernel_rfl) rfl (n := 34) rfl (rs := [ResultVar.tmp 2]) rfl ?_
 rintro ⟨l, i, e, bad⟩ ⟨hl, hi, hsz⟩ Q hQ
 dsimp only at hl hi hsz hQ
 simp only [paObj] at hQ
 have hT := take_at hl i e bad 1 hi
 have hD := digits_at (takeF l i e bad 1).1 (takeF_size hsz)
 have hF := fail_at hl i e (takeF l i e bad 1).2.2 hi
 refine Y3 okK3 rfl (by repeat first | with_reducible exact Y2 | refine Y1 (by simp only [Y5, Y4, Y6, qev, St.ev, St.put, Y8, Y7, List.replicate, Nat.reduceSub, paObj, ZA]; rfl) ?_) ?_
 refine Y3 okK3 rfl (by repeat first | with_reducible exact Y2 | refine Y1 (by simp only [Y5, Y4, Y6, qev, St.ev, St.put, qload, Y9, qmk, C.cpy, TK.agg, qnil, Yb, liveR, C.cp, if_true, if_false, reduceCtorEq, tk80, tsz3, tk3, ZA]; rfl) ?_) ?_
 refine Y3 okK3 rfl (by repeat first | with_reducible exact Y2 | refine Y1 (by simp only [Y5, Y4, Y6, evsA, qev, St.ev, St.put, St.with, D.cell, C.cpy, qext, C.cp, C.dat, Y8, Y7, Bool.and_true, Bool.true_and, Nat.reduceEqDiff, if_true, if_false, beq_self_eq_true, Bool.or_true, Bool.true_or, callP, callO, dedup, rootsD, rootsC, List.flatMap_cons, List.flatMap_nil, List.filterMap_cons, List.filterMap_nil, Yg, argD, argC, List.contains_nil, objsAt, objOf, List.idxOf?, List.findIdx?, List.findIdx?.go, setObjs, D.ni, D.ni1, C.ni, settle, settle1, settleC, settleDs, FsK3, hT, hD, ZA]; rfl) ?_) ?_
 refine seq_in ?_
 by_cases a0 : ((takeF l i e bad 1).snd.snd < 0)
 ·
  refine Y3 okK3 rfl (by repeat first | with_reducible exact Y2 | refine Y1 (by simp only [Y5, Y4, Y6, qev, St.ev, St.put, qload, Y9, qmk, C.cpy, TK.agg, qnil, Yb, qpick, qint, Yc, Ya, qbin, qun, liveR, C.cp, Y8, Y7, if_true, if_false, decide_true, cond_true, reduceCtorEq, tk80, tsz3, tk3, eq_true a0, ZA]; rfl) ?_) ?_
  refine Yf rfl (fun a1 => ?_) (fun a1 => ?_)
  ·
   simp only [Bool.not_eq_true'] at a1
   refine Y3 okK3 rfl (by repeat first | with_reducible exact Y2 | refine Y1 (by simp only [Y5, Y4, Y6, qev, St.ev, St.put, D.cells, qnil, Yb, liveR, C.st, C.dat, storeA, putCells, Nat.reduceAdd, if_true, if_false, Bool.not_false, ne_eq, reduceCtorEq, Nat.reduceLeDiff, implies_true, tk80, tsz3, a1, ZA]; rfl) ?_) ?_
   refine Yk okK3 rfl (by repeat first | with_reducible exact Y2 | refine Y1 (by simp only [Y5, Y4, Y6, evsA, qev, St.ev, St.put, St.with, D.cell, C.dat, Bool.and_true, Bool.true_and, Nat.reduceEqDiff, if_true, if_false, beq_self_eq_true, Bool.true_or, callP, callO, dedup, rootsD, rootsC, List.flatMap_cons, List.flatMap_nil, List.filterMap_cons, List.filterMap_nil, Yg, argD, argC, List.contains_nil, objsAt, objOf, List.idxOf?, List.findIdx?, List.findIdx?.go, setObjs, D.ni, settle, settleDs, FsK3, hF, ZA]; rfl) ?_) ?_
   show Tri _ _ _ _
   refine seq_in ?_
   refine Y3 okK3 rfl (by repeat first | with_reducible exact Y2 | refine Y1 (by simp only [Y5, Y4, Y6, qev, St.ev, St.put, qun, Bool.not_false, ZA]; rfl) ?_) ?_
   refine Yf (b := true) rfl (fun _ => ?_) (fun h => by cases h)
   refine Y3 okK3 rfl (by repeat first | with_reducible exact Y2 | refine Y1 (by simp only [Y5, Y4, Y6, qev, St.ev, St.put, Y8, Y7, ZA]; rfl) ?_) ?_
   refine Yo (Yp (by simp only [outRes, Yi, resD, outD, outC, C.dat, if_true, ZA]; rfl) rfl (by simp) (by simp) ?_)
   simp only [Z12]
   (simp only [reduceIte, Z7, ↓reduceIte, countF, eq_true a0, a1] at hQ; with_reducible exact hQ)
  ·
   simp only [Bool.not_eq_false'] at a1
   refine Ye ?_
   refine seq_in ?_
   refine Y3 okK3 rfl (by repeat first | with_reducible exact Y2 | refine Y1 (by simp only [Y5, Y4, Y6, qev, St.ev, St.put, qun, Bool.not_true, a1, ZA]; rfl) ?_) ?_
   refine Yf (b := false) rfl (fun h => by cases h) (fun _ => ?_)
   refine Ye ?_
   refine Y3 okK3 rfl (by repeat first | with_reducible exact Y2 | refine Y1 (by simp only [Y5, Y4, Y6, qev, St.ev, St.put, ZA]; rfl) ?_) ?_
   refine Yo (Yp (by simp only [outRes, Yi, resD, outD, outC, C.dat, if_true, ZA]; rfl) rfl (by simp) (by simp) ?_)
   simp only [Z12]
   (simp only [reduceIte, ↓reduceIte, countF, eq_true a0, a1] at hQ; with_reducible exact hQ)
 ·
  refine Y3 okK3 rfl (by repeat first | with_reducible exact Y2 | refine Y1 (by simp only [Y5, Y4, Y6, qev, St.ev, St.put, qload, Y9, qmk, C.cpy, TK.agg, qnil, Yb, qpick, qint, Yc, Ya, qbin, qun, liveR, C.cp, Y8, Y7, if_true, if_false, decide_false, cond_false, reduceCtorEq, tk80, tsz3, tk3, eq_false a0, ZA]; rfl) ?_) ?_
  refine Yf (b := false) rfl (fun h => by cases h) (fun _ => ?_)
  refine Ye ?_
  refine seq_in ?_
  refine Y3 okK3 rfl (by repeat first | with_reducible exact Y2 | refine Y1 (by simp only [Y5, Y4, Y6, qev, St.ev, St.put, qun, ZA]; rfl) ?_) ?_
  refine Yf rfl (fun a2 => ?_) (fun a2 => ?_)
  ·
   simp only [Bool.not_eq_true'] at a2
   refine Y3 okK3 rfl (by repeat first | with_reducible exact Y2 | refine Y1 (by simp only [Y5, Y4, Y6, qev, St.ev, St.put, Y8, Y7, Bool.not_false, a2, ZA]; rfl) ?_) ?_
   refine Yo (Yp (by simp only [outRes, Yi, resD, outD, outC, C.dat, if_true, ZA]; rfl) rfl (by simp) (by simp) ?_)
   simp only [Z12]
   (simp only [reduceIte, Z7, ↓reduceIte, countF, eq_false a0, a2] at hQ; with_reducible exact hQ)
  ·
   simp only [Bool.not_eq_false'] at a2
   refine Ye ?_
   refine Y3 okK3 rfl (by repeat first | with_reducible exact Y2 | refine Y1 (by simp only [Y5, Y4, Y6, qev, St.ev, St.put, Bool.not_true, a2, ZA]; rfl) ?_) ?_
   refine Yo (Yp (by simp only [outRes, Yi, resD, outD, outC, C.dat, if_true, ZA]; rfl) rfl (by simp) (by simp) ?_)
   simp only [Z12]
   (simp only [reduceIte, ↓reduceIte, countF, eq_false a0, a2] at hQ; with_reducible exact hQ)
end Go.Dl
