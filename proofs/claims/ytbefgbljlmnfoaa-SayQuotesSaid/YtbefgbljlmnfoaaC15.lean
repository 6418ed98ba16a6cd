/- The walks of the parser's small functions; The walks of the parser's peek, take, mark; The walks of digits and number. -/
import Derived.Test.YtbefgbljlmnfoaaC14
namespace Go.Dl
open Go.RowKit
open Go.Proofs
set_option linter.unusedSimpArgs false
set_option linter.unusedVariables false

def decToks : List (List C) → Option (List Tok)
  | [] => some []
  | [.v (.int .i64 a), .v (.string b), .v (.int .i64 c)] :: rs => (decToks rs).map fun l => (a, b, c) :: l
  | _ => none
theorem decToks_eq : ∀ {rows : List (List C)} {l : List Tok}, decToks rows = some l → rows = l.map tokC
  | [], l, h => by cases h; rfl
  | r :: rs, l, h => by
    unfold decToks at h
    split at h
    · rename_i hh; cases hh
    · rename_i a b c rs' hh
      cases hh
      cases hd : decToks rs with
      | none => rw [hd] at h; cases h
      | some l' =>
        rw [hd] at h
        cases h
        rw [decToks_eq hd]; rfl
    · cases h
theorem decToks_map : ∀ l : List Tok, decToks (l.map tokC) = some l
  | [] => rfl
  | o :: l => by
    show (decToks (l.map tokC)).map (fun l => o :: l) = _
    rw [decToks_map l]; rfl

/-- A parser. -/
def paObj (l : List Tok) (i : Nat) (e bad : Int) : Obj := ⟨4, [[.s false 3 (l.map tokC), .v (.int .i64 i), .v (.int .i64 e), .v (.int .i64 bad)]]⟩
def decPa : Obj → Option (List Tok × Nat × Int × Int)
  | ⟨4, [[.s false 3 rows, .v (.int .i64 (.ofNat i)), .v (.int .i64 e), .v (.int .i64 bad)]]⟩ => (decToks rows).bind fun l => if l.length ≤ 1000000 ∧ i ≤ 1000000 then some (l, i, e, bad) else none
  | _ => none
theorem decPa_eq {o : Obj} {l : List Tok} {i : Nat} {e bad : Int} (h : decPa o = some (l, i, e, bad)) : o = paObj l i e bad ∧ l.length ≤ 1000000 ∧ i ≤ 1000000 := by
  unfold decPa at h
  split at h
  · rename_i rows i' e' bad'
    cases hr : decToks rows with
    | none => rw [hr] at h; cases h
    | some l' =>
      rw [hr] at h
      simp only [Option.bind_some] at h
      split at h
      · rename_i hc
        cases h
        rw [decToks_eq hr]
        exact ⟨rfl, hc⟩
      · cases h
  · cases h
theorem decPa_pa {l : List Tok} {i : Nat} {e bad : Int} (h1 : l.length ≤ 1000000) (h2 : i ≤ 1000000) : decPa (paObj l i e bad) = some (l, i, e, bad) := by
  have h : decPa ⟨4, [[.s false 3 (l.map tokC), .v (.int .i64 (Int.ofNat i)), .v (.int .i64 e), .v (.int .i64 bad)]]⟩ = some (l, i, e, bad) := by
    simp only [decPa, decToks_map, Option.bind_some, if_pos (And.intro h1 h2)]
  exact h

def hereF (l : List Tok) (i : Nat) (e : Int) : Int := match l[i]? with
  | some t => t.2.2
  | none => e
def failF (l : List Tok) (i : Nat) (e bad : Int) : Int := if bad < 0 then hereF l i e else bad

def oHere : List D → List Obj → Option (D × List Obj)
  | [.c (.p 0 0 0)], [o] => (decPa o).map fun r => (dI (hereF r.1 r.2.1 r.2.2.1), [o])
  | _, _ => none

theorem meets75 : Meets Try.prog 75 (detS oHere) := by
  refine meets_of_tri (show Try.prog.funcs[75]? = some Try.f75 by kernel_rfl) rfl (n := 28) rfl (rs := [ResultVar.tmp 2]) rfl ?_
  rintro args objs Q ⟨d, os, hd, hQ⟩
  unfold oHere at hd
  split at hd
  · rename_i o
    cases hp : decPa o with
    | none => rw [hp] at hd; cases hd
    | some r =>
      obtain ⟨l, i, e, bad⟩ := r
      rw [hp] at hd
      cases hd
      obtain ⟨rfl, hl, hi⟩ := decPa_eq hp
      have hlm : l.length ≤ maxStr := by unfold maxStr; omega
      simp only [paObj] at hQ ⊢
      refine seq_run ok0 rfl (by repeat (first | with_reducible exact runf_nil | refine runf_cons (by simp only [xstep, stepf, stepx, qev, St.ev, St.put, constD, constC, List.set_cons_zero, List.set_cons_succ, List.replicate, List.length_cons, List.length_nil, List.cons_append, List.nil_append, List.map_nil, List.map_cons, Option.map_some, Nat.reduceSub, Option.some.injEq, Nat.zero_add]; rfl) ?_)) ?_
      by_cases hil : i < l.length
      · obtain ⟨x, hx⟩ : ∃ x, l[i]? = some x := ⟨l[i], List.getElem?_eq_getElem hil⟩
        have hlt : ((i : Int) < (l.length : Int)) = True := eq_true (by omega)
        simp only [hereF, hx] at hQ
        refine seq_in (seq_any mixed ok0 rfl (by kernel_rfl) (by repeat (first | with_reducible exact runf_nil | refine runf_cons (by simp only [xstep, stepf, stepx, qev, St.ev, St.put, qload, cellsAt, qmk, C.cpy, TK.agg, qnil, qfieldAddr, qint, qshift, isShift, qbin, qlen, qbuiltin, liveR, C.cp, List.getElem?_cons_zero, List.getElem?_cons_succ, List.set_cons_zero, List.set_cons_succ, List.length_cons, List.length_nil, List.map_nil, List.map_cons, List.all_cons, List.all_nil, List.take_succ_cons, List.take_zero, List.drop_succ_cons, List.drop_zero, Option.bind_some, Option.map_some, Option.map_none, if_true, if_false, and_self, decide_true, Option.some.injEq, reduceCtorEq, Bool.false_eq_true, Nat.add_zero, Nat.zero_add, Bool.and_self, tk3, tsz3, tk23, tsz23, tk80, List.length_map, hlm, hlt]; rfl) ?_)) ?_)
        refine tri_cond rfl (fun _ => ?_) (fun h => by cases h)
        refine seq_any mixed ok0 rfl (by kernel_rfl) (by repeat (first | with_reducible exact runf_nil | refine runf_cons (by simp only [xstep, stepf, stepx, qev, St.ev, St.put, D.int, qload, cellsAt, qmk, C.cpy, TK.agg, qnil, qfieldAddr, qindexAddr, liveR, C.cp, List.getElem?_cons_zero, List.getElem?_cons_succ, List.set_cons_zero, List.set_cons_succ, List.length_cons, List.length_nil, List.map_nil, List.map_cons, List.all_cons, List.all_nil, List.take_succ_cons, List.take_zero, List.drop_succ_cons, List.drop_zero, Option.bind_some, Option.map_some, if_true, if_false, and_self, Option.some.injEq, ne_eq, not_false_eq_true, reduceCtorEq, Bool.false_eq_true, Nat.add_zero, Nat.zero_add, Bool.and_self, tk3, tsz3, tk23, tsz23, tk33, tsz33, tk80, Int.toNat_natCast, Int.natCast_nonneg, List.length_map, tokC, hlt, toks_get l i x hx]; rfl) ?_)) ?_
        refine tri_ret (ends_ret (by simp only [outRes, resDs, resD, outD, outC, C.dat, List.getElem?_cons_zero, List.getElem?_cons_succ, Option.map_some, if_true, Option.some.injEq]; rfl) rfl .nil (by simp) ?_)
        exact hQ
      · have hx : l[i]? = none := List.getElem?_eq_none (by omega)
        simp only [hereF, hx] at hQ
        refine seq_in (seq_any mixed ok0 rfl (by kernel_rfl) (by repeat (first | with_reducible exact runf_nil | refine runf_cons (by simp only [xstep, stepf, stepx, qev, St.ev, St.put, qload, cellsAt, qmk, C.cpy, TK.agg, qnil, qfieldAddr, qint, qshift, isShift, qbin, qlen, qbuiltin, liveR, C.cp, List.getElem?_cons_zero, List.getElem?_cons_succ, List.set_cons_zero, List.set_cons_succ, List.length_cons, List.length_nil, List.map_nil, List.map_cons, List.all_cons, List.all_nil, List.take_succ_cons, List.take_zero, List.drop_succ_cons, List.drop_zero, Option.bind_some, Option.map_some, Option.map_none, if_true, if_false, and_self, decide_false, Option.some.injEq, reduceCtorEq, Bool.false_eq_true, Nat.add_zero, Nat.zero_add, Bool.and_self, tk3, tsz3, tk23, tsz23, tk80, List.length_map, hlm, show ((i : Int) < (l.length : Int)) = False from eq_false (by omega)]; rfl) ?_)) ?_)
        refine tri_cond rfl (fun h => by cases h) (fun _ => then_skip ?_)
        refine seq_run ok0 rfl (by repeat (first | with_reducible exact runf_nil | refine runf_cons (by simp only [xstep, stepf, stepx, qev, St.ev, St.put, qload, cellsAt, qmk, C.cpy, TK.agg, qnil, qfieldAddr, liveR, C.cp, List.getElem?_cons_zero, List.getElem?_cons_succ, List.set_cons_zero, List.set_cons_succ, List.length_cons, List.length_nil, List.map_nil, List.map_cons, List.all_cons, List.all_nil, List.take_succ_cons, List.take_zero, List.drop_succ_cons, List.drop_zero, Option.bind_some, Option.map_some, if_true, if_false, and_self, Option.some.injEq, reduceCtorEq, Bool.false_eq_true, Nat.zero_add, Bool.and_self, tk3, tsz3, tk80]; rfl) ?_)) ?_
        refine tri_ret (ends_ret (by simp only [outRes, resDs, resD, outD, outC, C.dat, List.getElem?_cons_zero, List.getElem?_cons_succ, Option.map_some, if_true, Option.some.injEq]; rfl) rfl .nil (by simp) ?_)
        exact hQ
  · cases hd

def FsK1 : Fs := { Fs.none with objs := fun k => if k = 75 then some oHere else none }
theorem okK1 : FsOK Try.prog FsK1 := by
  refine ⟨fun _ _ h => (by cases h), fun k f h => ?_⟩
  simp only [FsK1] at h
  split at h
  · rename_i hk; subst hk; cases h; exact ⟨by kernel_rfl, meets75⟩
  · cases h

def oFail : List D → List Obj → Option (D × List Obj)
  | [.c (.p 0 0 0)], [o] => (decPa o).map fun r => (.t [], [paObj r.1 r.2.1 r.2.2.1 (failF r.1 r.2.1 r.2.2.1 r.2.2.2)])
  | _, _ => none

theorem meets62 : Meets Try.prog 62 (detS oFail) := by
  refine meets_of_tri (show Try.prog.funcs[62]? = some Try.f62 by kernel_rfl) rfl (n := 12) rfl (rs := []) rfl ?_
  rintro args objs Q ⟨d, os, hd, hQ⟩
  unfold oFail at hd
  split at hd
  · rename_i o
    cases hp : decPa o with
    | none => rw [hp] at hd; cases hd
    | some r =>
      obtain ⟨l, i, e, bad⟩ := r
      rw [hp] at hd
      cases hd
      obtain ⟨rfl, hl, hi⟩ := decPa_eq hp
      have hlm : l.length ≤ maxStr := by unfold maxStr; omega
      have hH : oHere [.c (.p 0 0 0)] [paObj l i e bad] = some (dI (hereF l i e), [paObj l i e bad]) := by
        simp only [oHere, decPa_pa hl hi, Option.map_some]
      simp only [paObj] at hQ hH ⊢
      by_cases hb : bad < 0
      · simp only [failF, if_pos hb] at hQ
        refine seq_run ok0 rfl (by repeat (first | with_reducible exact runf_nil | refine runf_cons (by simp only [xstep, stepf, stepx, qev, St.ev, St.put, qload, cellsAt, qmk, C.cpy, TK.agg, qnil, qfieldAddr, qint, qshift, isShift, qbin, liveR, C.cp, constD, constC, List.getElem?_cons_zero, List.getElem?_cons_succ, List.set_cons_zero, List.set_cons_succ, List.replicate, List.length_cons, List.length_nil, List.cons_append, List.nil_append, List.map_nil, List.map_cons, List.all_cons, List.all_nil, List.take_succ_cons, List.take_zero, List.drop_succ_cons, List.drop_zero, Option.bind_some, Option.map_some, Option.map_none, Nat.reduceSub, if_true, if_false, and_self, decide_true, Option.some.injEq, reduceCtorEq, Bool.false_eq_true, Nat.zero_add, Bool.and_self, tk3, tsz3, tk80, eq_true hb]; rfl) ?_)) ?_
        refine tri_cond rfl (fun _ => ?_) (fun h => by cases h)
        refine run_end okK1 rfl (by repeat (first | with_reducible exact runf_nil | refine runf_cons (by simp only [xstep, stepf, stepx, evsA, qev, St.ev, St.put, St.with, D.cells, D.cell, qnil, qfieldAddr, liveR, C.st, C.dat, storeA, putCells, List.getElem?_cons_zero, List.getElem?_cons_succ, List.set_cons_zero, List.set_cons_succ, List.length_cons, List.length_nil, List.cons_append, List.nil_append, List.append_nil, List.map_nil, List.all_cons, List.all_nil, List.take_succ_cons, List.take_zero, List.drop_succ_cons, List.drop_zero, Option.bind_some, Option.map_some, Bool.and_true, Nat.reduceAdd, if_true, if_false, and_self, Option.some.injEq, ne_eq, not_false_eq_true, reduceCtorEq, Nat.le_refl, Bool.false_eq_true, implies_true, Nat.zero_add, beq_self_eq_true, Bool.and_self, Bool.true_or, dI, tsz3, tk80, callP, callO, Fs.none, dedup, rootsD, rootsC, List.flatMap_cons, List.flatMap_nil, List.filterMap_cons, List.filterMap_nil, argDs, argD, argC, List.contains_nil, objsAt, objOf, List.idxOf?, List.findIdx?, List.findIdx?.go, setObjs, settle, settle1, settleC, List.isEmpty_nil, FsK1, hH]; rfl) ?_)) ?_
        refine ends_norm rfl rfl .nil (by simp) ?_
        exact hQ
      · simp only [failF, if_neg hb] at hQ
        refine seq_run ok0 rfl (by repeat (first | with_reducible exact runf_nil | refine runf_cons (by simp only [xstep, stepf, stepx, qev, St.ev, St.put, qload, cellsAt, qmk, C.cpy, TK.agg, qnil, qfieldAddr, qint, qshift, isShift, qbin, liveR, C.cp, constD, constC, List.getElem?_cons_zero, List.getElem?_cons_succ, List.set_cons_zero, List.set_cons_succ, List.replicate, List.length_cons, List.length_nil, List.cons_append, List.nil_append, List.map_nil, List.map_cons, List.all_cons, List.all_nil, List.take_succ_cons, List.take_zero, List.drop_succ_cons, List.drop_zero, Option.bind_some, Option.map_some, Option.map_none, Nat.reduceSub, if_true, if_false, and_self, decide_false, Option.some.injEq, reduceCtorEq, Bool.false_eq_true, Nat.zero_add, Bool.and_self, tk3, tsz3, tk80, eq_false hb]; rfl) ?_)) ?_
        refine tri_cond rfl (fun h => by cases h) (fun _ => tri_skip ?_)
        refine ends_norm rfl rfl .nil (by simp) ?_
        exact hQ
  · cases hd

end Go.Dl

namespace Go.Dl
open Go.RowKit
open Go.Proofs
set_option linter.unusedSimpArgs false
set_option linter.unusedVariables false

def peekF (l : List Tok) (i : Nat) (bad : Int) (m : ByteArray) : Bool := decide (bad < 0) && match l[i]? with
  | some t => decide (t.1 = 3) && strEq t.2.1 m
  | none => false

def oPeek : List D → List Obj → Option (D × List Obj)
  | [.c (.p 0 0 0), .c (.v (.string m))], [o] => (decPa o).map fun r => (dB (peekF r.1 r.2.1 r.2.2.2 m), [o])
  | _, _ => none

theorem meets82 : Meets Try.prog 82 (detS oPeek) := by
  refine meets_of_tri (show Try.prog.funcs[82]? = some Try.f82 by kernel_rfl) rfl (n := 51) rfl (rs := [ResultVar.tmp 4]) rfl ?_
  rintro args objs Q ⟨d, os, hd, hQ⟩
  unfold oPeek at hd
  split at hd
  · rename_i m o
    cases hp : decPa o with
    | none => rw [hp] at hd; cases hd
    | some r =>
      obtain ⟨l, i, e, bad⟩ := r
      rw [hp] at hd
      cases hd
      obtain ⟨rfl, hl, hi⟩ := decPa_eq hp
      have hlm : l.length ≤ maxStr := by unfold maxStr; omega
      simp only [paObj] at hQ ⊢
      refine seq_run ok0 rfl (by repeat (first | with_reducible exact runf_nil | refine runf_cons (by simp only [xstep, stepf, stepx, qev, St.ev, St.put, constD, constC, List.set_cons_zero, List.set_cons_succ, List.replicate, List.length_cons, List.length_nil, List.cons_append, List.nil_append, List.map_nil, List.map_cons, Option.map_some, Nat.reduceAdd, Nat.reduceSub, Option.some.injEq, Nat.zero_add]; rfl) ?_)) ?_
      by_cases hb : bad < 0
      · by_cases hil : i < l.length
        · obtain ⟨x, hx⟩ : ∃ x, l[i]? = some x := ⟨l[i], List.getElem?_eq_getElem hil⟩
          have hlt : ((i : Int) < (l.length : Int)) = True := eq_true (by omega)
          have hg := toks_get l i x hx
          obtain ⟨k, t, at'⟩ := x
          simp only [peekF, hx, hb, decide_true, Bool.true_and] at hQ
          by_cases hk : k = 3
          · simp only [hk, decide_true, Bool.true_and] at hQ
            refine seq_any mixed ok0 rfl (by kernel_rfl) (by repeat (first | with_reducible exact runf_nil | refine runf_cons (by simp only [xstep, stepf, stepx, qev, St.ev, St.put, D.int, qload, cellsAt, qmk, C.cpy, TK.agg, qnil, qfieldAddr, qindexAddr, qpick, qint, qshift, qstr, isShift, qbin, qlen, qbuiltin, liveR, C.cp, constD, constC, List.getElem?_cons_zero, List.getElem?_cons_succ, List.set_cons_zero, List.set_cons_succ, List.length_cons, List.length_nil, List.map_nil, List.map_cons, List.all_cons, List.all_nil, List.take_succ_cons, List.take_zero, List.drop_succ_cons, List.drop_zero, Option.bind_some, Option.map_some, Option.map_none, if_true, if_false, and_self, decide_true, cond_true, List.getElem?_toArray, Option.some.injEq, ne_eq, not_false_eq_true, reduceCtorEq, Bool.false_eq_true, Nat.add_zero, Nat.zero_add, Bool.and_self, tk3, tsz3, tk9, tsz9, tk23, tsz23, tk33, tsz33, tk80, Int.toNat_natCast, Int.natCast_nonneg, List.length_map, hlm, tokC, hlt, hg, eq_true hb, eq_true hk]; rfl) ?_)) ?_
            refine tri_ret (ends_ret (by simp only [outRes, resDs, resD, outD, outC, C.dat, List.getElem?_cons_zero, List.getElem?_cons_succ, Option.map_some, if_true, Option.some.injEq]; rfl) rfl .nil (by simp) ?_)
            exact hQ
          · simp only [hk, decide_false, Bool.false_and] at hQ
            refine seq_any mixed ok0 rfl (by kernel_rfl) (by repeat (first | with_reducible exact runf_nil | refine runf_cons (by simp only [xstep, stepf, stepx, qev, St.ev, St.put, D.int, qload, cellsAt, qmk, C.cpy, TK.agg, qnil, qfieldAddr, qindexAddr, qpick, qint, qshift, isEq, qeq, isShift, qbin, qlen, qbuiltin, liveR, C.cp, constD, constC, List.getElem?_cons_zero, List.getElem?_cons_succ, List.set_cons_zero, List.set_cons_succ, List.length_cons, List.length_nil, List.map_nil, List.map_cons, List.all_cons, List.all_nil, List.take_succ_cons, List.take_zero, List.drop_succ_cons, List.drop_zero, Option.bind_some, Option.bind_none, Option.map_some, Option.map_none, if_true, if_false, and_self, decide_true, decide_false, cond_true, cond_false, List.getElem?_toArray, Option.some.injEq, ne_eq, not_false_eq_true, reduceCtorEq, Bool.false_eq_true, Nat.add_zero, Nat.zero_add, Bool.and_self, tk3, tsz3, tk9, tsz9, tk23, tsz23, tk33, tsz33, tk80, Int.toNat_natCast, Int.natCast_nonneg, List.length_map, hlm, tokC, hlt, hg, eq_true hb, eq_false hk]; rfl) ?_)) ?_
            refine tri_ret (ends_ret (by simp only [outRes, resDs, resD, outD, outC, C.dat, List.getElem?_cons_zero, List.getElem?_cons_succ, Option.map_some, if_true, Option.some.injEq]; rfl) rfl .nil (by simp) ?_)
            exact hQ
        · have hx : l[i]? = none := List.getElem?_eq_none (by omega)
          simp only [peekF, hx, Bool.and_false] at hQ
          refine seq_any mixed ok0 rfl (by kernel_rfl) (by repeat (first | with_reducible exact runf_nil | refine runf_cons (by simp only [xstep, stepf, stepx, qev, St.ev, St.put, D.int, qload, cellsAt, qmk, C.cpy, TK.agg, qnil, qfieldAddr, qpick, qint, qshift, isEq, qeq, isShift, qbin, qlen, qbuiltin, liveR, C.cp, constD, constC, List.getElem?_cons_zero, List.getElem?_cons_succ, List.set_cons_zero, List.set_cons_succ, List.length_cons, List.length_nil, List.map_nil, List.map_cons, List.all_cons, List.all_nil, List.take_succ_cons, List.take_zero, List.drop_succ_cons, List.drop_zero, Option.bind_some, Option.bind_none, Option.map_some, Option.map_none, if_true, if_false, and_self, decide_true, decide_false, cond_true, cond_false, List.getElem?_toArray, Option.some.injEq, reduceCtorEq, Bool.false_eq_true, Nat.add_zero, Nat.zero_add, Bool.and_self, tk3, tsz3, tk9, tsz9, tk23, tsz23, tk33, tk80, List.length_map, hlm, eq_true hb, show ((i : Int) < (l.length : Int)) = False from eq_false (by omega)]; rfl) ?_)) ?_
          refine tri_ret (ends_ret (by simp only [outRes, resDs, resD, outD, outC, C.dat, List.getElem?_cons_zero, List.getElem?_cons_succ, Option.map_some, if_true, Option.some.injEq]; rfl) rfl .nil (by simp) ?_)
          exact hQ
      · simp only [peekF, hb, decide_false, Bool.false_and] at hQ
        refine seq_any mixed ok0 rfl (by kernel_rfl) (by repeat (first | with_reducible exact runf_nil | refine runf_cons (by simp only [xstep, stepf, stepx, qev, St.ev, St.put, D.int, qload, cellsAt, qmk, C.cpy, TK.agg, qnil, qfieldAddr, qpick, qint, qshift, isEq, qeq, isShift, qbin, qlen, qbuiltin, liveR, C.cp, constD, constC, List.getElem?_cons_zero, List.getElem?_cons_succ, List.set_cons_zero, List.set_cons_succ, List.length_cons, List.length_nil, List.map_nil, List.map_cons, List.all_cons, List.all_nil, List.take_succ_cons, List.take_zero, List.drop_succ_cons, List.drop_zero, Option.bind_some, Option.bind_none, Option.map_some, Option.map_none, if_true, if_false, and_self, decide_false, cond_false, List.getElem?_toArray, Option.some.injEq, reduceCtorEq, Bool.false_eq_true, Nat.zero_add, Bool.and_self, tk3, tsz3, tk9, tsz9, tsz23, tk33, tk80, eq_false hb]; rfl) ?_)) ?_
        refine tri_ret (ends_ret (by simp only [outRes, resDs, resD, outD, outC, C.dat, List.getElem?_cons_zero, List.getElem?_cons_succ, Option.map_some, if_true, Option.some.injEq]; rfl) rfl .nil (by simp) ?_)
        exact hQ
  · cases hd

def FsK2 : Fs := { Fs.none with objs := fun k => if k = 62 then some oFail else if k = 82 then some oPeek else none }
theorem okK2 : FsOK Try.prog FsK2 := by
  refine ⟨fun _ _ h => (by cases h), fun k f h => ?_⟩
  simp only [FsK2] at h
  split at h
  · rename_i hk; subst hk; cases h; exact ⟨by kernel_rfl, meets62⟩
  split at h
  · rename_i hk; subst hk; cases h; exact ⟨by kernel_rfl, meets82⟩
  · cases h

/-- A token of a kind: its text, the next place, the first error. -/
def takeF (l : List Tok) (i : Nat) (e bad kind : Int) : ByteArray × Nat × Int :=
  if 0 ≤ bad then (noText, i, bad) else match l[i]? with
    | some t => if t.1 = kind then (t.2.1, i + 1, bad) else (noText, i, failF l i e bad)
    | none => (noText, i, failF l i e bad)

def oTakeP : List D → List Obj → Option (D × List Obj)
  | [.c (.p 0 0 0), .c (.v (.int .i64 kind))], [o] => (decPa o).map fun r => (.c (.v (.string (takeF r.1 r.2.1 r.2.2.1 r.2.2.2 kind).1)), [paObj r.1 (takeF r.1 r.2.1 r.2.2.1 r.2.2.2 kind).2.1 r.2.2.1 (takeF r.1 r.2.1 r.2.2.1 r.2.2.2 kind).2.2])
  | _, _ => none

theorem meets68 : Meets Try.prog 68 (detS oTakeP) := by
  refine meets_of_tri (show Try.prog.funcs[68]? = some Try.f68 by kernel_rfl) rfl (n := 56) rfl (rs := [ResultVar.tmp 4]) rfl ?_
  rintro args objs Q ⟨d, os, hd, hQ⟩
  unfold oTakeP at hd
  split at hd
  · rename_i kind o
    cases hp : decPa o with
    | none => rw [hp] at hd; cases hd
    | some r =>
      obtain ⟨l, i, e, bad⟩ := r
      rw [hp] at hd
      cases hd
      obtain ⟨rfl, hl, hi⟩ := decPa_eq hp
      have hlm : l.length ≤ maxStr := by unfold maxStr; omega
      have hF : oFail [.c (.p 0 0 0)] [paObj l i e bad] = some (.t [], [paObj l i e (failF l i e bad)]) := by
        simp only [oFail, decPa_pa hl hi, Option.map_some]
      simp only [paObj] at hQ hF ⊢
      refine seq_run ok0 rfl (by repeat (first | with_reducible exact runf_nil | refine runf_cons (by simp only [xstep, stepf, stepx, qev, St.ev, St.put, constD, constC, List.set_cons_zero, List.set_cons_succ, List.replicate, List.length_cons, List.length_nil, List.cons_append, List.nil_append, List.map_nil, List.map_cons, Option.map_some, Nat.reduceAdd, Nat.reduceSub, Option.some.injEq, Nat.zero_add]; rfl) ?_)) ?_
      by_cases hb : 0 ≤ bad
      · simp only [takeF, if_pos hb] at hQ
        refine seq_in (seq_run ok0 rfl (by repeat (first | with_reducible exact runf_nil | refine runf_cons (by simp only [xstep, stepf, stepx, qev, St.ev, St.put, qload, cellsAt, qmk, C.cpy, TK.agg, qnil, qfieldAddr, qint, qshift, isShift, qbin, liveR, C.cp, constD, constC, List.getElem?_cons_zero, List.getElem?_cons_succ, List.set_cons_zero, List.set_cons_succ, List.length_cons, List.length_nil, List.map_nil, List.map_cons, List.all_cons, List.all_nil, List.take_succ_cons, List.take_zero, List.drop_succ_cons, List.drop_zero, Option.bind_some, Option.map_some, Option.map_none, if_true, if_false, and_self, decide_true, Option.some.injEq, reduceCtorEq, Bool.false_eq_true, Nat.zero_add, Bool.and_self, tk3, tsz3, tk80, eq_true hb]; rfl) ?_)) ?_)
        refine tri_cond rfl (fun _ => ?_) (fun h => by cases h)
        refine seq_run ok0 rfl (by repeat (first | with_reducible exact runf_nil | refine runf_cons (by simp only [xstep, stepf, stepx, qev, St.ev, St.put, constD, constC, List.set_cons_zero, List.set_cons_succ, Option.map_some, Option.some.injEq]; rfl) ?_)) ?_
        refine tri_ret (ends_ret (by simp only [outRes, resDs, resD, outD, outC, C.dat, List.getElem?_cons_zero, List.getElem?_cons_succ, Option.map_some, if_true, Option.some.injEq]; rfl) rfl .nil (by simp) ?_)
        exact hQ
      · simp only [takeF, if_neg hb] at hQ
        refine seq_in (seq_run ok0 rfl (by repeat (first | with_reducible exact runf_nil | refine runf_cons (by simp only [xstep, stepf, stepx, qev, St.ev, St.put, qload, cellsAt, qmk, C.cpy, TK.agg, qnil, qfieldAddr, qint, qshift, isShift, qbin, liveR, C.cp, constD, constC, List.getElem?_cons_zero, List.getElem?_cons_succ, List.set_cons_zero, List.set_cons_succ, List.length_cons, List.length_nil, List.map_nil, List.map_cons, List.all_cons, List.all_nil, List.take_succ_cons, List.take_zero, List.drop_succ_cons, List.drop_zero, Option.bind_some, Option.map_some, Option.map_none, if_true, if_false, and_self, decide_false, Option.some.injEq, reduceCtorEq, Bool.false_eq_true, Nat.zero_add, Bool.and_self, tk3, tsz3, tk80, eq_false hb]; rfl) ?_)) ?_)
        refine tri_cond rfl (fun h => by cases h) (fun _ => then_skip ?_)
        by_cases hil : i < l.length
        · obtain ⟨x, hx⟩ : ∃ x, l[i]? = some x := ⟨l[i], List.getElem?_eq_getElem hil⟩
          have hlt : ((i : Int) < (l.length : Int)) = True := eq_true (by omega)
          have hge : ((l.length : Int) ≤ (i : Int)) = False := eq_false (by omega)
          have hg := toks_get l i x hx
          have hw := wrap_succ i l.length hil hlm
          have hw1 : IntKind.wrap .i64 (((i + 1 : Nat) : Int) - 1) = (i : Int) := by rw [wrap_i64 _ (by omega) (by omega)]; omega
          obtain ⟨k, t, at'⟩ := x
          simp only [hx] at hQ
          by_cases hk : k = kind
          · simp only [if_pos hk] at hQ
            refine seq_in (seq_any mixed ok0 rfl (by kernel_rfl) (by repeat (first | with_reducible exact runf_nil | refine runf_cons (by simp only [xstep, stepf, stepx, qev, St.ev, St.put, D.int, qload, cellsAt, qmk, C.cpy, TK.agg, qnil, qfieldAddr, qindexAddr, qpick, qint, qshift, isShift, qbin, qlen, qbuiltin, liveR, C.cp, constD, constC, List.getElem?_cons_zero, List.getElem?_cons_succ, List.set_cons_zero, List.set_cons_succ, List.length_cons, List.length_nil, List.map_nil, List.map_cons, List.all_cons, List.all_nil, List.take_succ_cons, List.take_zero, List.drop_succ_cons, List.drop_zero, Option.bind_some, Option.map_some, Option.map_none, if_true, if_false, and_self, decide_true, decide_false, Bool.not_true, cond_false, List.getElem?_toArray, Option.some.injEq, ne_eq, not_false_eq_true, reduceCtorEq, Bool.false_eq_true, Nat.add_zero, Nat.zero_add, Bool.and_self, tk3, tsz3, tk23, tsz23, tk33, tsz33, tk80, Int.toNat_natCast, Int.natCast_nonneg, List.length_map, hlm, tokC, hlt, hge, hg, eq_true hk]; rfl) ?_)) ?_)
            refine tri_cond rfl (fun h => by cases h) (fun _ => then_skip ?_)
            refine seq_run ok0 rfl (by repeat (first | with_reducible exact runf_nil | refine runf_cons (by simp only [xstep, stepf, stepx, qev, St.ev, St.put, D.cells, qload, cellsAt, qmk, C.cpy, TK.agg, qnil, qfieldAddr, qint, qshift, isShift, qbin, liveR, C.st, C.cp, C.dat, storeA, putCells, constD, constC, List.getElem?_cons_zero, List.getElem?_cons_succ, List.set_cons_zero, List.set_cons_succ, List.length_cons, List.length_nil, List.cons_append, List.nil_append, List.map_nil, List.map_cons, List.all_cons, List.all_nil, List.take_succ_cons, List.take_zero, List.drop_succ_cons, List.drop_zero, Option.bind_some, Option.map_some, Option.map_none, Nat.reduceAdd, if_true, if_false, and_self, Option.some.injEq, ne_eq, not_false_eq_true, reduceCtorEq, Nat.reduceLeDiff, Bool.false_eq_true, implies_true, Nat.zero_add, Bool.and_self, tk3, tsz3, tk80, hw]; rfl) ?_)) ?_
            refine seq_any mixed ok0 rfl (by kernel_rfl) (by repeat (first | with_reducible exact runf_nil | refine runf_cons (by simp only [xstep, stepf, stepx, qev, St.ev, St.put, D.int, qload, cellsAt, qmk, C.cpy, TK.agg, qnil, qfieldAddr, qindexAddr, qint, qshift, isShift, qbin, liveR, C.cp, constD, constC, List.getElem?_cons_zero, List.getElem?_cons_succ, List.set_cons_zero, List.set_cons_succ, List.length_cons, List.length_nil, List.map_nil, List.map_cons, List.all_cons, List.all_nil, List.take_succ_cons, List.take_zero, List.drop_succ_cons, List.drop_zero, Option.bind_some, Option.map_some, Option.map_none, if_true, if_false, and_self, Option.some.injEq, ne_eq, not_false_eq_true, reduceCtorEq, Bool.false_eq_true, Nat.add_zero, Nat.zero_add, Bool.and_self, tk3, tsz3, tk9, tsz9, tk23, tsz23, tk33, tsz33, tk80, Int.toNat_natCast, Int.natCast_nonneg, List.length_map, tokC, hw1, hlt, hg]; rfl) ?_)) ?_
            refine tri_ret (ends_ret (by simp only [outRes, resDs, resD, outD, outC, C.dat, List.getElem?_cons_zero, List.getElem?_cons_succ, Option.map_some, if_true, Option.some.injEq]; rfl) rfl .nil (by simp) ?_)
            exact hQ
          · simp only [if_neg hk] at hQ
            refine seq_in (seq_any mixed ok0 rfl (by kernel_rfl) (by repeat (first | with_reducible exact runf_nil | refine runf_cons (by simp only [xstep, stepf, stepx, qev, St.ev, St.put, D.int, qload, cellsAt, qmk, C.cpy, TK.agg, qnil, qfieldAddr, qindexAddr, qpick, qint, qshift, isShift, qbin, qlen, qbuiltin, liveR, C.cp, constD, constC, List.getElem?_cons_zero, List.getElem?_cons_succ, List.set_cons_zero, List.set_cons_succ, List.length_cons, List.length_nil, List.map_nil, List.map_cons, List.all_cons, List.all_nil, List.take_succ_cons, List.take_zero, List.drop_succ_cons, List.drop_zero, Option.bind_some, Option.map_some, Option.map_none, if_true, if_false, and_self, decide_false, Bool.not_false, cond_false, List.getElem?_toArray, Option.some.injEq, ne_eq, not_false_eq_true, reduceCtorEq, Bool.false_eq_true, Nat.add_zero, Nat.zero_add, Bool.and_self, tk3, tsz3, tk23, tsz23, tk33, tsz33, tk80, Int.toNat_natCast, Int.natCast_nonneg, List.length_map, hlm, tokC, hlt, hge, hg, eq_false hk]; rfl) ?_)) ?_)
            refine tri_cond rfl (fun _ => ?_) (fun h => by cases h)
            refine seq_run okK2 rfl (by repeat (first | with_reducible exact runf_nil | refine runf_cons (by simp only [xstep, stepf, stepx, evsA, qev, St.ev, St.put, St.with, D.cell, C.dat, List.getElem?_cons_zero, List.getElem?_cons_succ, List.set_cons_zero, List.set_cons_succ, List.length_cons, List.length_nil, List.nil_append, List.append_nil, List.map_nil, List.all_cons, List.all_nil, Option.bind_some, Option.map_some, Bool.and_true, Nat.reduceEqDiff, if_true, if_false, and_self, Option.some.injEq, Bool.false_eq_true, Nat.zero_add, beq_self_eq_true, Bool.and_self, Bool.true_or, callP, callO, Fs.none, dedup, rootsD, rootsC, List.flatMap_cons, List.flatMap_nil, List.filterMap_cons, List.filterMap_nil, argDs, argD, argC, List.contains_nil, objsAt, objOf, List.idxOf?, List.findIdx?, List.findIdx?.go, setObjs, settle, settleDs, List.isEmpty_nil, FsK2, hF]; rfl) ?_)) ?_
            refine seq_run ok0 rfl (by repeat (first | with_reducible exact runf_nil | refine runf_cons (by simp only [xstep, stepf, stepx, qev, St.ev, St.put, constD, constC, List.set_cons_zero, List.set_cons_succ, Option.map_some, Option.some.injEq]; rfl) ?_)) ?_
            refine tri_ret (ends_ret (by simp only [outRes, resDs, resD, outD, outC, C.dat, List.getElem?_cons_zero, List.getElem?_cons_succ, Option.map_some, if_true, Option.some.injEq]; rfl) rfl .nil (by simp) ?_)
            exact hQ
        · have hx : l[i]? = none := List.getElem?_eq_none (by omega)
          simp only [hx] at hQ
          refine seq_in (seq_any mixed ok0 rfl (by kernel_rfl) (by repeat (first | with_reducible exact runf_nil | refine runf_cons (by simp only [xstep, stepf, stepx, qev, St.ev, St.put, D.int, qload, cellsAt, qmk, C.cpy, TK.agg, qnil, qfieldAddr, qpick, qint, qshift, isEq, qeq, isShift, qbin, qlen, qbuiltin, liveR, C.cp, constD, constC, List.getElem?_cons_zero, List.getElem?_cons_succ, List.set_cons_zero, List.set_cons_succ, List.length_cons, List.length_nil, List.map_nil, List.map_cons, List.all_cons, List.all_nil, List.take_succ_cons, List.take_zero, List.drop_succ_cons, List.drop_zero, Option.bind_some, Option.bind_none, Option.map_some, Option.map_none, if_true, if_false, and_self, decide_true, cond_true, List.getElem?_toArray, Option.some.injEq, reduceCtorEq, Bool.false_eq_true, Nat.add_zero, Nat.zero_add, Bool.and_self, tk3, tsz3, tk23, tsz23, tk33, tk80, List.length_map, hlm, show ((l.length : Int) ≤ (i : Int)) = True from eq_true (by omega)]; rfl) ?_)) ?_)
          refine tri_cond rfl (fun _ => ?_) (fun h => by cases h)
          refine seq_run okK2 rfl (by repeat (first | with_reducible exact runf_nil | refine runf_cons (by simp only [xstep, stepf, stepx, evsA, qev, St.ev, St.put, St.with, D.cell, C.dat, List.getElem?_cons_zero, List.getElem?_cons_succ, List.set_cons_zero, List.set_cons_succ, List.length_cons, List.length_nil, List.nil_append, List.append_nil, List.map_nil, List.all_cons, List.all_nil, Option.bind_some, Option.map_some, Bool.and_true, Nat.reduceEqDiff, if_true, if_false, and_self, Option.some.injEq, Bool.false_eq_true, Nat.zero_add, beq_self_eq_true, Bool.and_self, Bool.true_or, callP, callO, Fs.none, dedup, rootsD, rootsC, List.flatMap_cons, List.flatMap_nil, List.filterMap_cons, List.filterMap_nil, argDs, argD, argC, List.contains_nil, objsAt, objOf, List.idxOf?, List.findIdx?, List.findIdx?.go, setObjs, settle, settleDs, List.isEmpty_nil, FsK2, hF]; rfl) ?_)) ?_
          refine seq_run ok0 rfl (by repeat (first | with_reducible exact runf_nil | refine runf_cons (by simp only [xstep, stepf, stepx, qev, St.ev, St.put, constD, constC, List.set_cons_zero, List.set_cons_succ, Option.map_some, Option.some.injEq]; rfl) ?_)) ?_
          refine tri_ret (ends_ret (by simp only [outRes, resDs, resD, outD, outC, C.dat, List.getElem?_cons_zero, List.getElem?_cons_succ, Option.map_some, if_true, Option.some.injEq]; rfl) rfl .nil (by simp) ?_)
          exact hQ
  · cases hd

/-- A mark. -/
def markF (l : List Tok) (i : Nat) (e bad : Int) (m : ByteArray) : Nat × Int := if peekF l i bad m = true then (i + 1, bad) else (i, failF l i e bad)
def oMark : List D → List Obj → Option (D × List Obj)
  | [.c (.p 0 0 0), .c (.v (.string m))], [o] => (decPa o).map fun r => (.t [], [paObj r.1 (markF r.1 r.2.1 r.2.2.1 r.2.2.2 m).1 r.2.2.1 (markF r.1 r.2.1 r.2.2.1 r.2.2.2 m).2])
  | _, _ => none

theorem meets70 : Meets Try.prog 70 (detS oMark) := by
  refine meets_of_tri (show Try.prog.funcs[70]? = some Try.f70 by kernel_rfl) rfl (n := 17) rfl (rs := []) rfl ?_
  rintro args objs Q ⟨d, os, hd, hQ⟩
  unfold oMark at hd
  split at hd
  · rename_i m o
    cases hp : decPa o with
    | none => rw [hp] at hd; cases hd
    | some r =>
      obtain ⟨l, i, e, bad⟩ := r
      rw [hp] at hd
      cases hd
      obtain ⟨rfl, hl, hi⟩ := decPa_eq hp
      have hlm : l.length ≤ maxStr := by unfold maxStr; omega
      have hF : oFail [.c (.p 0 0 0)] [paObj l i e bad] = some (.t [], [paObj l i e (failF l i e bad)]) := by
        simp only [oFail, decPa_pa hl hi, Option.map_some]
      have hP : oPeek [.c (.p 0 0 0), .c (.v (.string m))] [paObj l i e bad] = some (dB (peekF l i bad m), [paObj l i e bad]) := by
        simp only [oPeek, decPa_pa hl hi, Option.map_some]
      have hw := wrap_succ i 2000000 (by omega) (by decide)
      simp only [paObj] at hQ hF hP ⊢
      cases hpk : peekF l i bad m with
      | true =>
        rw [hpk] at hP
        simp only [markF, hpk, if_true] at hQ
        refine seq_in (seq_run okK2 rfl (by repeat (first | with_reducible exact runf_nil | refine runf_cons (by simp only [xstep, stepf, stepx, evsA, qev, St.ev, St.put, St.with, D.cell, C.cpy, qun, C.cp, C.dat, List.getElem?_cons_zero, List.getElem?_cons_succ, List.set_cons_zero, List.set_cons_succ, List.replicate, List.length_cons, List.length_nil, List.cons_append, List.nil_append, List.append_nil, List.map_nil, List.map_cons, List.all_cons, List.all_nil, Option.bind_some, Option.map_some, Bool.and_true, Nat.reduceAdd, Nat.reduceSub, Nat.reduceEqDiff, if_true, if_false, and_self, Bool.not_true, Option.some.injEq, Bool.false_eq_true, Nat.zero_add, beq_self_eq_true, Bool.and_self, Bool.true_or, dB, callP, callO, Fs.none, dedup, rootsD, rootsC, List.flatMap_cons, List.flatMap_nil, List.filterMap_cons, List.filterMap_nil, argDs, argD, argC, List.contains_nil, objsAt, objOf, List.idxOf?, List.findIdx?, List.findIdx?.go, setObjs, settle, settle1, settleC, List.isEmpty_nil, FsK2, hP]; rfl) ?_)) ?_)
        refine tri_cond rfl (fun h => by cases h) (fun _ => then_skip ?_)
        refine run_end ok0 rfl (by repeat (first | with_reducible exact runf_nil | refine runf_cons (by simp only [xstep, stepf, stepx, qev, St.ev, St.put, D.cells, qload, cellsAt, qmk, C.cpy, TK.agg, qnil, qfieldAddr, qint, qshift, isShift, qbin, liveR, C.st, C.cp, C.dat, storeA, putCells, constD, constC, List.getElem?_cons_zero, List.getElem?_cons_succ, List.set_cons_zero, List.set_cons_succ, List.length_cons, List.length_nil, List.cons_append, List.nil_append, List.map_nil, List.map_cons, List.all_cons, List.all_nil, List.take_succ_cons, List.take_zero, List.drop_succ_cons, List.drop_zero, Option.bind_some, Option.map_some, Option.map_none, Nat.reduceAdd, if_true, if_false, and_self, Option.some.injEq, ne_eq, not_false_eq_true, reduceCtorEq, Nat.reduceLeDiff, Bool.false_eq_true, implies_true, Nat.zero_add, Bool.and_self, tk3, tsz3, tk80, hw]; rfl) ?_)) ?_
        refine ends_norm rfl rfl .nil (by simp) ?_
        exact hQ
      | false =>
        rw [hpk] at hP
        simp only [markF, hpk, Bool.false_eq_true, if_false] at hQ
        refine seq_in (seq_run okK2 rfl (by repeat (first | with_reducible exact runf_nil | refine runf_cons (by simp only [xstep, stepf, stepx, evsA, qev, St.ev, St.put, St.with, D.cell, C.cpy, qun, C.cp, C.dat, List.getElem?_cons_zero, List.getElem?_cons_succ, List.set_cons_zero, List.set_cons_succ, List.replicate, List.length_cons, List.length_nil, List.cons_append, List.nil_append, List.append_nil, List.map_nil, List.map_cons, List.all_cons, List.all_nil, Option.bind_some, Option.map_some, Bool.and_true, Nat.reduceAdd, Nat.reduceSub, Nat.reduceEqDiff, if_true, if_false, and_self, Bool.not_false, Option.some.injEq, Bool.false_eq_true, Nat.zero_add, beq_self_eq_true, Bool.and_self, Bool.true_or, dB, callP, callO, Fs.none, dedup, rootsD, rootsC, List.flatMap_cons, List.flatMap_nil, List.filterMap_cons, List.filterMap_nil, argDs, argD, argC, List.contains_nil, objsAt, objOf, List.idxOf?, List.findIdx?, List.findIdx?.go, setObjs, settle, settle1, settleC, List.isEmpty_nil, FsK2, hP]; rfl) ?_)) ?_)
        refine tri_cond rfl (fun _ => ?_) (fun h => by cases h)
        refine seq_run okK2 rfl (by repeat (first | with_reducible exact runf_nil | refine runf_cons (by simp only [xstep, stepf, stepx, evsA, qev, St.ev, St.put, St.with, D.cell, C.dat, List.getElem?_cons_zero, List.getElem?_cons_succ, List.set_cons_zero, List.set_cons_succ, List.length_cons, List.length_nil, List.nil_append, List.append_nil, List.map_nil, List.all_cons, List.all_nil, Option.bind_some, Option.map_some, Bool.and_true, Nat.reduceEqDiff, if_true, if_false, and_self, Option.some.injEq, Bool.false_eq_true, Nat.zero_add, beq_self_eq_true, Bool.and_self, Bool.true_or, callP, callO, Fs.none, dedup, rootsD, rootsC, List.flatMap_cons, List.flatMap_nil, List.filterMap_cons, List.filterMap_nil, argDs, argD, argC, List.contains_nil, objsAt, objOf, List.idxOf?, List.findIdx?, List.findIdx?.go, setObjs, settle, settleDs, List.isEmpty_nil, FsK2, hF]; rfl) ?_)) ?_
        refine tri_ret (ends_ret (by simp only [outRes, resDs, outDs, Option.map_some, Option.some.injEq]; rfl) rfl .nil (by simp) ?_)
        exact hQ
  · cases hd

end Go.Dl

namespace Go.Dl
open Go.RowKit
open Go.Proofs
set_option linter.unusedSimpArgs false
set_option linter.unusedVariables false

/-- Digits, from a number on. -/
def digN : List UInt8 → Int → Option Int
  | [], n => some n
  | c :: l, n => if IntKind.wrap .u64 ((IntKind.wrap .u64 (18446744073709551615 - IntKind.wrap .u64 (IntKind.wrap .u8 ((c.toNat : Int) - 48)))).tdiv 10) < n then none
    else digN l (IntKind.wrap .u64 (IntKind.wrap .u64 (10 * n) + IntKind.wrap .u64 (IntKind.wrap .u8 ((c.toNat : Int) - 48))))
def digitsF (s : ByteArray) : Int × Bool :=
  if strEq s noText = true then (0, false) else if 1 < s.size ∧ byt s 0 = 48 then (0, false) else if 20 < s.size then (0, false) else match digN s.data.toList 0 with
    | none => (0, false)
    | some n => (n, true)

def pDigits : List D → Option D
  | [.c (.v (.string s))] => if s.size ≤ 1000000 then some (.t [.c (.v (.int .u64 (digitsF s).1)), dB (digitsF s).2]) else none
  | _ => none

theorem meets76 : Meets Try.prog 76 (pureS pDigits) := by
  refine meets_of_tri (show Try.prog.funcs[76]? = some Try.f76 by kernel_rfl) rfl (n := 46) rfl (rs := [ResultVar.tmp 2, ResultVar.tmp 3]) rfl ?_
  rintro args objs Q ⟨rfl, d, hd, hQ⟩
  unfold pDigits at hd
  split at hd
  · rename_i s
    split at hd
    · rename_i hs
      cases hd
      refine seq_run ok0 rfl (by repeat (first | with_reducible exact runf_nil | refine runf_cons (by simp only [xstep, stepf, stepx, qev, St.ev, St.put, constD, constC, List.set_cons_zero, List.set_cons_succ, List.replicate, List.length_cons, List.length_nil, List.cons_append, List.nil_append, List.map_nil, Option.map_some, Nat.reduceSub, Option.some.injEq, Nat.zero_add]; rfl) ?_)) ?_
      have bad : ∀ A : St, True := fun _ => trivial
      by_cases h0 : strEq s noText = true
      · simp only [digitsF, if_pos h0] at hQ
        have h0' : strEq s ⟨#[]⟩ = true := h0
        refine seq_in (seq_run ok0 rfl (by repeat (first | with_reducible exact runf_nil | refine runf_cons (by simp only [xstep, stepf, stepx, qev, St.ev, St.put, qpick, qstr, isEq, qbin, qlen, qbuiltin, constD, constC, List.getElem?_cons_zero, List.getElem?_cons_succ, List.set_cons_zero, List.set_cons_succ, Option.bind_some, Option.map_some, Option.map_none, if_false, cond_true, List.getElem?_toArray, Option.some.injEq, reduceCtorEq, h0']; rfl) ?_)) ?_)
        refine tri_cond rfl (fun _ => ?_) (fun h => by cases h)
        refine seq_run ok0 rfl (by repeat (first | with_reducible exact runf_nil | refine runf_cons (by simp only [xstep, stepf, stepx, qev, St.ev, St.put, constD, constC, List.set_cons_zero, List.set_cons_succ, Option.map_some, Option.some.injEq]; rfl) ?_)) ?_
        refine tri_ret (ends_ret (by simp only [outRes, resDs, resD, outDs, outD, outC, C.dat, List.getElem?_cons_zero, List.getElem?_cons_succ, Option.map_some, if_true, Option.some.injEq]; rfl) rfl (by simp) (by simp) ?_)
        exact hQ
      · simp only [digitsF, if_neg h0] at hQ
        have h0' : strEq s ⟨#[]⟩ = false := (Bool.eq_false_iff).2 h0
        by_cases h1 : 1 < s.size
        · by_cases h2 : byt s 0 = 48
          · simp only [if_pos (And.intro h1 h2)] at hQ
            have h2' : ((s.data.toList.getD 0 0).toNat : Int) = 48 := h2
            refine seq_in (seq_run ok0 rfl (by repeat (first | with_reducible exact runf_nil | refine runf_cons (by simp only [xstep, stepf, stepx, qev, St.ev, St.put, D.int, qindex, qpick, qint, qshift, qstr, isEq, isShift, qbin, qlen, qbuiltin, constD, constC, List.getElem?_cons_zero, List.getElem?_cons_succ, List.set_cons_zero, List.set_cons_succ, Option.bind_some, Option.map_some, Option.map_none, if_true, if_false, and_self, decide_true, cond_true, cond_false, List.getElem?_toArray, Option.some.injEq, reduceCtorEq, Int.reduceLE, Bool.false_eq_true, tk9, Int.toNat_zero, h0', show ((1 : Int) < (s.size : Int)) = True from eq_true (by omega), show ((0 : Int) < (s.size : Int)) = True from eq_true (by omega), eq_true h2']; rfl) ?_)) ?_)
            refine tri_cond rfl (fun _ => ?_) (fun h => by cases h)
            refine seq_run ok0 rfl (by repeat (first | with_reducible exact runf_nil | refine runf_cons (by simp only [xstep, stepf, stepx, qev, St.ev, St.put, constD, constC, List.set_cons_zero, List.set_cons_succ, Option.map_some, Option.some.injEq]; rfl) ?_)) ?_
            refine tri_ret (ends_ret (by simp only [outRes, resDs, resD, outDs, outD, outC, C.dat, List.getElem?_cons_zero, List.getElem?_cons_succ, Option.map_some, if_true, Option.some.injEq]; rfl) rfl (by simp) (by simp) ?_)
            exact hQ
          · simp only [if_neg (show ¬ (1 < s.size ∧ byt s 0 = 48) from fun h => h2 h.2)] at hQ
            have h2' : ¬ ((s.data.toList.getD 0 0).toNat : Int) = 48 := h2
            by_cases h3 : 20 < s.size
            · simp only [if_pos h3] at hQ
              refine seq_in (seq_run ok0 rfl (by repeat (first | with_reducible exact runf_nil | refine runf_cons (by simp only [xstep, stepf, stepx, qev, St.ev, St.put, D.int, qindex, qpick, qint, qshift, qstr, isShift, qbin, qlen, qbuiltin, constD, constC, List.getElem?_cons_zero, List.getElem?_cons_succ, List.set_cons_zero, List.set_cons_succ, Option.bind_some, Option.map_some, Option.map_none, if_true, if_false, and_self, decide_true, decide_false, cond_true, cond_false, List.getElem?_toArray, Option.some.injEq, Int.reduceLE, Bool.false_eq_true, tk9, Int.toNat_zero, h0', show ((1 : Int) < (s.size : Int)) = True from eq_true (by omega), show ((0 : Int) < (s.size : Int)) = True from eq_true (by omega), eq_false h2', show ((20 : Int) < (s.size : Int)) = True from eq_true (by omega)]; rfl) ?_)) ?_)
              refine tri_cond rfl (fun _ => ?_) (fun h => by cases h)
              refine seq_run ok0 rfl (by repeat (first | with_reducible exact runf_nil | refine runf_cons (by simp only [xstep, stepf, stepx, qev, St.ev, St.put, constD, constC, List.set_cons_zero, List.set_cons_succ, Option.map_some, Option.some.injEq]; rfl) ?_)) ?_
              refine tri_ret (ends_ret (by simp only [outRes, resDs, resD, outDs, outD, outC, C.dat, List.getElem?_cons_zero, List.getElem?_cons_succ, Option.map_some, if_true, Option.some.injEq]; rfl) rfl (by simp) (by simp) ?_)
              exact hQ
            · simp only [if_neg h3] at hQ
              refine seq_in (seq_run ok0 rfl (by repeat (first | with_reducible exact runf_nil | refine runf_cons (by simp only [xstep, stepf, stepx, qev, St.ev, St.put, D.int, qindex, qpick, qint, qshift, qstr, isShift, qbin, qlen, qbuiltin, constD, constC, List.getElem?_cons_zero, List.getElem?_cons_succ, List.set_cons_zero, List.set_cons_succ, Option.bind_some, Option.map_some, Option.map_none, if_true, if_false, and_self, decide_true, decide_false, cond_true, cond_false, List.getElem?_toArray, Option.some.injEq, Int.reduceLE, Bool.false_eq_true, tk9, Int.toNat_zero, h0', show ((1 : Int) < (s.size : Int)) = True from eq_true (by omega), show ((0 : Int) < (s.size : Int)) = True from eq_true (by omega), eq_false h2', show ((20 : Int) < (s.size : Int)) = False from eq_false (by omega)]; rfl) ?_)) ?_)
              refine tri_cond rfl (fun h => by cases h) (fun _ => then_skip ?_)
              refine seq_run ok0 rfl (by repeat (first | with_reducible exact runf_nil | refine runf_cons (by simp only [xstep, stepf, stepx, qev, St.ev, St.put, constD, constC, List.set_cons_zero, List.set_cons_succ, Option.map_some, Option.some.injEq]; rfl) ?_)) ?_
              obtain ⟨bs, hbs⟩ : ∃ bs, s.data.toList = bs := ⟨_, rfl⟩
              rw [hbs] at hQ
              have hbl : bs.length ≤ 1000000 := by rw [← hbs]; exact Nat.le_trans (Nat.le_of_eq (B_length s)) hs
              have hbm : bs.length ≤ maxStr := by unfold maxStr; omega
              refine seq_in (seq_run ok0 rfl (by repeat (first | with_reducible exact runf_nil | refine runf_cons (by simp only [xstep, stepf, stepx, qev, St.ev, St.put, St.with, qconv, qlen, qbuiltin, liveR, constD, constC, List.getElem?_cons_zero, List.getElem?_cons_succ, List.set_cons_zero, List.set_cons_succ, List.length_nil, List.nil_append, Option.bind_some, Option.map_some, if_true, and_self, Option.some.injEq, tk5, tk9, tk35, bytesStr, strBytes, hbs, hbm]; rfl) ?_)) ?_)
              refine tri_block ?_
              refine tri_loop_le (fun n A => ∃ (j : Nat) (m : Int), j ≤ bs.length ∧ n = bs.length - j ∧ digN (bs.drop j) m = digN bs 0 ∧ A = ⟨[.top, .top, .top, .top, .c (.v (.int .u64 m)), .top, .top, .top, .top, .top, .top, .top, .top, .top, .top, .top, .top, .top, .top, .top, .top, .top, .top, .top, .top, .top, .c (.h 0 0 bs.length), dI bs.length, dI j, .top, .top, .top, .top, .top, .top, .top, .top, .top, .top, .top, .top, .top, .top, .top, .top, .top], [some ⟨true, 1, bs.map byteRow⟩]⟩) bs.length
                (B := ⟨[.top, .top, .top, .top, .c (.v (.int .u64 0)), .top, .top, .top, .top, .top, .top, .top, .top, .top, .top, .top, .top, .top, .top, .top, .top, .top, .top, .top, .top, .top, .c (.h 0 0 bs.length), dI bs.length, dI (0 : Nat), .top, .top, .top, .top, .top, .top, .top, .top, .top, .top, .top, .top, .top, .top, .top, .top, .top], [some ⟨true, 1, bs.map byteRow⟩]⟩)
                ⟨by repeat (first | exact .nil | refine .same ?_ | refine .top ?_), rfl⟩ ⟨0, 0, by omega, by omega, rfl, rfl⟩ ?_
              rintro n A ⟨j, m, hj, rfl, hg, rfl⟩
              refine seq_run ok0 rfl (by repeat (first | with_reducible exact runf_nil | refine runf_cons (by simp only [xstep, stepf, stepx, qev, St.ev, St.put, qint, qshift, isShift, qbin, List.getElem?_cons_zero, List.getElem?_cons_succ, List.set_cons_zero, List.set_cons_succ, Option.map_some, Option.map_none, if_true, if_false, Option.some.injEq, Bool.false_eq_true, dI]; rfl) ?_)) ?_
              refine seq_cond rfl (fun h => then_skip ?_) (fun h => tri_exit ?_)
              · have hjl : j < bs.length := by have := of_decide_eq_true h; omega
                obtain ⟨x, hx⟩ : ∃ x, bs[j]? = some x := ⟨bs[j], List.getElem?_eq_getElem hjl⟩
                have hdx : bs.drop j = x :: bs.drop (j + 1) := by rw [List.drop_eq_getElem_cons hjl]; rw [List.getElem?_eq_getElem hjl] at hx; cases hx; rfl
                rw [hdx] at hg
                simp only [digN] at hg
                have hgx : (bs.map byteRow)[j]? = some [.v (.int .u8 (x.toNat : Nat))] := by rw [List.getElem?_map, hx]; rfl
                refine seq_in (tri_block ?_)
                refine seq_run ok0 rfl (by repeat (first | with_reducible exact runf_nil | refine runf_cons (by simp only [xstep, stepf, stepx, qev, St.ev, St.put, D.int, qload, cellsAt, qmk, C.cpy, TK.agg, qindexAddr, C.cp, List.getElem?_cons_zero, List.getElem?_cons_succ, List.set_cons_zero, List.set_cons_succ, List.length_cons, List.length_nil, List.map_nil, List.map_cons, List.all_cons, List.all_nil, List.take_succ_cons, List.take_zero, List.drop_zero, Option.bind_some, Option.map_some, if_true, if_false, and_self, decide_true, Option.some.injEq, ne_eq, not_false_eq_true, reduceCtorEq, Bool.false_eq_true, Nat.zero_add, Bool.and_self, tk5, tsz5, tk35, Int.toNat_natCast, Int.natCast_nonneg, hgx, show ((j : Int) < (bs.length : Int)) = True from eq_true (by omega)]; rfl) ?_)) ?_
                refine seq_run ok0 rfl (by repeat (first | with_reducible exact runf_nil | refine runf_cons (by simp only [xstep, stepf, stepx, qev, St.ev, St.put, qint, qshift, isShift, qbin, qconv, constD, constC, List.getElem?_cons_zero, List.getElem?_cons_succ, List.set_cons_zero, List.set_cons_succ, Option.bind_some, Option.map_some, Option.map_none, if_true, if_false, Option.some.injEq, Bool.false_eq_true, tk5, tk37]; rfl) ?_)) ?_
                split at hg
                · rename_i hover
                  refine seq_in (seq_run ok0 rfl (by repeat (first | with_reducible exact runf_nil | refine runf_cons (by simp only [xstep, stepf, stepx, qev, St.ev, St.put, qint, qshift, isShift, qbin, constD, constC, List.getElem?_cons_zero, List.getElem?_cons_succ, List.set_cons_zero, List.set_cons_succ, Option.map_some, Option.map_none, if_true, if_false, decide_true, Option.some.injEq, Bool.false_eq_true, show ((10 : Int) = 0) = False from eq_false (by decide), eq_true hover]; rfl) ?_)) ?_)
                  refine tri_cond rfl (fun _ => ?_) (fun h => by cases h)
                  refine seq_run ok0 rfl (by repeat (first | with_reducible exact runf_nil | refine runf_cons (by simp only [xstep, stepf, stepx, qev, St.ev, St.put, constD, constC, List.set_cons_zero, List.set_cons_succ, Option.map_some, Option.some.injEq]; rfl) ?_)) ?_
                  refine tri_ret (ends_ret (by simp only [outRes, resDs, resD, outDs, outD, outC, C.dat, List.getElem?_cons_zero, List.getElem?_cons_succ, Option.map_some, if_true, Option.some.injEq]; rfl) rfl (by simp) (by simp) ?_)
                  rw [← hg] at hQ
                  exact hQ
                · rename_i hover
                  refine seq_in (seq_run ok0 rfl (by repeat (first | with_reducible exact runf_nil | refine runf_cons (by simp only [xstep, stepf, stepx, qev, St.ev, St.put, qint, qshift, isShift, qbin, constD, constC, List.getElem?_cons_zero, List.getElem?_cons_succ, List.set_cons_zero, List.set_cons_succ, Option.map_some, Option.map_none, if_true, if_false, decide_false, Option.some.injEq, Bool.false_eq_true, show ((10 : Int) = 0) = False from eq_false (by decide), eq_false hover]; rfl) ?_)) ?_)
                  refine tri_cond rfl (fun h => by cases h) (fun _ => then_skip ?_)
                  refine run_end ok0 rfl (by repeat (first | with_reducible exact runf_nil | refine runf_cons (by simp only [xstep, stepf, stepx, qev, St.ev, St.put, qint, qshift, isShift, qbin, constD, constC, List.getElem?_cons_zero, List.getElem?_cons_succ, List.set_cons_zero, List.set_cons_succ, Option.map_some, Option.map_none, if_true, if_false, Option.some.injEq, Bool.false_eq_true]; rfl) ?_)) ?_
                  refine run_end ok0 rfl (by repeat (first | with_reducible exact runf_nil | refine runf_cons (by simp only [xstep, stepf, stepx, qev, St.ev, St.put, qint, qshift, isShift, qbin, constD, constC, List.getElem?_cons_zero, List.getElem?_cons_succ, List.set_cons_zero, List.set_cons_succ, Option.map_some, Option.map_none, if_true, if_false, Option.some.injEq, Bool.false_eq_true, wrap_succ j bs.length hjl hbm]; rfl) ?_)) ?_
                  exact ⟨bs.length - (j + 1), by omega, ⟨[.top, .top, .top, .top, .c (.v (.int .u64 _)), .top, .top, .top, .top, .top, .top, .top, .top, .top, .top, .top, .top, .top, .top, .top, .top, .top, .top, .top, .top, .top, .c (.h 0 0 bs.length), dI bs.length, dI (j + 1 : Nat), .top, .top, .top, .top, .top, .top, .top, .top, .top, .top, .top, .top, .top, .top, .top, .top, .top], [some ⟨true, 1, bs.map byteRow⟩]⟩, ⟨by repeat (first | exact .nil | refine .same ?_ | refine .top ?_), rfl⟩, j + 1, _, hjl, rfl, hg, rfl⟩
              · have hjl : j = bs.length := by have := of_decide_eq_false h; omega
                subst hjl
                rw [List.drop_length] at hg
                simp only [digN] at hg
                rw [← hg] at hQ
                show Tri _ _ _ _
                refine seq_run ok0 rfl (by repeat (first | with_reducible exact runf_nil | refine runf_cons (by simp only [xstep, stepf, stepx, qev, St.ev, St.put, constD, constC, List.getElem?_cons_zero, List.getElem?_cons_succ, List.set_cons_zero, List.set_cons_succ, Option.map_some, Option.some.injEq]; rfl) ?_)) ?_
                refine tri_ret (ends_ret (by simp only [outRes, resDs, resD, outDs, outD, outC, C.dat, List.getElem?_cons_zero, List.getElem?_cons_succ, Option.map_some, if_true, Option.some.injEq]; rfl) rfl (by simp) (by simp) ?_)
                exact hQ
        · simp only [if_neg (show ¬ (1 < s.size ∧ byt s 0 = 48) from fun h => h1 h.1), if_neg (show ¬ 20 < s.size by omega)] at hQ
          refine seq_in (seq_run ok0 rfl (by repeat (first | with_reducible exact runf_nil | refine runf_cons (by simp only [xstep, stepf, stepx, qev, St.ev, St.put, D.int, qindex, qpick, qint, qshift, qstr, isEq, qeq, isShift, qbin, qlen, qbuiltin, constD, constC, List.getElem?_cons_zero, List.getElem?_cons_succ, List.set_cons_zero, List.set_cons_succ, Option.bind_some, Option.map_some, Option.map_none, if_true, if_false, decide_false, cond_false, List.getElem?_toArray, Option.some.injEq, Bool.false_eq_true, tk5, tk9, h0', show ((1 : Int) < (s.size : Int)) = False from eq_false (by omega), show ((20 : Int) < (s.size : Int)) = False from eq_false (by omega)]; rfl) ?_)) ?_)
          refine tri_cond rfl (fun h => by cases h) (fun _ => then_skip ?_)
          refine seq_run ok0 rfl (by repeat (first | with_reducible exact runf_nil | refine runf_cons (by simp only [xstep, stepf, stepx, qev, St.ev, St.put, constD, constC, List.set_cons_zero, List.set_cons_succ, Option.map_some, Option.some.injEq]; rfl) ?_)) ?_
          obtain ⟨bs, hbs⟩ : ∃ bs, s.data.toList = bs := ⟨_, rfl⟩
          rw [hbs] at hQ
          have hbl : bs.length ≤ 1000000 := by rw [← hbs]; exact Nat.le_trans (Nat.le_of_eq (B_length s)) hs
          have hbm : bs.length ≤ maxStr := by unfold maxStr; omega
          refine seq_in (seq_run ok0 rfl (by repeat (first | with_reducible exact runf_nil | refine runf_cons (by simp only [xstep, stepf, stepx, qev, St.ev, St.put, St.with, qconv, qlen, qbuiltin, liveR, constD, constC, List.getElem?_cons_zero, List.getElem?_cons_succ, List.set_cons_zero, List.set_cons_succ, List.length_nil, List.nil_append, Option.bind_some, Option.map_some, if_true, and_self, Option.some.injEq, tk5, tk9, tk35, bytesStr, strBytes, hbs, hbm]; rfl) ?_)) ?_)
          refine tri_block ?_
          refine tri_loop_le (fun n A => ∃ (j : Nat) (m : Int), j ≤ bs.length ∧ n = bs.length - j ∧ digN (bs.drop j) m = digN bs 0 ∧ A = ⟨[.top, .top, .top, .top, .c (.v (.int .u64 m)), .top, .top, .top, .top, .top, .top, .top, .top, .top, .top, .top, .top, .top, .top, .top, .top, .top, .top, .top, .top, .top, .c (.h 0 0 bs.length), dI bs.length, dI j, .top, .top, .top, .top, .top, .top, .top, .top, .top, .top, .top, .top, .top, .top, .top, .top, .top], [some ⟨true, 1, bs.map byteRow⟩]⟩) bs.length
            (B := ⟨[.top, .top, .top, .top, .c (.v (.int .u64 0)), .top, .top, .top, .top, .top, .top, .top, .top, .top, .top, .top, .top, .top, .top, .top, .top, .top, .top, .top, .top, .top, .c (.h 0 0 bs.length), dI bs.length, dI (0 : Nat), .top, .top, .top, .top, .top, .top, .top, .top, .top, .top, .top, .top, .top, .top, .top, .top, .top], [some ⟨true, 1, bs.map byteRow⟩]⟩)
            ⟨by repeat (first | exact .nil | refine .same ?_ | refine .top ?_), rfl⟩ ⟨0, 0, by omega, by omega, rfl, rfl⟩ ?_
          rintro n A ⟨j, m, hj, rfl, hg, rfl⟩
          refine seq_run ok0 rfl (by repeat (first | with_reducible exact runf_nil | refine runf_cons (by simp only [xstep, stepf, stepx, qev, St.ev, St.put, qint, qshift, isShift, qbin, List.getElem?_cons_zero, List.getElem?_cons_succ, List.set_cons_zero, List.set_cons_succ, Option.map_some, Option.map_none, if_true, if_false, Option.some.injEq, Bool.false_eq_true, dI]; rfl) ?_)) ?_
          refine seq_cond rfl (fun h => then_skip ?_) (fun h => tri_exit ?_)
          · have hjl : j < bs.length := by have := of_decide_eq_true h; omega
            obtain ⟨x, hx⟩ : ∃ x, bs[j]? = some x := ⟨bs[j], List.getElem?_eq_getElem hjl⟩
            have hdx : bs.drop j = x :: bs.drop (j + 1) := by rw [List.drop_eq_getElem_cons hjl]; rw [List.getElem?_eq_getElem hjl] at hx; cases hx; rfl
            rw [hdx] at hg
            simp only [digN] at hg
            have hgx : (bs.map byteRow)[j]? = some [.v (.int .u8 (x.toNat : Nat))] := by rw [List.getElem?_map, hx]; rfl
            refine seq_in (tri_block ?_)
            refine seq_run ok0 rfl (by repeat (first | with_reducible exact runf_nil | refine runf_cons (by simp only [xstep, stepf, stepx, qev, St.ev, St.put, D.int, qload, cellsAt, qmk, C.cpy, TK.agg, qindexAddr, C.cp, List.getElem?_cons_zero, List.getElem?_cons_succ, List.set_cons_zero, List.set_cons_succ, List.length_cons, List.length_nil, List.map_nil, List.map_cons, List.all_cons, List.all_nil, List.take_succ_cons, List.take_zero, List.drop_zero, Option.bind_some, Option.map_some, if_true, if_false, and_self, decide_true, Option.some.injEq, ne_eq, not_false_eq_true, reduceCtorEq, Bool.false_eq_true, Nat.zero_add, Bool.and_self, tk5, tsz5, tk35, Int.toNat_natCast, Int.natCast_nonneg, hgx, show ((j : Int) < (bs.length : Int)) = True from eq_true (by omega)]; rfl) ?_)) ?_
            refine seq_run ok0 rfl (by repeat (first | with_reducible exact runf_nil | refine runf_cons (by simp only [xstep, stepf, stepx, qev, St.ev, St.put, qint, qshift, isShift, qbin, qconv, constD, constC, List.getElem?_cons_zero, List.getElem?_cons_succ, List.set_cons_zero, List.set_cons_succ, Option.bind_some, Option.map_some, Option.map_none, if_true, if_false, Option.some.injEq, Bool.false_eq_true, tk5, tk37]; rfl) ?_)) ?_
            split at hg
            · rename_i hover
              refine seq_in (seq_run ok0 rfl (by repeat (first | with_reducible exact runf_nil | refine runf_cons (by simp only [xstep, stepf, stepx, qev, St.ev, St.put, qint, qshift, isShift, qbin, constD, constC, List.getElem?_cons_zero, List.getElem?_cons_succ, List.set_cons_zero, List.set_cons_succ, Option.map_some, Option.map_none, if_true, if_false, decide_true, Option.some.injEq, Bool.false_eq_true, show ((10 : Int) = 0) = False from eq_false (by decide), eq_true hover]; rfl) ?_)) ?_)
              refine tri_cond rfl (fun _ => ?_) (fun h => by cases h)
              refine seq_run ok0 rfl (by repeat (first | with_reducible exact runf_nil | refine runf_cons (by simp only [xstep, stepf, stepx, qev, St.ev, St.put, constD, constC, List.set_cons_zero, List.set_cons_succ, Option.map_some, Option.some.injEq]; rfl) ?_)) ?_
              refine tri_ret (ends_ret (by simp only [outRes, resDs, resD, outDs, outD, outC, C.dat, List.getElem?_cons_zero, List.getElem?_cons_succ, Option.map_some, if_true, Option.some.injEq]; rfl) rfl (by simp) (by simp) ?_)
              rw [← hg] at hQ
              exact hQ
            · rename_i hover
              refine seq_in (seq_run ok0 rfl (by repeat (first | with_reducible exact runf_nil | refine runf_cons (by simp only [xstep, stepf, stepx, qev, St.ev, St.put, qint, qshift, isShift, qbin, constD, constC, List.getElem?_cons_zero, List.getElem?_cons_succ, List.set_cons_zero, List.set_cons_succ, Option.map_some, Option.map_none, if_true, if_false, decide_false, Option.some.injEq, Bool.false_eq_true, show ((10 : Int) = 0) = False from eq_false (by decide), eq_false hover]; rfl) ?_)) ?_)
              refine tri_cond rfl (fun h => by cases h) (fun _ => then_skip ?_)
              refine run_end ok0 rfl (by repeat (first | with_reducible exact runf_nil | refine runf_cons (by simp only [xstep, stepf, stepx, qev, St.ev, St.put, qint, qshift, isShift, qbin, constD, constC, List.getElem?_cons_zero, List.getElem?_cons_succ, List.set_cons_zero, List.set_cons_succ, Option.map_some, Option.map_none, if_true, if_false, Option.some.injEq, Bool.false_eq_true]; rfl) ?_)) ?_
              refine run_end ok0 rfl (by repeat (first | with_reducible exact runf_nil | refine runf_cons (by simp only [xstep, stepf, stepx, qev, St.ev, St.put, qint, qshift, isShift, qbin, constD, constC, List.getElem?_cons_zero, List.getElem?_cons_succ, List.set_cons_zero, List.set_cons_succ, Option.map_some, Option.map_none, if_true, if_false, Option.some.injEq, Bool.false_eq_true, wrap_succ j bs.length hjl hbm]; rfl) ?_)) ?_
              exact ⟨bs.length - (j + 1), by omega, ⟨[.top, .top, .top, .top, .c (.v (.int .u64 _)), .top, .top, .top, .top, .top, .top, .top, .top, .top, .top, .top, .top, .top, .top, .top, .top, .top, .top, .top, .top, .top, .c (.h 0 0 bs.length), dI bs.length, dI (j + 1 : Nat), .top, .top, .top, .top, .top, .top, .top, .top, .top, .top, .top, .top, .top, .top, .top, .top, .top], [some ⟨true, 1, bs.map byteRow⟩]⟩, ⟨by repeat (first | exact .nil | refine .same ?_ | refine .top ?_), rfl⟩, j + 1, _, hjl, rfl, hg, rfl⟩
          · have hjl : j = bs.length := by have := of_decide_eq_false h; omega
            subst hjl
            rw [List.drop_length] at hg
            simp only [digN] at hg
            rw [← hg] at hQ
            show Tri _ _ _ _
            refine seq_run ok0 rfl (by repeat (first | with_reducible exact runf_nil | refine runf_cons (by simp only [xstep, stepf, stepx, qev, St.ev, St.put, constD, constC, List.getElem?_cons_zero, List.getElem?_cons_succ, List.set_cons_zero, List.set_cons_succ, Option.map_some, Option.some.injEq]; rfl) ?_)) ?_
            refine tri_ret (ends_ret (by simp only [outRes, resDs, resD, outDs, outD, outC, C.dat, List.getElem?_cons_zero, List.getElem?_cons_succ, Option.map_some, if_true, Option.some.injEq]; rfl) rfl (by simp) (by simp) ?_)
            exact hQ
    · cases hd
  · cases hd

end Go.Dl
