/- The walk of the law's Few: a paper of few fields; The walk of the law's few: a step of few fields, few names, short texts; The walk of the law's plain: what a script can say. -/
import Derived.Test.YtbefgbljlmnfoaaU15
set_option linter.all false
namespace Go.Dl
open Go.RowKit
open Go.Proofs
set_option linter.unusedSimpArgs false
set_option linter.unusedVariables false
def cut3 (s : ByteArray) : ByteArray := if (300 : Int) < (s.size : Int) then s.extract 0 300 else s
def fewFld (f : Fld) : Fld := (cut3 f.1, f.2.1, f.2.2.1, f.2.2.2.1, f.2.2.2.2.1, cut3 f.2.2.2.2.2)
def fewL (l : List Fld) : List Fld := (l.take 30).map fewFld
def fewPre (x : Nat × Paper) : Prop := x.2.1.size ≤ maxStr ∧ x.2.2.2.length ≤ maxStr ∧ (∀ f ∈ x.2.2.2, f.1.size ≤ maxStr ∧ f.2.2.2.2.2.size ≤ maxStr) ∧ (0 < x.2.2.2.length → x.1 = 6)
noncomputable def pFewP : List D → Option D := famP fewPre (fun x => [.agg (papC2 x.1 x.2)]) (fun x => .agg (papC true (cut3 x.2.1, x.2.2.1, fewL x.2.2.2)))
set_option maxRecDepth 100000 in
set_option maxHeartbeats 4000000 in
theorem meets41 : Meets Try.prog 41 (pureS pFewP) := by
 refine Yn (show Try.prog.funcs[41]? = some Try.f41 by kernel_rfl) rfl (n := 61) rfl (rs := [ResultVar.cell 2 48]) rfl ?_
 rintro ⟨es, id, cls, l⟩ ⟨hid, hlm, hfl, hes⟩ Q hQ
 dsimp only at hid hlm hfl hes hQ
 have hc0 : ((0 : Nat) : Int) = 0 := rfl
 simp only [papC] at hQ
 obtain ⟨res, hres⟩ : ∃ res, fewL l = res := ⟨_, rfl⟩
 rw [hres] at hQ
 unfold fewL at hres
 have hQ2 : ∀ acc : List Fld, acc = res → Q (.agg [.v (.string (cut3 id)), .v (.int .i64 cls), .s true 6 (acc.map fldC)]) [] := by
  rintro acc rfl
  exact hQ
 clear hQ
 simp only [papC2]
 refine Y3 ok0 rfl (by repeat first | with_reducible exact Y2 | refine Y1 (by simp only [Y5, Y4, Y6, St.ev, St.put, St.with, D.cells, boxA, C.st, List.replicate, Nat.reduceAdd, Nat.reduceSub, if_true, tz48, ZA]; rfl) ?_) ?_
 refine Y3 ok0 rfl (by repeat first | with_reducible exact Y2 | refine Y1 (by simp only [Y5, Y4, Y6, qev, St.ev, St.put, St.with, D.cells, boxA, qload, Y9, qmk, C.cpy, TK.agg, Yb, liveR, C.st, C.cp, C.dat, storeA, putCells, Nat.reduceAdd, if_true, if_false, ne_eq, reduceCtorEq, Nat.reduceLeDiff, Nat.le_refl, Nat.reduceBNe, implies_true, Nat.add_zero, buildA, partsA, fillA, placeSt, tk48, tsz48, tz48, tsz9, tk9, tsz3, tk3, tsz46, ZA]; rfl) ?_) ?_
 refine seq_cut (fun A' => St.Le A' ⟨[.o, .c (.p 0 0 0), .c (.p 1 0 0), .c (.p 2 0 0), .o, .o, .o, .o, .o, .o, .o, .o, .o, .o, .o, .o, .o, .o, .o, .o, .o, .o, .o, .o, .o, .o, .o, .o, .o, .o, .o, .o, .o, .o, .o, .o, .o, .o, .o, .o, .o, .o, .o, .o, .o, .o, .o, .o, .o, .o, .o, .o, .o, .o, .o, .o, .o, .o, .o, .o, .o], [some ⟨false, 3, [[.v (.string id), .v (.int .i64 cls), .s false es (l.map fldC)]]⟩, some ⟨false, 3, [[.v (.string ⟨#[]⟩), .v (.int .i64 0), .s true 0 []]]⟩, some ⟨false, 3, [[.v (.string (cut3 id)), .v (.int .i64 cls), .s true 0 []]]⟩]⟩) ?_ ?_
 ·
  intro A' hle
  refine tri_le hle ?_
  refine seq_in ?_
  refine Y3 ok0 rfl (by repeat first | with_reducible exact Y2 | refine Y1 (by simp only [Y5, Y4, Y6, qev, St.ev, St.put, Y8, Y7, ZA]; rfl) ?_) ?_
  refine tri_block ?_
  refine tri_open 2 0 2 6 rfl ?_
  show Tri _ _ _ _
  refine tri_loop_le (fun m A => ∃ (j : Nat) (acc : List Fld) (T : List (Option Root)), m + j = l.length ∧ j ≤ 30 ∧ acc = (l.take j).map fewFld ∧ acc.length = j ∧ A = ⟨[.o, .c (.p 0 0 0), .c (.p 1 0 0), .c (.p 2 0 0), .c (.v (.int .i64 (j : Nat))), .o, .o, .o, .o, .o, .o, .o, .o, .o, .o, .o, .o, .o, .o, .o, .o, .o, .o, .o, .o, .o, .o, .o, .o, .o, .o, .o, .o, .o, .o, .o, .o, .o, .o, .o, .o, .o, .o, .o, .o, .o, .o, .o, .o, .o, .o, .o, .o, .o, .o, .o, .o, .o, .o, .o, .o], some ⟨false, 3, [[.v (.string id), .v (.int .i64 cls), .s false es (l.map fldC)]]⟩ :: some ⟨false, 3, [[.v (.string ⟨#[]⟩), .v (.int .i64 0), .s true 0 []]]⟩ :: some ⟨false, 3, [[.v (.string (cut3 id)), .v (.int .i64 cls), .h 3 0 acc.length]]⟩ :: some ⟨true, 6, acc.map fldC⟩ :: T⟩) l.length (B := ⟨[.o, .c (.p 0 0 0), .c (.p 1 0 0), .c (.p 2 0 0), .c (.v (.int .i64 (0 : Nat))), .o, .o, .o, .o, .o, .o, .o, .o, .o, .o, .o, .o, .o, .o, .o, .o, .o, .o, .o, .o, .o, .o, .o, .o, .o, .o, .o, .o, .o, .o, .o, .o, .o, .o, .o, .o, .o, .o, .o, .o, .o, .o, .o, .o, .o, .o, .o, .o, .o, .o, .o, .o, .o, .o, .o, .o], some ⟨false, 3, [[.v (.string id), .v (.int .i64 cls), .s false es (l.map fldC)]]⟩ :: some ⟨false, 3, [[.v (.string ⟨#[]⟩), .v (.int .i64 0), .s true 0 []]]⟩ :: some ⟨false, 3, [[.v (.string (cut3 id)), .v (.int .i64 cls), .h 3 0 0]]⟩ :: some ⟨true, 6, []⟩ :: []⟩) ⟨by repeat (first | exact .nil | refine .same ?_ | refine .o ?_), rfl⟩ ⟨0, [], [], rfl, by omega, rfl, rfl, rfl⟩ ?_
  rintro m A ⟨j, acc, T, hm, hj30, hacc, hal, rfl⟩
  have hj1 : (j : Int) + 1 = ((j + 1 : Nat) : Int) := by omega
  obtain ⟨f, hf⟩ : ∃ f, l.getD j (noText, val0) = f := ⟨_, rfl⟩
  have hg : ((j : Nat) : Int) < ((l.length : Nat) : Int) → l[j]? = some f := (by intro h; rw [← hf]; exact get_at _ (by omega))
  have hE : ((j : Nat) : Int) < ((l.length : Nat) : Int) → es = 6 := fun h => hes (by omega)
  have hfp : f.1.size ≤ maxStr ∧ f.2.2.2.2.2.size ≤ maxStr := (by by_cases h : j < l.length; exact hfl f (List.mem_of_getElem? (hg (by omega))); rw [← hf, List.getD_eq_getElem?_getD, List.getElem?_eq_none (by omega)]; exact ⟨by decide, by decide⟩)
  obtain ⟨nm, k, fl, n, b, tx⟩ := f
  dsimp only at hfp
  have hn1 : nm.size ≤ maxStr := hfp.1
  have hn2 : tx.size ≤ maxStr := hfp.2
  have htk : ((j : Nat) : Int) < ((l.length : Nat) : Int) → (l.take (j + 1)).map fewFld = acc ++ [fewFld (nm, k, fl, n, b, tx)] := (by intro h; rw [hacc, List.take_succ_eq_append_getElem (show j < l.length by omega), List.map_append]; have := hg h; rw [List.getElem?_eq_getElem (by omega)] at this; rw [Option.some.inj this]; rfl)
  have ht0 : (acc.map fldC).take acc.length = acc.map fldC := List.take_of_length_le (by simp)
  have hne : ∀ k : Nat, (k + 1 + 1 + 1 + 1 != 3) = true := (by intro k; simp)
  have hz : (acc.length + 1) * 64 ≤ 140737488355328 := by omega
  have hne2 : ∀ k : Nat, (k + 1 + 1 + 1 + 1 == 3) = false := (by intro k; simp)
  refine seq_in ?_
  by_cases a0 : ((↑j : Int) < (↑l.length : Int))
  ·
   refine Y3 ok0 rfl (by repeat first | with_reducible exact Y2 | refine Y1 (by simp only [Y5, Y4, Y6, qev, St.ev, St.put, qload, Y9, qmk, C.cpy, TK.agg, Yb, qpick, qint, Yc, Ya, qbin, qlen, qbuiltin, liveR, C.cp, Y8, Y7, if_true, if_false, decide_true, cond_true, reduceCtorEq, hlm, tk48, hE, List.length_map, tk46, tsz46, eq_true a0, ZA]; rfl) ?_) ?_
   refine Yf rfl (fun a1 => ?_) (fun a1 => ?_)
   ·
    simp only [decide_eq_true_eq] at a1
    refine Ye ?_
    refine seq_in (tri_block ?_)
    refine Y3 ok0 rfl (by repeat first | with_reducible exact Y2 | refine Y1 (by simp only [Y5, Y4, Y6, qev, St.ev, St.put, St.with, D.cells, D.int, boxA, qload, Y9, qmk, C.cpy, TK.agg, Yb, qindexAddr, liveR, C.st, C.cp, C.dat, storeA, putCells, Nat.reduceAdd, if_true, if_false, decide_true, ne_eq, reduceCtorEq, Nat.le_refl, implies_true, tk48, tk91, tsz91, Int.toNat_natCast, Int.natCast_nonneg, hg, last_get, last_set, List.length_map, fldC, List.getElem?_map, tk91, tsz91, tk46, tsz46, eq_true a0, a1, tz91, ZA]; rfl) ?_) ?_
    refine seq_in ?_
    refine Y3 ok0 rfl (by repeat first | with_reducible exact Y2 | refine Y1 (by simp only [Y5, Y4, Y6, qev, St.ev, St.put, qload, Y9, qmk, C.cpy, TK.agg, Yb, qint, Yc, Ya, qbin, qlen, qbuiltin, liveR, C.cp, Y8, Y7, if_true, if_false, reduceCtorEq, Nat.add_zero, tk91, last_get, tk91, tsz9, tk9, ZA]; rfl) ?_) ?_
    refine Yf rfl (fun a2 => ?_) (fun a2 => ?_)
    ·
     simp only [decide_eq_true_eq] at a2
     refine Yk ok0 rfl (by repeat first | with_reducible exact Y2 | refine Y1 (by simp only [Y5, Y4, Y6, qev, St.ev, St.put, D.cells, D.int, qload, Y9, qmk, C.cpy, TK.agg, Yb, qbounds, qslice, omap, liveR, C.st, C.cp, C.dat, storeA, putCells, Y8, Y7, Nat.reduceAdd, if_true, if_false, decide_true, ne_eq, reduceCtorEq, Int.reduceLE, Int.reduceToNat, Nat.reduceLeDiff, implies_true, Nat.add_zero, tk91, last_get, last_set, tk91, tsz9, tk9, a2, show (300 ≤ (↑nm.size : Int)) = True from eq_true (by omega), ZA]; rfl) ?_) ?_
     show Tri _ _ _ _
     refine seq_in ?_
     refine Y3 ok0 rfl (by repeat first | with_reducible exact Y2 | refine Y1 (by simp only [Y5, Y4, Y6, qev, St.ev, St.put, qload, Y9, qmk, C.cpy, TK.agg, Yb, qint, Yc, Ya, qbin, qlen, qbuiltin, liveR, C.cp, Y8, Y7, Nat.reduceAdd, if_true, if_false, reduceCtorEq, tk91, tk39, tsz39, last_get, tk91, tk39, tsz39, tsz9, tk9, ZA]; rfl) ?_) ?_
     refine Yf rfl (fun a3 => ?_) (fun a3 => ?_)
     ·
      simp only [decide_eq_true_eq] at a3
      refine Yk ok0 rfl (by repeat first | with_reducible exact Y2 | refine Y1 (by simp only [Y5, Y4, Y6, qev, St.ev, St.put, D.cells, D.int, qload, Y9, qmk, C.cpy, TK.agg, Yb, qbounds, qslice, omap, liveR, C.st, C.cp, C.dat, storeA, putCells, Y8, Y7, Nat.reduceAdd, if_true, if_false, decide_true, ne_eq, reduceCtorEq, Int.reduceLE, Int.reduceToNat, Nat.le_refl, implies_true, tk91, tk39, tsz39, last_get, last_set, tk91, tk39, tsz39, tsz9, tk9, a3, show (300 ≤ (↑tx.size : Int)) = True from eq_true (by omega), ZA]; rfl) ?_) ?_
      show Tri _ _ _ _
      refine Yk ok0 rfl (by repeat first | with_reducible exact Y2 | refine Y1 (by simp only [Y5, Y4, Y6, qev, St.ev, St.put, St.with, D.cells, qload, Y9, qmk, C.cpy, TK.agg, Yb, liveR, C.st, C.cp, C.dat, storeA, putCells, Bool.and_true, Nat.reduceAdd, Nat.reduceMul, if_true, if_false, forall_const, ne_eq, reduceCtorEq, Nat.reduceLeDiff, Nat.le_refl, Nat.reduceBNe, bne_self_eq_false, nb_map, C.nb, partsA, fillA, tk48, tk91, tsz91, false_implies, ht0, hne, hz, last_get, buildSliceA, partsA, fillA, reps, chop, tkApp, appendA, srcRows, srcOther, D.kill, D.no, C.no, C.kill, killH, Root.kill, C.nos, fldC, false_implies, tk91, tsz91, tk46, tsz46, tz91, bo91, ZA]; rfl) ?_) ?_
      show Tri _ _ _ _
      refine Yk ok0 rfl (by repeat first | with_reducible exact Y2 | refine Y1 (by simp only [Y5, Y4, Y6, qev, St.ev, St.put, qint, Yc, Ya, qbin, Y8, Y7, if_true, if_false, hj1, show IntKind.i64.wrap (↑(j + 1) : Int) = _ from wrap_i64 _ (by omega) (by omega), ZA]; rfl) ?_) ?_
      simp only []
      (have e1 : cut3 nm = nm.extract 0 300 := if_pos (by omega); have e2 : cut3 tx = tx.extract 0 300 := if_pos (by omega); have e : fewFld (nm, k, fl, n, b, tx) = (nm.extract 0 300, k, fl, n, b, tx.extract 0 300) := (by unfold fewFld; rw [e1, e2]); exact ⟨m - 1, by omega, ⟨[.o, .c (.p 0 0 0), .c (.p 1 0 0), .c (.p 2 0 0), .c (.v (.int .i64 (j + 1 : Nat))), .o, .o, .o, .o, .o, .o, .o, .o, .o, .o, .o, .o, .o, .o, .o, .o, .o, .o, .o, .o, .o, .o, .o, .o, .o, .o, .o, .o, .o, .o, .o, .o, .o, .o, .o, .o, .o, .o, .o, .o, .o, .o, .o, .o, .o, .o, .o, .o, .o, .o, .o, .o, .o, .o, .o, .o], some ⟨false, 3, [[.v (.string id), .v (.int .i64 cls), .s false es (l.map fldC)]]⟩ :: some ⟨false, 3, [[.v (.string ⟨#[]⟩), .v (.int .i64 0), .s true 0 []]]⟩ :: some ⟨false, 3, [[.v (.string (cut3 id)), .v (.int .i64 cls), .h 3 0 (acc ++ [fewFld (nm, k, fl, n, b, tx)]).length]]⟩ :: some ⟨true, 6, (acc ++ [fewFld (nm, k, fl, n, b, tx)]).map fldC⟩ :: List.map (fun o => Option.map (Root.kill 3) o) (T ++ [some ⟨false, 6, [fldC (fewFld (nm, k, fl, n, b, tx))]⟩] ++ [some ⟨true, 6, [fldC (fewFld (nm, k, fl, n, b, tx))]⟩])⟩, ⟨(by rw [show (acc ++ [fewFld (nm, k, fl, n, b, tx)]).length = acc.length + 1 from by simp]; repeat (first | exact .nil | refine .same ?_ | refine .o ?_)), (by rw [show (acc ++ [fewFld (nm, k, fl, n, b, tx)]).map fldC = acc.map fldC ++ [fldC (fewFld (nm, k, fl, n, b, tx))] from List.map_append, show (acc ++ [fewFld (nm, k, fl, n, b, tx)]).length = acc.length + 1 from by simp, e, hE (by omega)]; rfl)⟩, j + 1, (acc ++ [fewFld (nm, k, fl, n, b, tx)]), _, by omega, by omega, (htk (by omega)).symm, (by simp [hal]), rfl⟩)
     ·
      simp only [decide_eq_false_iff_not] at a3
      refine Ye ?_
      refine Yk ok0 rfl (by repeat first | with_reducible exact Y2 | refine Y1 (by simp only [Y5, Y4, Y6, qev, St.ev, St.put, St.with, D.cells, qload, Y9, qmk, C.cpy, TK.agg, Yb, liveR, C.st, C.cp, C.dat, storeA, putCells, Bool.and_true, Nat.reduceAdd, Nat.reduceMul, if_true, if_false, decide_false, forall_const, ne_eq, reduceCtorEq, Nat.reduceLeDiff, Nat.le_refl, Nat.reduceBNe, bne_self_eq_false, nb_map, C.nb, partsA, fillA, tk48, tk91, tsz91, false_implies, ht0, hne, hz, last_get, buildSliceA, partsA, fillA, reps, chop, tkApp, appendA, srcRows, srcOther, D.kill, D.no, C.no, C.kill, killH, Root.kill, C.nos, fldC, false_implies, tk91, tsz91, tk46, tsz46, tz91, a3, bo91, ZA]; rfl) ?_) ?_
      show Tri _ _ _ _
      refine Yk ok0 rfl (by repeat first | with_reducible exact Y2 | refine Y1 (by simp only [Y5, Y4, Y6, qev, St.ev, St.put, qint, Yc, Ya, qbin, Y8, Y7, if_true, if_false, hj1, show IntKind.i64.wrap (↑(j + 1) : Int) = _ from wrap_i64 _ (by omega) (by omega), ZA]; rfl) ?_) ?_
      simp only []
      (have e1 : cut3 nm = nm.extract 0 300 := if_pos (by omega); have e2 : cut3 tx = tx := if_neg (by omega); have e : fewFld (nm, k, fl, n, b, tx) = (nm.extract 0 300, k, fl, n, b, tx) := (by unfold fewFld; rw [e1, e2]); exact ⟨m - 1, by omega, ⟨[.o, .c (.p 0 0 0), .c (.p 1 0 0), .c (.p 2 0 0), .c (.v (.int .i64 (j + 1 : Nat))), .o, .o, .o, .o, .o, .o, .o, .o, .o, .o, .o, .o, .o, .o, .o, .o, .o, .o, .o, .o, .o, .o, .o, .o, .o, .o, .o, .o, .o, .o, .o, .o, .o, .o, .o, .o, .o, .o, .o, .o, .o, .o, .o, .o, .o, .o, .o, .o, .o, .o, .o, .o, .o, .o, .o, .o], some ⟨false, 3, [[.v (.string id), .v (.int .i64 cls), .s false es (l.map fldC)]]⟩ :: some ⟨false, 3, [[.v (.string ⟨#[]⟩), .v (.int .i64 0), .s true 0 []]]⟩ :: some ⟨false, 3, [[.v (.string (cut3 id)), .v (.int .i64 cls), .h 3 0 (acc ++ [fewFld (nm, k, fl, n, b, tx)]).length]]⟩ :: some ⟨true, 6, (acc ++ [fewFld (nm, k, fl, n, b, tx)]).map fldC⟩ :: List.map (fun o => Option.map (Root.kill 3) o) (T ++ [some ⟨false, 6, [fldC (fewFld (nm, k, fl, n, b, tx))]⟩] ++ [some ⟨true, 6, [fldC (fewFld (nm, k, fl, n, b, tx))]⟩])⟩, ⟨(by rw [show (acc ++ [fewFld (nm, k, fl, n, b, tx)]).length = acc.length + 1 from by simp]; repeat (first | exact .nil | refine .same ?_ | refine .o ?_)), (by rw [show (acc ++ [fewFld (nm, k, fl, n, b, tx)]).map fldC = acc.map fldC ++ [fldC (fewFld (nm, k, fl, n, b, tx))] from List.map_append, show (acc ++ [fewFld (nm, k, fl, n, b, tx)]).length = acc.length + 1 from by simp, e, hE (by omega)]; rfl)⟩, j + 1, (acc ++ [fewFld (nm, k, fl, n, b, tx)]), _, by omega, by omega, (htk (by omega)).symm, (by simp [hal]), rfl⟩)
    ·
     simp only [decide_eq_false_iff_not] at a2
     refine Ye ?_
     refine seq_in ?_
     refine Y3 ok0 rfl (by repeat first | with_reducible exact Y2 | refine Y1 (by simp only [Y5, Y4, Y6, qev, St.ev, St.put, qload, Y9, qmk, C.cpy, TK.agg, Yb, qint, Yc, Ya, qbin, qlen, qbuiltin, liveR, C.cp, Y8, Y7, Nat.reduceAdd, if_true, if_false, decide_false, reduceCtorEq, tk91, tk39, tsz39, last_get, tk91, tk39, tsz39, tsz9, tk9, a2, ZA]; rfl) ?_) ?_
     refine Yf rfl (fun a4 => ?_) (fun a4 => ?_)
     ·
      simp only [decide_eq_true_eq] at a4
      refine Yk ok0 rfl (by repeat first | with_reducible exact Y2 | refine Y1 (by simp only [Y5, Y4, Y6, qev, St.ev, St.put, D.cells, D.int, qload, Y9, qmk, C.cpy, TK.agg, Yb, qbounds, qslice, omap, liveR, C.st, C.cp, C.dat, storeA, putCells, Y8, Y7, Nat.reduceAdd, if_true, if_false, decide_true, ne_eq, reduceCtorEq, Int.reduceLE, Int.reduceToNat, Nat.le_refl, implies_true, tk91, tk39, tsz39, last_get, last_set, tk91, tk39, tsz39, tsz9, tk9, a4, show (300 ≤ (↑tx.size : Int)) = True from eq_true (by omega), ZA]; rfl) ?_) ?_
      show Tri _ _ _ _
      refine Yk ok0 rfl (by repeat first | with_reducible exact Y2 | refine Y1 (by simp only [Y5, Y4, Y6, qev, St.ev, St.put, St.with, D.cells, qload, Y9, qmk, C.cpy, TK.agg, Yb, liveR, C.st, C.cp, C.dat, storeA, putCells, Bool.and_true, Nat.reduceAdd, Nat.reduceMul, if_true, if_false, forall_const, ne_eq, reduceCtorEq, Nat.reduceLeDiff, Nat.le_refl, Nat.reduceBNe, bne_self_eq_false, nb_map, C.nb, partsA, fillA, tk48, tk91, tsz91, false_implies, ht0, hne, hz, last_get, buildSliceA, partsA, fillA, reps, chop, tkApp, appendA, srcRows, srcOther, D.kill, D.no, C.no, C.kill, killH, Root.kill, C.nos, fldC, false_implies, tk91, tsz91, tk46, tsz46, tz91, bo91, ZA]; rfl) ?_) ?_
      show Tri _ _ _ _
      refine Yk ok0 rfl (by repeat first | with_reducible exact Y2 | refine Y1 (by simp only [Y5, Y4, Y6, qev, St.ev, St.put, qint, Yc, Ya, qbin, Y8, Y7, if_true, if_false, hj1, show IntKind.i64.wrap (↑(j + 1) : Int) = _ from wrap_i64 _ (by omega) (by omega), ZA]; rfl) ?_) ?_
      simp only []
      (have e1 : cut3 nm = nm := if_neg (by omega); have e2 : cut3 tx = tx.extract 0 300 := if_pos (by omega); have e : fewFld (nm, k, fl, n, b, tx) = (nm, k, fl, n, b, tx.extract 0 300) := (by unfold fewFld; rw [e1, e2]); exact ⟨m - 1, by omega, ⟨[.o, .c (.p 0 0 0), .c (.p 1 0 0), .c (.p 2 0 0), .c (.v (.int .i64 (j + 1 : Nat))), .o, .o, .o, .o, .o, .o, .o, .o, .o, .o, .o, .o, .o, .o, .o, .o, .o, .o, .o, .o, .o, .o, .o, .o, .o, .o, .o, .o, .o, .o, .o, .o, .o, .o, .o, .o, .o, .o, .o, .o, .o, .o, .o, .o, .o, .o, .o, .o, .o, .o, .o, .o, .o, .o, .o, .o], some ⟨false, 3, [[.v (.string id), .v (.int .i64 cls), .s false es (l.map fldC)]]⟩ :: some ⟨false, 3, [[.v (.string ⟨#[]⟩), .v (.int .i64 0), .s true 0 []]]⟩ :: some ⟨false, 3, [[.v (.string (cut3 id)), .v (.int .i64 cls), .h 3 0 (acc ++ [fewFld (nm, k, fl, n, b, tx)]).length]]⟩ :: some ⟨true, 6, (acc ++ [fewFld (nm, k, fl, n, b, tx)]).map fldC⟩ :: List.map (fun o => Option.map (Root.kill 3) o) (T ++ [some ⟨false, 6, [fldC (fewFld (nm, k, fl, n, b, tx))]⟩] ++ [some ⟨true, 6, [fldC (fewFld (nm, k, fl, n, b, tx))]⟩])⟩, ⟨(by rw [show (acc ++ [fewFld (nm, k, fl, n, b, tx)]).length = acc.length + 1 from by simp]; repeat (first | exact .nil | refine .same ?_ | refine .o ?_)), (by rw [show (acc ++ [fewFld (nm, k, fl, n, b, tx)]).map fldC = acc.map fldC ++ [fldC (fewFld (nm, k, fl, n, b, tx))] from List.map_append, show (acc ++ [fewFld (nm, k, fl, n, b, tx)]).length = acc.length + 1 from by simp, e, hE (by omega)]; rfl)⟩, j + 1, (acc ++ [fewFld (nm, k, fl, n, b, tx)]), _, by omega, by omega, (htk (by omega)).symm, (by simp [hal]), rfl⟩)
     ·
      simp only [decide_eq_false_iff_not] at a4
      refine Ye ?_
      refine Yk ok0 rfl (by repeat first | with_reducible exact Y2 | refine Y1 (by simp only [Y5, Y4, Y6, qev, St.ev, St.put, St.with, D.cells, qload, Y9, qmk, C.cpy, TK.agg, Yb, liveR, C.st, C.cp, C.dat, storeA, putCells, Bool.and_true, Nat.reduceAdd, Nat.reduceMul, if_true, if_false, decide_false, forall_const, ne_eq, reduceCtorEq, Nat.reduceLeDiff, Nat.le_refl, Nat.reduceBNe, bne_self_eq_false, nb_map, C.nb, partsA, fillA, tk48, tk91, tsz91, false_implies, ht0, hne, hz, last_get, buildSliceA, partsA, fillA, reps, chop, tkApp, appendA, srcRows, srcOther, D.kill, D.no, C.no, C.kill, killH, Root.kill, C.nos, fldC, false_implies, tk91, tsz91, tk46, tsz46, tz91, a4, bo91, ZA]; rfl) ?_) ?_
      show Tri _ _ _ _
      refine Yk ok0 rfl (by repeat first | with_reducible exact Y2 | refine Y1 (by simp only [Y5, Y4, Y6, qev, St.ev, St.put, qint, Yc, Ya, qbin, Y8, Y7, if_true, if_false, hj1, show IntKind.i64.wrap (↑(j + 1) : Int) = _ from wrap_i64 _ (by omega) (by omega), ZA]; rfl) ?_) ?_
      simp only []
      (have e1 : cut3 nm = nm := if_neg (by omega); have e2 : cut3 tx = tx := if_neg (by omega); have e : fewFld (nm, k, fl, n, b, tx) = (nm, k, fl, n, b, tx) := (by unfold fewFld; rw [e1, e2]); exact ⟨m - 1, by omega, ⟨[.o, .c (.p 0 0 0), .c (.p 1 0 0), .c (.p 2 0 0), .c (.v (.int .i64 (j + 1 : Nat))), .o, .o, .o, .o, .o, .o, .o, .o, .o, .o, .o, .o, .o, .o, .o, .o, .o, .o, .o, .o, .o, .o, .o, .o, .o, .o, .o, .o, .o, .o, .o, .o, .o, .o, .o, .o, .o, .o, .o, .o, .o, .o, .o, .o, .o, .o, .o, .o, .o, .o, .o, .o, .o, .o, .o, .o], some ⟨false, 3, [[.v (.string id), .v (.int .i64 cls), .s false es (l.map fldC)]]⟩ :: some ⟨false, 3, [[.v (.string ⟨#[]⟩), .v (.int .i64 0), .s true 0 []]]⟩ :: some ⟨false, 3, [[.v (.string (cut3 id)), .v (.int .i64 cls), .h 3 0 (acc ++ [fewFld (nm, k, fl, n, b, tx)]).length]]⟩ :: some ⟨true, 6, (acc ++ [fewFld (nm, k, fl, n, b, tx)]).map fldC⟩ :: List.map (fun o => Option.map (Root.kill 3) o) (T ++ [some ⟨false, 6, [fldC (fewFld (nm, k, fl, n, b, tx))]⟩] ++ [some ⟨true, 6, [fldC (fewFld (nm, k, fl, n, b, tx))]⟩])⟩, ⟨(by rw [show (acc ++ [fewFld (nm, k, fl, n, b, tx)]).length = acc.length + 1 from by simp]; repeat (first | exact .nil | refine .same ?_ | refine .o ?_)), (by rw [show (acc ++ [fewFld (nm, k, fl, n, b, tx)]).map fldC = acc.map fldC ++ [fldC (fewFld (nm, k, fl, n, b, tx))] from List.map_append, show (acc ++ [fewFld (nm, k, fl, n, b, tx)]).length = acc.length + 1 from by simp, e, hE (by omega)]; rfl)⟩, j + 1, (acc ++ [fewFld (nm, k, fl, n, b, tx)]), _, by omega, by omega, (htk (by omega)).symm, (by simp [hal]), rfl⟩)
   ·
    simp only [decide_eq_false_iff_not] at a1
    refine tri_exit ?_
    show Tri _ _ _ _
    refine Y3 ok0 rfl (by repeat first | with_reducible exact Y2 | refine Y1 (by simp only [Y5, Y4, Y6, qev, St.ev, St.put, D.cells, qload, Y9, qmk, C.cpy, TK.agg, liveR, C.st, C.cp, C.dat, storeA, putCells, Bool.and_true, Nat.reduceAdd, if_true, decide_false, ne_eq, reduceCtorEq, Nat.le_refl, Bool.and_false, tk48, tsz48, false_implies, false_implies, a1, ZA]; rfl) ?_) ?_
    refine Yo (Yp (by simp only [outRes, Yi, resD, outD, outC, outCs, qload, Y9, qmk, C.cpy, TK.agg, C.cp, C.dat, Nat.reduceAdd, if_true, ne_eq, reduceCtorEq, tk48, tsz48, List.length_map, ZA]; rfl) rfl (by simp) (by simp) ?_)
    (exact hQ2 acc (by rw [hacc, ← hres, show j = 30 by omega]))
  ·
   have a0n : (l)[j]? = none := List.getElem?_eq_none (by omega)
   refine Y3 ok0 rfl (by repeat first | with_reducible exact Y2 | refine Y1 (by simp only [Y5, Y4, Y6, qev, St.ev, St.put, qload, Y9, qmk, C.cpy, TK.agg, Yb, qpick, qint, Yc, isEq, Ya, qbin, qlen, qbuiltin, liveR, C.cp, Y8, Y7, if_true, if_false, decide_false, cond_false, reduceCtorEq, hlm, tk48, List.length_map, tk46, tsz46, eq_false a0, ZA]; rfl) ?_) ?_
   refine Yf (b := false) rfl (fun h => by cases h) (fun _ => ?_)
   refine tri_exit ?_
   show Tri _ _ _ _
   refine Y3 ok0 rfl (by repeat first | with_reducible exact Y2 | refine Y1 (by simp only [Y5, Y4, Y6, qev, St.ev, St.put, D.cells, qload, Y9, qmk, C.cpy, TK.agg, liveR, C.st, C.cp, C.dat, storeA, putCells, Bool.and_true, Nat.reduceAdd, if_true, ne_eq, reduceCtorEq, Nat.le_refl, Bool.and_false, tk48, tsz48, false_implies, false_implies, ZA]; rfl) ?_) ?_
   refine Yo (Yp (by simp only [outRes, Yi, resD, outD, outC, outCs, qload, Y9, qmk, C.cpy, TK.agg, C.cp, C.dat, Nat.reduceAdd, if_true, ne_eq, reduceCtorEq, tk48, tsz48, List.length_map, ZA]; rfl) rfl (by simp) (by simp) ?_)
   (exact hQ2 acc (by rw [hacc, ← hres, List.take_of_length_le (by omega), List.take_of_length_le (by omega)]))
 ·
  refine Y3 ok0 rfl (by repeat first | with_reducible exact Y2 | refine Y1 (by simp only [Y5, Y4, Y6, qev, St.ev, St.put, qload, Y9, qmk, C.cpy, TK.agg, Yb, qint, Yc, Ya, qbin, qlen, qbuiltin, liveR, C.cp, Y8, Y7, if_true, if_false, reduceCtorEq, Nat.add_zero, tk48, tsz9, tk9, ZA]; rfl) ?_) ?_
  refine Yf rfl (fun a5 => ?_) (fun a5 => ?_)
  ·
   simp only [decide_eq_true_eq] at a5
   refine Yk ok0 rfl (by repeat first | with_reducible exact Y2 | refine Y1 (by simp only [Y5, Y4, Y6, qev, St.ev, St.put, D.cells, D.int, qload, Y9, qmk, C.cpy, TK.agg, Yb, qbounds, qslice, omap, liveR, C.st, C.cp, C.dat, storeA, putCells, Y8, Y7, Nat.reduceAdd, if_true, if_false, decide_true, ne_eq, reduceCtorEq, Int.reduceLE, Int.reduceToNat, Nat.reduceLeDiff, implies_true, Nat.add_zero, tk48, tsz9, tk9, a5, show (300 ≤ (↑id.size : Int)) = True from eq_true (by omega), ZA]; rfl) ?_) ?_
   simp only []
   (exact ⟨(by rw [show cut3 id = id.extract 0 300 from if_pos (by omega)]; repeat (first | exact .nil | refine .same ?_ | refine .o ?_)), (by rw [show cut3 id = id.extract 0 300 from if_pos (by omega)])⟩)
  ·
   simp only [decide_eq_false_iff_not] at a5
   refine tri_skip ?_
   simp only []
   (exact ⟨(by rw [show cut3 id = id from if_neg (by omega)]; repeat (first | exact .nil | refine .same ?_ | refine .o ?_)), (by rw [show cut3 id = id from if_neg (by omega)])⟩)
end Go.Dl

namespace Go.Dl
open Go.RowKit
open Go.Proofs
set_option linter.unusedSimpArgs false
set_option linter.unusedVariables false
def cutA (s : ByteArray) : ByteArray := if 500 < (s.size : Int) then s.extract 0 500 else s
theorem cutA_at (s : ByteArray) (h : s.size ≤ maxStr) : pCut [.c (.v (.string s))] = some (.c (.v (.string (cutA s)))) := if_pos h
noncomputable def pFewZ : List D → Option D := fun a => (pFewP a).map D.frzA
theorem meets41Z : Meets Try.prog 41 (pureS pFewZ) := meets_frzAP meets41
theorem papC2_inj {x y : Nat × Paper} (h : papC2 x.1 x.2 = papC2 y.1 y.2) : x = y := by
 obtain ⟨a, b, c, d⟩ := x
 obtain ⟨a', b', c', d'⟩ := y
 simp only [papC2, List.cons.injEq, C.v.injEq, C.s.injEq, Value.int.injEq, Value.string.injEq, true_and, and_true] at h
 obtain ⟨rfl, rfl, rfl, h⟩ := h
 rw [flds_inj h]
theorem fewP_at (es : Nat) (id : ByteArray) (cls : Int) (l : List Fld) (h : fewPre (es, id, cls, l)) : pFewZ [.agg [.v (.string id), .v (.int .i64 cls), .s false es (l.map fldC)]] = some (.agg [.v (.string (cut3 id)), .v (.int .i64 cls), .s false 6 ((fewL l).map fldC)]) := by
 have h2 : pFewP [.agg [.v (.string id), .v (.int .i64 cls), .s false es (l.map fldC)]] = some (.agg (papC true (cut3 id, cls, fewL l))) := Ym (fun x y h => by
  simp only [List.cons.injEq, D.agg.injEq, and_true] at h
  rw [papC2_inj h]) (es, id, cls, l) h rfl
 unfold pFewZ
 rw [h2]
 simp only [Z4, D.frzA, papC, Z24, Z13, C.frz, fld_cp, if_true]
def fewA (a : ActM) : ActM := { a with pid := cut3 a.pid, flds := some (fewL (a.flds.getD [])), id := cutA a.id, name := cutA a.name, draw := cutA a.draw, names := some (((a.names.getD []).take 20).map cutA) }
structure fewOk (a : ActM) : Prop where
 pid : a.pid.size ≤ maxStr
 flds : (a.flds.getD []).length ≤ maxStr
 fld : ∀ f ∈ a.flds.getD [], f.1.size ≤ maxStr ∧ f.2.2.2.2.2.size ≤ maxStr
 id : a.id.size ≤ maxStr
 name : a.name.size ≤ maxStr
 draw : a.draw.size ≤ maxStr
 names : (a.names.getD []).length ≤ maxStr
 nm : ∀ s ∈ a.names.getD [], s.size ≤ maxStr
def fewC (a : ActM) : List C := [.v (.int .i64 a.kind), .v (.string (cut3 a.pid)), .v (.int .i64 a.cls), .s false 6 ((fewL (a.flds.getD [])).map fldC), .v (.string (cutA a.id)), .v (.string (cutA a.name)), .s true 1 ((((a.names.getD []).take 20).map cutA).map strC), .v (.string (cutA a.draw)), .v (.int .i64 a.n), .v (.int .i64 a.m), .v (.int .u64 a.keep), .v (.int .i64 a.tear)]
noncomputable def pFew0 : List D → Option D := famP fewOk (fun a => [.agg (actC false a)]) (fun a => .agg (fewC a))
noncomputable def pFewA : List D → Option D := fun a => (pFew0 a).map D.frzA
theorem few_at (a : ActM) (h : fewOk a) : pFewA [.agg (actC false a)] = some (.agg (actC false (fewA a))) := by
 have h2 : pFew0 [.agg (actC false a)] = some (.agg (fewC a)) := Ym (fun x y h => by
  simp only [List.cons.injEq, D.agg.injEq, and_true] at h
  rw [actC_inj0 h]) a h rfl
 unfold pFewA
 rw [h2]
 simp only [Z4, D.frzA, fewC, Z24, Z13, C.frz, str_cp, if_true]
 rfl
noncomputable def FsJl : Fs := { Fs.none with pure := fun k => if k = 41 then some pFewZ else if k = 10 then some pCut else none }
theorem okJl : FsOK Try.prog FsJl := by
 refine ⟨fun k f h => ?_, fun _ _ h => (by cases h)⟩
 simp only [FsJl] at h
 split at h
 · rename_i hk; subst hk; cases h; exact ⟨by kernel_rfl, meets41Z⟩
 split at h
 · rename_i hk; subst hk; cases h; exact ⟨by kernel_rfl, meets10⟩
 · cases h
set_option maxRecDepth 100000 in
set_option maxHeartbeats 4000000 in
theorem meets20 : Meets Try.prog 20 (pureS pFew0) := by
 refine Yn (show Try.prog.funcs[20]? = some Try.f20 by kernel_rfl) rfl (n := 44) rfl (rs := [ResultVar.cell 2 50]) rfl ?_
 rintro a hok Q hQ
 have hc0 : ((0 : Nat) : Int) = 0 := rfl
 have hgf : ∃ (l : List Fld) (es : Nat), fldsC false a.flds = .s false es (l.map fldC) ∧ a.flds.getD [] = l ∧ (0 < l.length → es = 6) := by
  cases a.flds with
  | none => exact ⟨[], 0, rfl, rfl, fun h => absurd h (by simp)⟩
  | some l => exact ⟨l, 6, rfl, rfl, fun _ => rfl⟩
 have hgn : ∃ (l : List ByteArray) (es : Nat), namesC false a.names = .s false es (l.map strC) ∧ a.names.getD [] = l ∧ (0 < l.length → es = 1) := by
  cases a.names with
  | none => exact ⟨[], 0, rfl, rfl, fun h => absurd h (by simp)⟩
  | some l => exact ⟨l, 1, rfl, rfl, fun _ => rfl⟩
 obtain ⟨fs, ef, hf1, hf2, hf3⟩ := hgf
 obtain ⟨l, es, hn1, hn2, hes⟩ := hgn
 have hF := fewP_at ef a.pid a.cls fs ⟨hok.pid, hf2 ▸ hok.flds, hf2 ▸ hok.fld, hf3⟩
 have hC1 := cutA_at a.id hok.id
 have hC2 := cutA_at a.name hok.name
 have hC3 := cutA_at a.draw hok.draw
 have hlm : l.length ≤ maxStr := hn2 ▸ hok.names
 have hnm : ∀ s ∈ l, s.size ≤ maxStr := hn2 ▸ hok.nm
 simp only [fewC, hf2, hn2] at hQ
 simp only [actC, hf1, hn1]
 clear hok hf2 hn2 hn1 hf1
 obtain ⟨kd, pid, cls, fl0, id, nam, nm0, draw, n, mm, keep, tear⟩ := a
 dsimp only at hF hC1 hC2 hC3 hQ ⊢
 obtain ⟨res, hres⟩ : ∃ res, (l.take 20).map cutA = res := ⟨_, rfl⟩
 rw [hres] at hQ
 have hQ2 : ∀ acc : List ByteArray, acc = res → Q (.agg [.v (.int .i64 kd), .v (.string (cut3 pid)), .v (.int .i64 cls), .s false 6 ((fewL fs).map fldC), .v (.string (cutA id)), .v (.string (cutA nam)), .s true 1 (acc.map strC), .v (.string (cutA draw)), .v (.int .i64 n), .v (.int .i64 mm), .v (.int .u64 keep), .v (.int .i64 tear)]) [] := by
  rintro acc rfl
  exact hQ
 clear hQ
 obtain ⟨frows, hfr⟩ : ∃ r, (fewL fs).map fldC = r := ⟨_, rfl⟩
 rw [hfr] at hF hQ2
 refine Y3 okJl rfl (by repeat first | with_reducible exact Y2 | refine Y1 (by simp only [Y5, Y4, Y6, St.ev, St.put, St.with, D.cells, boxA, C.st, List.replicate, Nat.reduceAdd, Nat.reduceSub, if_true, tz50, ZA]; rfl) ?_) ?_
 refine Y3 okJl rfl (by repeat first | with_reducible exact Y2 | refine Y1 (by simp only [Y5, Y4, Y6, evsA, qev, St.ev, St.put, St.with, D.cells, qload, Y9, qmk, C.cpy, TK.agg, Yb, liveR, C.st, C.cp, C.dat, storeA, putCells, Nat.reduceAdd, Nat.reduceEqDiff, if_true, if_false, ne_eq, reduceCtorEq, Nat.reduceLeDiff, implies_true, Bool.true_or, callP, Fs.none, Yg, argD, argC, argCs, settle, settle1, settleC, Yl, FsJl, hF, tk48, tsz48, tk50, ZA]; rfl) ?_) ?_
 refine Y3 okJl rfl (by repeat first | with_reducible exact Y2 | refine Y1 (by simp only [Y5, Y4, Y6, evsA, qev, St.ev, St.put, St.with, D.cells, qload, Y9, qmk, C.cpy, TK.agg, Yb, liveR, C.st, C.cp, C.dat, storeA, putCells, Nat.reduceAdd, Nat.reduceEqDiff, if_true, if_false, ne_eq, reduceCtorEq, Nat.reduceLeDiff, implies_true, Bool.true_or, callP, Fs.none, Yg, argD, argC, settle, settle1, settleC, FsJl, hC1, tk50, tsz9, tk9, ZA]; rfl) ?_) ?_
 refine Y3 okJl rfl (by repeat first | with_reducible exact Y2 | refine Y1 (by simp only [Y5, Y4, Y6, evsA, qev, St.ev, St.put, St.with, D.cells, qload, Y9, qmk, C.cpy, TK.agg, Yb, liveR, C.st, C.cp, C.dat, storeA, putCells, Nat.reduceAdd, Nat.reduceEqDiff, if_true, if_false, ne_eq, reduceCtorEq, Nat.reduceLeDiff, implies_true, Bool.true_or, callP, Fs.none, Yg, argD, argC, settle, settle1, settleC, FsJl, hC2, tk50, tsz9, tk9, ZA]; rfl) ?_) ?_
 refine Y3 okJl rfl (by repeat first | with_reducible exact Y2 | refine Y1 (by simp only [Y5, Y4, Y6, evsA, qev, St.ev, St.put, St.with, D.cells, qload, Y9, qmk, C.cpy, TK.agg, Yb, liveR, C.st, C.cp, C.dat, storeA, putCells, Nat.reduceAdd, Nat.reduceEqDiff, if_true, if_false, ne_eq, reduceCtorEq, Nat.reduceLeDiff, implies_true, Bool.true_or, callP, Fs.none, Yg, argD, argC, settle, settle1, settleC, FsJl, hC3, tk50, tsz9, tk9, ZA]; rfl) ?_) ?_
 refine Y3 okJl rfl (by repeat first | with_reducible exact Y2 | refine Y1 (by simp only [Y5, Y4, Y6, qev, St.ev, St.put, Y8, Y7, ZA]; rfl) ?_) ?_
 refine seq_in ?_
 refine Y3 okJl rfl (by repeat first | with_reducible exact Y2 | refine Y1 (by simp only [Y5, Y4, Y6, qev, St.ev, St.put, Y8, Y7, ZA]; rfl) ?_) ?_
 refine tri_block ?_
 refine tri_nil 3 1 rfl ?_
 show Tri _ _ _ _
 refine tri_loop_le (fun m A => ∃ (j : Nat) (acc : List ByteArray) (T : List (Option Root)), m + j = l.length ∧ j ≤ 20 ∧ acc = (l.take j).map cutA ∧ acc.length = j ∧ A = ⟨[.o, .c (.p 0 0 0), .c (.p 1 0 0), .c (.h 2 0 acc.length), .c (.v (.int .i64 (j : Nat))), .o, .o, .o, .o, .o, .o, .o, .o, .o, .o, .o, .o, .o, .o, .o, .o, .o, .o, .o, .o, .o, .o, .o, .o, .o, .o, .o, .o, .o, .o, .o, .o, .o, .o, .o, .o, .o, .o, .o], some ⟨false, 12, [[.v (.int .i64 kd), .v (.string (cut3 pid)), .v (.int .i64 cls), .s false 6 frows, .v (.string (cutA id)), .v (.string (cutA nam)), .s false es (l.map strC), .v (.string (cutA draw)), .v (.int .i64 n), .v (.int .i64 mm), .v (.int .u64 keep), .v (.int .i64 tear)]]⟩ :: some ⟨false, 12, [[.v (.int .i64 0), .v (.string ⟨#[]⟩), .v (.int .i64 0), .s true 0 [], .v (.string ⟨#[]⟩), .v (.string ⟨#[]⟩), .s true 0 [], .v (.string ⟨#[]⟩), .v (.int .i64 0), .v (.int .i64 0), .v (.int .u64 0), .v (.int .i64 0)]]⟩ :: some ⟨true, 1, acc.map strC⟩ :: T⟩) l.length (B := ⟨[.o, .c (.p 0 0 0), .c (.p 1 0 0), .c (.h 2 0 0), .c (.v (.int .i64 (0 : Nat))), .o, .o, .o, .o, .o, .o, .o, .o, .o, .o, .o, .o, .o, .o, .o, .o, .o, .o, .o, .o, .o, .o, .o, .o, .o, .o, .o, .o, .o, .o, .o, .o, .o, .o, .o, .o, .o, .o, .o], some ⟨false, 12, [[.v (.int .i64 kd), .v (.string (cut3 pid)), .v (.int .i64 cls), .s false 6 frows, .v (.string (cutA id)), .v (.string (cutA nam)), .s false es (l.map strC), .v (.string (cutA draw)), .v (.int .i64 n), .v (.int .i64 mm), .v (.int .u64 keep), .v (.int .i64 tear)]]⟩ :: some ⟨false, 12, [[.v (.int .i64 0), .v (.string ⟨#[]⟩), .v (.int .i64 0), .s true 0 [], .v (.string ⟨#[]⟩), .v (.string ⟨#[]⟩), .s true 0 [], .v (.string ⟨#[]⟩), .v (.int .i64 0), .v (.int .i64 0), .v (.int .u64 0), .v (.int .i64 0)]]⟩ :: some ⟨true, 1, []⟩ :: []⟩) ⟨by repeat (first | exact .nil | refine .same ?_ | refine .o ?_), rfl⟩ ⟨0, [], [], rfl, by omega, rfl, rfl, rfl⟩ ?_
 rintro m A ⟨j, acc, T, hm, hj20, hacc, hal, rfl⟩
 have hj1 : (j : Int) + 1 = ((j + 1 : Nat) : Int) := by omega
 have hg : ((j : Nat) : Int) < ((l.length : Nat) : Int) → l[j]? = some (l.getD j noText) := fun h => get_at _ (by omega)
 have hE : ((j : Nat) : Int) < ((l.length : Nat) : Int) → es = 1 := fun h => hes (by omega)
 have hs : (l.getD j noText).size ≤ maxStr := (by by_cases h : j < l.length; exact hnm _ (List.mem_of_getElem? (hg (by omega))); rw [List.getD_eq_getElem?_getD, List.getElem?_eq_none (by omega)]; decide)
 have hC := cutA_at (l.getD j noText) hs
 have htk : ((j : Nat) : Int) < ((l.length : Nat) : Int) → (l.take (j + 1)).map cutA = acc ++ [cutA (l.getD j noText)] := (by intro h; rw [hacc, List.take_succ_eq_append_getElem (show j < l.length by omega), List.map_append]; have := hg h; rw [List.getElem?_eq_getElem (by omega)] at this; rw [← Option.some.inj this]; rfl)
 have ht0 : (acc.map strC).take acc.length = acc.map strC := List.take_of_length_le (by simp)
 have hne : ∀ k : Nat, (k + 1 + 1 + 1 != 2) = true := (by intro k; simp)
 have hz : (acc.length + 1) * 16 ≤ 140737488355328 := by omega
 refine seq_in ?_
 by_cases a0 : ((↑j : Int) < (↑l.length : Int))
 ·
  refine Y3 okJl rfl (by repeat first | with_reducible exact Y2 | refine Y1 (by simp only [Y5, Y4, Y6, qev, St.ev, St.put, qload, Y9, qmk, C.cpy, TK.agg, Yb, qpick, qint, Yc, Ya, qbin, qlen, qbuiltin, liveR, C.cp, Y8, Y7, if_true, if_false, decide_true, cond_true, reduceCtorEq, hlm, tk50, tk28, hE, List.length_map, tsz28, eq_true a0, ZA]; rfl) ?_) ?_
  refine Yf rfl (fun a1 => ?_) (fun a1 => ?_)
  ·
   simp only [decide_eq_true_eq] at a1
   refine Ye ?_
   refine seq_in (tri_block ?_)
   refine Yk okJl rfl (by repeat first | with_reducible exact Y2 | refine Y1 (by simp only [Y5, Y4, Y6, evsA, qev, St.ev, St.put, St.with, D.cells, D.int, qload, Y9, qmk, C.cpy, TK.agg, Yb, qindexAddr, liveR, C.st, C.cp, C.dat, putCells, Nat.reduceMul, Nat.reduceEqDiff, if_true, if_false, decide_true, forall_const, ne_eq, reduceCtorEq, Nat.reduceLeDiff, Nat.le_refl, Nat.reduceBNe, bne_self_eq_false, Bool.true_or, nb_map, C.nb, callP, Fs.none, Yg, argD, argC, settle, settle1, settleC, FsJl, partsA, fillA, tk50, tk28, Int.toNat_natCast, Int.natCast_nonneg, hg, hC, ht0, hne, hz, last_get, buildSliceA, partsA, fillA, reps, chop, tkApp, appendA, srcRows, srcOther, D.kill, D.no, C.no, C.kill, killH, Root.kill, List.length_map, strC, List.getElem?_map, tsz9, tk9, tsz28, eq_true a0, a1, tz9, bo9, ZA]; rfl) ?_) ?_
   show Tri _ _ _ _
   refine Yk okJl rfl (by repeat first | with_reducible exact Y2 | refine Y1 (by simp only [Y5, Y4, Y6, qev, St.ev, St.put, qint, Yc, Ya, qbin, Y8, Y7, if_true, if_false, hj1, show IntKind.i64.wrap (↑(j + 1) : Int) = _ from wrap_i64 _ (by omega) (by omega), ZA]; rfl) ?_) ?_
   simp only []
   (exact ⟨m - 1, by omega, ⟨[.o, .c (.p 0 0 0), .c (.p 1 0 0), .c (.h 2 0 (acc ++ [cutA (l.getD j noText)]).length), .c (.v (.int .i64 (j + 1 : Nat))), .o, .o, .o, .o, .o, .o, .o, .o, .o, .o, .o, .o, .o, .o, .o, .o, .o, .o, .o, .o, .o, .o, .o, .o, .o, .o, .o, .o, .o, .o, .o, .o, .o, .o, .o, .o, .o, .o, .o], some ⟨false, 12, [[.v (.int .i64 kd), .v (.string (cut3 pid)), .v (.int .i64 cls), .s false 6 frows, .v (.string (cutA id)), .v (.string (cutA nam)), .s false es (l.map strC), .v (.string (cutA draw)), .v (.int .i64 n), .v (.int .i64 mm), .v (.int .u64 keep), .v (.int .i64 tear)]]⟩ :: some ⟨false, 12, [[.v (.int .i64 0), .v (.string ⟨#[]⟩), .v (.int .i64 0), .s true 0 [], .v (.string ⟨#[]⟩), .v (.string ⟨#[]⟩), .s true 0 [], .v (.string ⟨#[]⟩), .v (.int .i64 0), .v (.int .i64 0), .v (.int .u64 0), .v (.int .i64 0)]]⟩ :: some ⟨true, 1, (acc ++ [cutA (l.getD j noText)]).map strC⟩ :: _⟩, ⟨(by rw [show (acc ++ [cutA (l.getD j noText)]).length = acc.length + 1 from by simp]; repeat (first | exact .nil | refine .same ?_ | refine .o ?_)), (by rw [show (acc ++ [cutA (l.getD j noText)]).map strC = acc.map strC ++ [strC (cutA (l.getD j noText))] from List.map_append, hE (by omega)]; rfl)⟩, j + 1, (acc ++ [cutA (l.getD j noText)]), _, by omega, by omega, (htk (by omega)).symm, (by simp [hal]), rfl⟩)
  ·
   simp only [decide_eq_false_iff_not] at a1
   refine tri_exit ?_
   show Tri _ _ _ _
   refine Y3 okJl rfl (by repeat first | with_reducible exact Y2 | refine Y1 (by simp only [Y5, Y4, Y6, qev, St.ev, St.put, D.cells, Yb, liveR, C.st, C.dat, storeA, putCells, Bool.and_true, Nat.reduceAdd, if_true, if_false, decide_false, ne_eq, reduceCtorEq, Nat.reduceLeDiff, tk50, false_implies, false_implies, tsz28, a1, ZA]; rfl) ?_) ?_
   refine Y3 okJl rfl (by repeat first | with_reducible exact Y2 | refine Y1 (by simp only [Y5, Y4, Y6, qev, St.ev, St.put, D.cells, qload, Y9, qmk, C.cpy, TK.agg, liveR, C.st, C.cp, C.dat, storeA, putCells, Bool.and_true, Nat.reduceAdd, if_true, ne_eq, reduceCtorEq, Nat.le_refl, Bool.and_false, tk50, tsz50, false_implies, false_implies, ZA]; rfl) ?_) ?_
   refine Yo (Yp (by simp only [outRes, Yi, resD, outD, outC, outCs, qload, Y9, qmk, C.cpy, TK.agg, C.cp, C.dat, Nat.reduceAdd, if_true, ne_eq, reduceCtorEq, tk50, tsz50, List.length_map, ZA]; rfl) rfl (by simp) (by simp) ?_)
   (exact hQ2 acc (by rw [hacc, ← hres, show j = 20 by omega]))
 ·
  have a0n : (l)[j]? = none := List.getElem?_eq_none (by omega)
  refine Y3 okJl rfl (by repeat first | with_reducible exact Y2 | refine Y1 (by simp only [Y5, Y4, Y6, qev, St.ev, St.put, qload, Y9, qmk, C.cpy, TK.agg, Yb, qpick, qint, Yc, isEq, Ya, qbin, qlen, qbuiltin, liveR, C.cp, Y8, Y7, if_true, if_false, decide_false, cond_false, reduceCtorEq, hlm, tk50, tk28, List.length_map, tsz28, eq_false a0, ZA]; rfl) ?_) ?_
  refine Yf (b := false) rfl (fun h => by cases h) (fun _ => ?_)
  refine tri_exit ?_
  show Tri _ _ _ _
  refine Y3 okJl rfl (by repeat first | with_reducible exact Y2 | refine Y1 (by simp only [Y5, Y4, Y6, qev, St.ev, St.put, D.cells, Yb, liveR, C.st, C.dat, storeA, putCells, Bool.and_true, Nat.reduceAdd, if_true, if_false, ne_eq, reduceCtorEq, Nat.reduceLeDiff, tk50, false_implies, false_implies, tsz28, ZA]; rfl) ?_) ?_
  refine Y3 okJl rfl (by repeat first | with_reducible exact Y2 | refine Y1 (by simp only [Y5, Y4, Y6, qev, St.ev, St.put, D.cells, qload, Y9, qmk, C.cpy, TK.agg, liveR, C.st, C.cp, C.dat, storeA, putCells, Bool.and_true, Nat.reduceAdd, if_true, ne_eq, reduceCtorEq, Nat.le_refl, Bool.and_false, tk50, tsz50, false_implies, false_implies, ZA]; rfl) ?_) ?_
  refine Yo (Yp (by simp only [outRes, Yi, resD, outD, outC, outCs, qload, Y9, qmk, C.cpy, TK.agg, C.cp, C.dat, Nat.reduceAdd, if_true, ne_eq, reduceCtorEq, tk50, tsz50, List.length_map, ZA]; rfl) rfl (by simp) (by simp) ?_)
  (exact hQ2 acc (by rw [hacc, ← hres, List.take_of_length_le (by omega), List.take_of_length_le (by omega)]))
theorem meets20Z : Meets Try.prog 20 (pureS pFewA) := meets_frzAP meets20
end Go.Dl

namespace Go.Dl
open Go.RowKit
open Go.Proofs
set_option linter.unusedSimpArgs false
set_option linter.unusedVariables false
theorem ft39B : flatT Try.prog 39 = some [(.int .i64), .bool, (.int .i64), (.int .u64), .str] := by kernel_rfl
theorem strEq_dec (s t : ByteArray) : strEq s t = decide (s = t) := by
 by_cases h : s = t
 · subst h; rw [decide_eq_true rfl]; exact strEq_same s
 · rw [decide_eq_false h]
   cases hx : strEq s t with
   | false => rfl
   | true =>
    rw [strEq_iff, ByteArray.toList_eq, ByteArray.toList_eq] at hx
    exact absurd (ByteArray.ext (Array.ext' hx)) h
theorem eqv (a1 b1 : Int) (a2 b2 : Bool) (a3 b3 a4 b4 : Int) (a5 b5 : ByteArray) : eqCs [(.int .i64), .bool, (.int .i64), (.int .u64), .str] [.v (.int .i64 a1), .v (.bool a2), .v (.int .i64 a3), .v (.int .u64 a4), .v (.string a5)] [.v (.int .i64 b1), .v (.bool b2), .v (.int .i64 b3), .v (.int .u64 b4), .v (.string b5)] = some (decide (((a1, a2, a3, a4, a5) : Val) = (b1, b2, b3, b4, b5))) := by
 simp only [eqCs, eqC, if_true, strEq_dec, Z3]
 rw [Bool.eq_iff_iff]
 simp
/-- What a value would be if it were plain. -/
def wantC (v : Val) : Val := if v.1 = 3 then ((cleanF v).1, (cleanF v).2.1, (cleanF v).2.2.1, v.2.2.2.1, (cleanF v).2.2.2.2) else cleanF v
def plainL : List Fld → Bool
 | [] => true
 | f :: r => if f.2.1 < 0 then false else if 4 < f.2.1 then false else if f.2 = wantC f.2 then plainL r else false
noncomputable def FsJm : Fs := { Fs.none with pure := fun k => if k = 19 then some pClean else none }
theorem okJm : FsOK Try.prog FsJm := by
 refine ⟨fun k f h => ?_, fun _ _ h => (by cases h)⟩
 simp only [FsJm] at h
 split at h
 · rename_i hk; subst hk; cases h; exact ⟨by kernel_rfl, meets19⟩
 · cases h
noncomputable def pPlainA : List D → Option D := famP (fun a : ActM => (a.flds.getD []).length ≤ maxStr) (fun a => [.agg (actC false a)]) (fun a => dB (plainL (a.flds.getD [])))
theorem plainA_at (a : ActM) (h : (a.flds.getD []).length ≤ maxStr) : pPlainA [.agg (actC false a)] = some (dB (plainL (a.flds.getD []))) := Ym (fun x y h => by
 simp only [List.cons.injEq, D.agg.injEq, and_true] at h
 rw [actC_inj0 h]) a h rfl
theorem plain_cons (f : Fld) (r : List Fld) {k : Int} {fl : Bool} {n b : Int} {t : ByteArray} {w1 : Int} {w2 : Bool} {w3 w4 : Int} {w5 : ByteArray} (hf : f.2 = (k, fl, n, b, t)) (hw : cleanF (k, fl, n, b, t) = (w1, w2, w3, w4, w5)) :
  plainL (f :: r) = if k < 0 then false else if 4 < k then false else if k = 3 then (if ((k, fl, n, b, t) : Val) = (w1, w2, w3, b, w5) then plainL r else false) else if ((k, fl, n, b, t) : Val) = (w1, w2, w3, w4, w5) then plainL r else false := by
 rw [plainL, hf]
 dsimp only
 unfold wantC
 rw [hw]
 dsimp only
 by_cases h3 : k = 3
 · rw [if_pos h3, if_pos h3]
 · rw [if_neg h3, if_neg h3]
set_option maxRecDepth 100000 in
set_option maxHeartbeats 4000000 in
theorem meets27 : Meets Try.prog 27 (pureS pPlainA) := by
 refine Yn (show Try.prog.funcs[27]? = some Try.f27 by kernel_rfl) rfl (n := 42) rfl (rs := [ResultVar.tmp 2]) rfl ?_
 rintro a hlen Q hQ
 have hc0 : ((0 : Nat) : Int) = 0 := rfl
 have hln : (a.flds.getD []).length ≤ 9223372036854775807 := by unfold maxStr at hlen; omega
 have hgf : ∃ (l : List Fld) (es : Nat), fldsC false a.flds = .s false es (l.map fldC) ∧ a.flds.getD [] = l ∧ (0 < l.length → es = 6) := by
  cases a.flds with
  | none => exact ⟨[], 0, rfl, rfl, fun h => absurd h (by simp)⟩
  | some l => exact ⟨l, 6, rfl, rfl, fun _ => rfl⟩
 obtain ⟨l, es, hf1, hf2, hes⟩ := hgf
 rw [hf2] at hlen hln hQ
 obtain ⟨e2, r2, hn1⟩ : ∃ es r, namesC false a.names = .s false es r := ⟨_, _, rfl⟩
 simp only [actC, hf1, hn1]
 clear hf1 hf2 hn1
 obtain ⟨kd, pid, cls, fl0, id, nam, nm0, draw, n, mm, keep, tear⟩ := a
 dsimp only
 obtain ⟨res, hres⟩ : ∃ res, plainL l = res := ⟨_, rfl⟩
 rw [hres] at hQ
 have hQ2 : ∀ r : Bool, r = res → Q (.c (.v (.bool r))) [] := by
  rintro r rfl
  exact hQ
 clear hQ
 refine Y3 okJm rfl (by repeat first | with_reducible exact Y2 | refine Y1 (by simp only [Y5, Y4, Y6, qev, St.ev, St.put, St.with, D.cells, boxA, C.st, Y8, Y7, List.replicate, Nat.reduceAdd, Nat.reduceSub, if_true, ZA]; rfl) ?_) ?_
 refine seq_in ?_
 refine Y3 okJm rfl (by repeat first | with_reducible exact Y2 | refine Y1 (by simp only [Y5, Y4, Y6, qev, St.ev, St.put, Y8, Y7, ZA]; rfl) ?_) ?_
 refine tri_block ?_
 refine tri_loop_le (fun m A => ∃ (j : Nat) (T : List (Option Root)), m + j = l.length ∧ plainL (l.drop j) = res ∧ A = ⟨[.o, .c (.p 0 0 0), .c (.v (.bool false)), .c (.v (.int .i64 (j : Nat))), .o, .o, .o, .o, .o, .o, .o, .o, .o, .o, .o, .o, .o, .o, .o, .o, .o, .o, .o, .o, .o, .o, .o, .o, .o, .o, .o, .o, .o, .o, .o, .o, .o, .o, .o, .o, .o, .o], some ⟨false, 12, [[.v (.int .i64 kd), .v (.string pid), .v (.int .i64 cls), .s false es (l.map fldC), .v (.string id), .v (.string nam), .s false e2 r2, .v (.string draw), .v (.int .i64 n), .v (.int .i64 mm), .v (.int .u64 keep), .v (.int .i64 tear)]]⟩ :: T⟩) l.length (B := ⟨[.o, .c (.p 0 0 0), .c (.v (.bool false)), .c (.v (.int .i64 (0 : Nat))), .o, .o, .o, .o, .o, .o, .o, .o, .o, .o, .o, .o, .o, .o, .o, .o, .o, .o, .o, .o, .o, .o, .o, .o, .o, .o, .o, .o, .o, .o, .o, .o, .o, .o, .o, .o, .o, .o], some ⟨false, 12, [[.v (.int .i64 kd), .v (.string pid), .v (.int .i64 cls), .s false es (l.map fldC), .v (.string id), .v (.string nam), .s false e2 r2, .v (.string draw), .v (.int .i64 n), .v (.int .i64 mm), .v (.int .u64 keep), .v (.int .i64 tear)]]⟩ :: []⟩) ⟨by repeat (first | exact .nil | refine .same ?_ | refine .o ?_), rfl⟩ ⟨0, [], rfl, hres, rfl⟩ ?_
 rintro m A ⟨j, T, hm, hk, rfl⟩
 have hj1 : (j : Int) + 1 = ((j + 1 : Nat) : Int) := by omega
 obtain ⟨f, hf⟩ : ∃ f, l.getD j (noText, val0) = f := ⟨_, rfl⟩
 have hg : ((j : Nat) : Int) < ((l.length : Nat) : Int) → l[j]? = some f := (by intro h; rw [← hf]; exact get_at _ (by omega))
 have hE : ((j : Nat) : Int) < ((l.length : Nat) : Int) → es = 6 := fun h => hes (by omega)
 obtain ⟨nm, k, fl, n0, b, tx⟩ := f
 have hCl := clean_at (k, fl, n0, b, tx)
 obtain ⟨w, hw⟩ : ∃ w, cleanF (k, fl, n0, b, tx) = w := ⟨_, rfl⟩
 rw [hw] at hCl
 obtain ⟨w1, w2, w3, w4, w5⟩ := w
 simp only [valC] at hCl
 have hkc : ∀ r, plainL ((nm, k, fl, n0, b, tx) :: r) = _ := fun r => plain_cons (nm, k, fl, n0, b, tx) r rfl hw
 have hg1 : ∀ x y : Option Root, (T ++ [x] ++ [y])[T.length]? = some x := (by intro x y; simp)
 have hg2 : ∀ x y : Option Root, (T ++ [x] ++ [y])[T.length + 1]? = some y := (by intro x y; simp)
 have hs2 : ∀ x y z : Option Root, (T ++ [x] ++ [y]).set (T.length + 1) z = T ++ [x] ++ [z] := (by intro x y z; simp)
 refine seq_in ?_
 refine Y3 okJm rfl (by repeat first | with_reducible exact Y2 | refine Y1 (by simp only [Y5, Y4, Y6, qev, St.ev, St.put, qload, Y9, qmk, C.cpy, TK.agg, Yb, qint, Yc, Ya, qbin, qlen, qbuiltin, liveR, C.cp, Nat.reduceAdd, if_true, if_false, reduceCtorEq, hlen, tk48, tsz48, tk50, List.length_map, tk46, tsz46, ZA]; rfl) ?_) ?_
 refine Yf rfl (fun a0 => ?_) (fun a0 => ?_)
 ·
  simp only [decide_eq_true_eq] at a0
  refine Ye ?_
  refine seq_in (tri_block ?_)
  refine Y3 okJm rfl (by repeat first | with_reducible exact Y2 | refine Y1 (by simp only [Y5, Y4, Y6, qev, St.ev, St.put, St.with, D.cells, D.int, boxA, qload, Y9, qmk, C.cpy, TK.agg, Yb, qindexAddr, liveR, C.st, C.cp, C.dat, storeA, putCells, Nat.reduceAdd, if_true, if_false, decide_true, ne_eq, reduceCtorEq, Nat.le_refl, implies_true, tk48, tsz48, tk50, tk91, tsz91, tk39, tsz39, Int.toNat_natCast, Int.natCast_nonneg, hg, hE, last_get, last_set, List.length_map, fldC, List.getElem?_map, tk91, tsz91, tk39, tsz39, tz39, tk46, tsz46, a0, ZA]; rfl) ?_) ?_
  refine Y3 okJm rfl (by repeat first | with_reducible exact Y2 | refine Y1 (by simp only [Y5, Y4, Y6, evsA, qev, St.ev, St.put, St.with, D.cells, boxA, qload, Y9, qmk, C.cpy, TK.agg, C.st, C.cp, C.dat, storeA, putCells, Nat.reduceAdd, if_true, ne_eq, reduceCtorEq, Nat.le_refl, implies_true, Bool.true_or, callP, Fs.none, Yg, argD, argC, argCs, settle, settle1, settleC, Yl, FsJm, tk39, tsz39, hCl, hg2, hs2, last_get, List.length_append, tk39, tsz39, tz39, ZA]; rfl) ?_) ?_
  refine seq_in ?_
  refine Y3 okJm rfl (by repeat first | with_reducible exact Y2 | refine Y1 (by simp only [Y5, Y4, Y6, qev, St.ev, St.put, qload, Y9, qmk, C.cpy, TK.agg, Yb, qint, Yc, Ya, qbin, liveR, C.cp, Y8, Y7, if_true, if_false, reduceCtorEq, Nat.add_zero, tk39, hg1, tk39, tsz3, tk3, ZA]; rfl) ?_) ?_
  refine Yf rfl (fun a1 => ?_) (fun a1 => ?_)
  ·
   simp only [decide_eq_true_eq] at a1
   refine Yk okJm rfl (by repeat first | with_reducible exact Y2 | refine Y1 (by simp only [Y5, Y4, Y6, qev, St.ev, St.put, D.cells, qload, Y9, qmk, C.cpy, TK.agg, Yb, liveR, C.st, C.cp, C.dat, storeA, putCells, Nat.reduceAdd, if_true, if_false, decide_true, ne_eq, reduceCtorEq, Nat.reduceLeDiff, implies_true, tk39, hg1, hg2, hs2, tk39, a1, tsz37, tk37, ZA]; rfl) ?_) ?_
   show Tri _ _ _ _
   refine Y3 okJm rfl (by repeat first | with_reducible exact Y2 | refine Y1 (by simp only [Y5, Y4, Y6, qev, St.ev, St.put, qload, Y9, qmk, C.cpy, TK.agg, Yb, qpick, qint, Yc, isEq, Ya, qbin, liveR, C.cp, Y8, Y7, Nat.reduceAdd, if_true, if_false, decide_false, cond_false, reduceCtorEq, Int.reduceLT, Nat.add_zero, eqv, ft39B, tk39, tsz39, hg1, hg2, tk39, tsz39, ft39B, eqv, tsz3, tk3, ZA]; rfl) ?_) ?_
   refine Yf rfl (fun a2 => ?_) (fun a2 => ?_)
   ·
    simp only [decide_eq_false_iff_not, Bool.not_eq_true'] at a2
    refine Y3 okJm rfl (by repeat first | with_reducible exact Y2 | refine Y1 (by simp only [Y5, Y4, Y6, qev, St.ev, St.put, Y8, Y7, decide_false, Bool.not_false, a2, ZA]; rfl) ?_) ?_
    refine Yo (Yp (by simp only [outRes, Yi, resD, outD, outC, C.dat, if_true, ZA]; rfl) rfl (by simp) (by simp) ?_)
    (rw [drop_at (noText, val0) (show j < l.length by omega), hf, hkc] at hk; simp only [reduceIte, ↓reduceIte, Int.reduceLT, a1, a2] at hk; with_reducible exact hQ2 _ hk)
   ·
    simp only [decide_eq_true_eq, Bool.not_eq_false'] at a2
    refine tri_skip ?_
    show Tri _ _ _ _
    refine Yk okJm rfl (by repeat first | with_reducible exact Y2 | refine Y1 (by simp only [Y5, Y4, Y6, qev, St.ev, St.put, qint, Yc, Ya, qbin, Y8, Y7, if_true, if_false, decide_true, Bool.not_true, hj1, a2, show IntKind.i64.wrap (↑(j + 1) : Int) = _ from wrap_i64 _ (by omega) (by omega), ZA]; rfl) ?_) ?_
    simp only []
    (rw [drop_at (noText, val0) (show j < l.length by omega), hf, hkc] at hk; simp only [reduceIte, ↓reduceIte, Int.reduceLT, a1, a2, eq_self] at hk; exact ⟨m - 1, by omega, ⟨[.o, .c (.p 0 0 0), .c (.v (.bool false)), .c (.v (.int .i64 (j + 1 : Nat))), .o, .o, .o, .o, .o, .o, .o, .o, .o, .o, .o, .o, .o, .o, .o, .o, .o, .o, .o, .o, .o, .o, .o, .o, .o, .o, .o, .o, .o, .o, .o, .o, .o, .o, .o, .o, .o, .o], some ⟨false, 12, [[.v (.int .i64 kd), .v (.string pid), .v (.int .i64 cls), .s false es (l.map fldC), .v (.string id), .v (.string nam), .s false e2 r2, .v (.string draw), .v (.int .i64 n), .v (.int .i64 mm), .v (.int .u64 keep), .v (.int .i64 tear)]]⟩ :: _⟩, ⟨(by rw [hE (by omega)]; repeat (first | exact .nil | refine .same ?_ | refine .o ?_)), (by rw [hE (by omega)]; try rfl)⟩, j + 1, _, by omega, hk, rfl⟩)
  ·
   simp only [decide_eq_false_iff_not] at a1
   refine Ye ?_
   by_cases a3 : (k < 0)
   ·
    refine Y3 okJm rfl (by repeat first | with_reducible exact Y2 | refine Y1 (by simp only [Y5, Y4, Y6, qev, St.ev, St.put, qload, Y9, qmk, C.cpy, TK.agg, Yb, qpick, qint, Yc, isEq, qeq, Ya, qbin, liveR, C.cp, Y8, Y7, Option.bind_none, Nat.reduceAdd, if_true, if_false, decide_true, decide_false, cond_true, reduceCtorEq, Nat.add_zero, tk39, tsz39, hg1, hg2, tk39, tsz39, tsz3, tk3, a1, eq_true a3, ZA]; rfl) ?_) ?_
    refine Yf (b := true) rfl (fun _ => ?_) (fun h => by cases h)
    refine Y3 okJm rfl (by repeat first | with_reducible exact Y2 | refine Y1 (by simp only [Y5, Y4, Y6, qev, St.ev, St.put, Y8, Y7, ZA]; rfl) ?_) ?_
    refine Yo (Yp (by simp only [outRes, Yi, resD, outD, outC, C.dat, if_true, ZA]; rfl) rfl (by simp) (by simp) ?_)
    (rw [drop_at (noText, val0) (show j < l.length by omega), hf, hkc] at hk; simp only [reduceIte, ↓reduceIte, eq_true a3] at hk; with_reducible exact hQ2 _ hk)
   ·
    by_cases a4 : (4 < k)
    ·
     refine Y3 okJm rfl (by repeat first | with_reducible exact Y2 | refine Y1 (by simp only [Y5, Y4, Y6, qev, St.ev, St.put, qload, Y9, qmk, C.cpy, TK.agg, Yb, qpick, qint, Yc, isEq, qeq, Ya, qbin, liveR, C.cp, Y8, Y7, Nat.reduceAdd, if_true, if_false, decide_true, decide_false, cond_true, cond_false, reduceCtorEq, Nat.add_zero, tk39, tsz39, hg1, hg2, tk39, tsz39, tsz3, tk3, a1, eq_false a3, eq_true a4, ZA]; rfl) ?_) ?_
     refine Yf (b := true) rfl (fun _ => ?_) (fun h => by cases h)
     refine Y3 okJm rfl (by repeat first | with_reducible exact Y2 | refine Y1 (by simp only [Y5, Y4, Y6, qev, St.ev, St.put, Y8, Y7, ZA]; rfl) ?_) ?_
     refine Yo (Yp (by simp only [outRes, Yi, resD, outD, outC, C.dat, if_true, ZA]; rfl) rfl (by simp) (by simp) ?_)
     (rw [drop_at (noText, val0) (show j < l.length by omega), hf, hkc] at hk; simp only [reduceIte, ↓reduceIte, eq_false a3, eq_true a4] at hk; with_reducible exact hQ2 _ hk)
    ·
     refine Y3 okJm rfl (by repeat first | with_reducible exact Y2 | refine Y1 (by simp only [Y5, Y4, Y6, qev, St.ev, St.put, qload, Y9, qmk, C.cpy, TK.agg, Yb, qpick, qint, Yc, isEq, Ya, qbin, liveR, C.cp, Y8, Y7, Nat.reduceAdd, if_true, if_false, decide_false, cond_false, reduceCtorEq, Nat.add_zero, eqv, ft39B, tk39, tsz39, hg1, hg2, tk39, tsz39, ft39B, eqv, tsz3, tk3, a1, eq_false a3, eq_false a4, ZA]; rfl) ?_) ?_
     refine Yf rfl (fun a5 => ?_) (fun a5 => ?_)
     ·
      simp only [decide_eq_false_iff_not, Bool.not_eq_true'] at a5
      refine Y3 okJm rfl (by repeat first | with_reducible exact Y2 | refine Y1 (by simp only [Y5, Y4, Y6, qev, St.ev, St.put, Y8, Y7, decide_false, Bool.not_false, a5, ZA]; rfl) ?_) ?_
      refine Yo (Yp (by simp only [outRes, Yi, resD, outD, outC, C.dat, if_true, ZA]; rfl) rfl (by simp) (by simp) ?_)
      (rw [drop_at (noText, val0) (show j < l.length by omega), hf, hkc] at hk; simp only [reduceIte, ↓reduceIte, a1, eq_false a3, eq_false a4, a5] at hk; with_reducible exact hQ2 _ hk)
     ·
      simp only [decide_eq_true_eq, Bool.not_eq_false'] at a5
      refine tri_skip ?_
      show Tri _ _ _ _
      refine Yk okJm rfl (by repeat first | with_reducible exact Y2 | refine Y1 (by simp only [Y5, Y4, Y6, qev, St.ev, St.put, qint, Yc, Ya, qbin, Y8, Y7, if_true, if_false, decide_true, Bool.not_true, hj1, a5, show IntKind.i64.wrap (↑(j + 1) : Int) = _ from wrap_i64 _ (by omega) (by omega), ZA]; rfl) ?_) ?_
      simp only []
      (rw [drop_at (noText, val0) (show j < l.length by omega), hf, hkc] at hk; simp only [reduceIte, ↓reduceIte, a1, eq_false a3, eq_false a4, a5, eq_self] at hk; exact ⟨m - 1, by omega, ⟨[.o, .c (.p 0 0 0), .c (.v (.bool false)), .c (.v (.int .i64 (j + 1 : Nat))), .o, .o, .o, .o, .o, .o, .o, .o, .o, .o, .o, .o, .o, .o, .o, .o, .o, .o, .o, .o, .o, .o, .o, .o, .o, .o, .o, .o, .o, .o, .o, .o, .o, .o, .o, .o, .o, .o], some ⟨false, 12, [[.v (.int .i64 kd), .v (.string pid), .v (.int .i64 cls), .s false es (l.map fldC), .v (.string id), .v (.string nam), .s false e2 r2, .v (.string draw), .v (.int .i64 n), .v (.int .i64 mm), .v (.int .u64 keep), .v (.int .i64 tear)]]⟩ :: _⟩, ⟨(by rw [hE (by omega)]; repeat (first | exact .nil | refine .same ?_ | refine .o ?_)), (by rw [hE (by omega)]; try rfl)⟩, j + 1, _, by omega, hk, rfl⟩)
 ·
  simp only [decide_eq_false_iff_not] at a0
  refine tri_exit ?_
  show Tri _ _ _ _
  refine Y3 okJm rfl (by repeat first | with_reducible exact Y2 | refine Y1 (by simp only [Y5, Y4, Y6, qev, St.ev, St.put, Y8, Y7, decide_false, a0, ZA]; rfl) ?_) ?_
  refine Yo (Yp (by simp only [outRes, Yi, resD, outD, outC, C.dat, if_true, ZA]; rfl) rfl (by simp) (by simp) ?_)
  (rw [List.drop_of_length_le (by omega), plainL] at hk; with_reducible exact hQ2 _ hk)
end Go.Dl
