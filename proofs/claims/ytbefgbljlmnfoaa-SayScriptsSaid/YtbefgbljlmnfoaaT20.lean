/- The walk of the law's clean. -/
import Derived.Test.YtbefgbljlmnfoaaT15
set_option linter.all false
namespace Go.Dl
open Go.RowKit
open Go.Proofs
set_option linter.unusedSimpArgs false
set_option linter.unusedVariables false
theorem flds_none : fldsC false none = .s false 0 [] := rfl
theorem names_none : namesC false none = .s false 0 [] := rfl
noncomputable def pClean2 : List D → Option D := famP (fun _ : ActM => True) (fun a => [.agg (actC false a)]) (fun a => .agg (actC false (cleanA a)))
theorem clean2_at (a : ActM) : pClean2 [.agg (actC false a)] = some (.agg (actC false (cleanA a))) := Ym (fun x y h => by
  simp only [List.cons.injEq, D.agg.injEq, and_true] at h
  rw [actC_inj0 h]) a trivial rfl
set_option maxRecDepth 100000 in
set_option maxHeartbeats 8000000 in
theorem meets25 : Meets Try.prog 25 (pureS pClean2) := by
  refine Yn (show Try.prog.funcs[25]? = some Try.f25 by kernel_rfl) rfl (n := 77) rfl (rs := [ResultVar.cell 2 50]) rfl ?_
  intro a _ Q hQ
  obtain ⟨e1, r1, hf1⟩ : ∃ es r, fldsC false a.flds = .s false es r := ⟨_, _, rfl⟩
  obtain ⟨e2, r2, hf2⟩ : ∃ es r, namesC false a.names = .s false es r := ⟨_, _, rfl⟩
  simp only [actC, hf1, hf2]
  simp only [cleanA] at hQ
  generalize hkk : a.kind = kd at hQ
  refine Y3 ok0 rfl (by repeat first | with_reducible exact Y2 | refine Y1 (by simp only [Y5, Y4, Y6, St.ev, St.put, St.with, D.cells, boxA, C.st, List.replicate, Nat.reduceAdd, Nat.reduceSub, if_true, tz50, ZA]; rfl) ?_) ?_
  refine Y3 ok0 rfl (by repeat first | with_reducible exact Y2 | refine Y1 (by simp only [Y5, Y4, Y6, qev, St.ev, St.put, St.with, D.cells, boxA, qload, Y9, qmk, C.cpy, TK.agg, Yb, liveR, C.st, C.cp, C.dat, storeA, putCells, Nat.reduceAdd, if_true, if_false, ne_eq, reduceCtorEq, Nat.reduceLeDiff, Nat.le_refl, Nat.reduceBNe, implies_true, Nat.add_zero, buildA, partsA, fillA, placeSt, tsz48, tk50, tsz50, tz50, tsz3, tk3, tsz9, tsz28, tsz37, ZA]; rfl) ?_) ?_
  refine seq_in ?_
  refine Y3 ok0 rfl (by repeat first | with_reducible exact Y2 | refine Y1 (by simp only [Y5, Y4, Y6, qev, St.ev, St.put, qload, Y9, qmk, C.cpy, TK.agg, Yb, liveR, C.cp, if_true, if_false, reduceCtorEq, Nat.add_zero, tk50, tsz3, tk3, ZA]; rfl) ?_) ?_
  refine tri_block ?_
  refine Y3 ok0 rfl (by repeat first | with_reducible exact Y2 | refine Y1 (by simp only [Y5, Y4, Y6, qev, St.ev, St.put, qint, Yc, Ya, qbin, Y8, Y7, if_true, if_false, ZA]; rfl) ?_) ?_
  refine Yf rfl (fun w0 => ?_) (fun w0 => ?_)
  ·
    simp only [decide_eq_true_eq] at w0
    refine Y3 ok0 rfl (by repeat first | with_reducible exact Y2 | refine Y1 (by simp only [Y5, Y4, Y6, qev, St.ev, St.put, D.cells, qload, Y9, qmk, C.cpy, TK.agg, Yb, liveR, C.st, C.cp, C.dat, storeA, putCells, Nat.reduceAdd, if_true, if_false, decide_true, ne_eq, reduceCtorEq, Nat.reduceLeDiff, implies_true, tk48, tsz48, tk50, w0, ZA]; rfl) ?_) ?_
    refine Yk ok0 rfl (by repeat first | with_reducible exact Y2 | refine Y1 (by simp only [Y5, Y4, Y6, qev, St.ev, St.put, D.cells, qload, Y9, qmk, C.cpy, TK.agg, Yb, liveR, C.st, C.cp, C.dat, storeA, putCells, Nat.reduceAdd, if_true, if_false, ne_eq, reduceCtorEq, Nat.reduceLeDiff, implies_true, tk50, tsz9, tk9, ZA]; rfl) ?_) ?_
    show Tri _ _ _ _
    refine Y3 ok0 rfl (by repeat first | with_reducible exact Y2 | refine Y1 (by simp only [Y5, Y4, Y6, qev, St.ev, St.put, D.cells, qload, Y9, qmk, C.cpy, TK.agg, C.st, C.cp, C.dat, storeA, putCells, Nat.reduceAdd, if_true, ne_eq, reduceCtorEq, Nat.le_refl, implies_true, tk50, tsz50, ZA]; rfl) ?_) ?_
    refine Yo (Yp (by simp only [outRes, Yi, resD, outD, outC, outCs, qload, Y9, qmk, C.cpy, TK.agg, C.cp, C.dat, Nat.reduceAdd, if_true, tk50, tsz50, ZA]; rfl) rfl (by simp) (by simp) ?_)
    (simp only [reduceIte, ↓reduceIte, act0, actC, noText, names_none, hf1, w0] at hQ; with_reducible exact hQ)
  ·
    simp only [decide_eq_false_iff_not] at w0
    refine seq_in ?_
    refine Y3 ok0 rfl (by repeat first | with_reducible exact Y2 | refine Y1 (by simp only [Y5, Y4, Y6, qev, St.ev, St.put, qint, Yc, Ya, qbin, Y8, Y7, if_true, if_false, decide_false, w0, ZA]; rfl) ?_) ?_
    refine Yf rfl (fun w1 => ?_) (fun w1 => ?_)
    ·
      simp only [decide_eq_true_eq] at w1
      refine Ye ?_
      refine Yf rfl (fun w2 => ?_) (fun w2 => ?_)
      ·
        simp only [decide_eq_true_eq] at w2
        refine Yk ok0 rfl (by repeat first | with_reducible exact Y2 | refine Y1 (by simp only [Y5, Y4, Y6, qev, St.ev, St.put, D.cells, qload, Y9, qmk, C.cpy, TK.agg, Yb, liveR, C.st, C.cp, C.dat, storeA, putCells, Nat.reduceAdd, if_true, if_false, decide_true, ne_eq, reduceCtorEq, Nat.reduceLeDiff, implies_true, tk50, tsz9, w1, tk9, ZA]; rfl) ?_) ?_
        show Tri _ _ _ _
        refine Y3 ok0 rfl (by repeat first | with_reducible exact Y2 | refine Y1 (by simp only [Y5, Y4, Y6, qev, St.ev, St.put, D.cells, qload, Y9, qmk, C.cpy, TK.agg, C.st, C.cp, C.dat, storeA, putCells, Nat.reduceAdd, if_true, ne_eq, reduceCtorEq, Nat.le_refl, implies_true, tk50, tsz50, ZA]; rfl) ?_) ?_
        refine Yo (Yp (by simp only [outRes, Yi, resD, outD, outC, outCs, qload, Y9, qmk, C.cpy, TK.agg, C.cp, C.dat, Nat.reduceAdd, if_true, tk50, tsz50, ZA]; rfl) rfl (by simp) (by simp) ?_)
        (simp only [reduceIte, ↓reduceIte, Int.reduceEq, act0, actC, noText, flds_none, names_none, w1] at hQ; with_reducible exact hQ)
      ·
        simp only [decide_eq_false_iff_not] at w2
        (exfalso; omega)
    ·
      simp only [decide_eq_false_iff_not] at w1
      refine Yk ok0 rfl (by repeat first | with_reducible exact Y2 | refine Y1 (by simp only [Y5, Y4, Y6, qev, St.ev, St.put, qint, Yc, Ya, qbin, Y8, Y7, if_true, if_false, decide_false, w1, ZA]; rfl) ?_) ?_
      show Tri _ _ _ _
      refine Yf rfl (fun w3 => ?_) (fun w3 => ?_)
      ·
        simp only [decide_eq_true_eq] at w3
        refine Yk ok0 rfl (by repeat first | with_reducible exact Y2 | refine Y1 (by simp only [Y5, Y4, Y6, qev, St.ev, St.put, D.cells, qload, Y9, qmk, C.cpy, TK.agg, Yb, liveR, C.st, C.cp, C.dat, storeA, putCells, Nat.reduceAdd, if_true, if_false, decide_true, ne_eq, reduceCtorEq, Nat.reduceLeDiff, implies_true, tk50, tsz9, w3, tk9, ZA]; rfl) ?_) ?_
        show Tri _ _ _ _
        refine Y3 ok0 rfl (by repeat first | with_reducible exact Y2 | refine Y1 (by simp only [Y5, Y4, Y6, qev, St.ev, St.put, D.cells, qload, Y9, qmk, C.cpy, TK.agg, C.st, C.cp, C.dat, storeA, putCells, Nat.reduceAdd, if_true, ne_eq, reduceCtorEq, Nat.le_refl, implies_true, tk50, tsz50, ZA]; rfl) ?_) ?_
        refine Yo (Yp (by simp only [outRes, Yi, resD, outD, outC, outCs, qload, Y9, qmk, C.cpy, TK.agg, C.cp, C.dat, Nat.reduceAdd, if_true, tk50, tsz50, ZA]; rfl) rfl (by simp) (by simp) ?_)
        (simp only [reduceIte, ↓reduceIte, Int.reduceEq, act0, actC, noText, flds_none, names_none, w3] at hQ; with_reducible exact hQ)
      ·
        simp only [decide_eq_false_iff_not] at w3
        refine seq_in ?_
        refine Y3 ok0 rfl (by repeat first | with_reducible exact Y2 | refine Y1 (by simp only [Y5, Y4, Y6, qev, St.ev, St.put, qint, Yc, Ya, qbin, Y8, Y7, if_true, if_false, decide_false, w3, ZA]; rfl) ?_) ?_
        refine Yf rfl (fun w4 => ?_) (fun w4 => ?_)
        ·
          simp only [decide_eq_true_eq] at w4
          refine Ye ?_
          refine Yf rfl (fun w5 => ?_) (fun w5 => ?_)
          ·
            simp only [decide_eq_true_eq] at w5
            refine Y3 ok0 rfl (by repeat first | with_reducible exact Y2 | refine Y1 (by simp only [Y5, Y4, Y6, qev, St.ev, St.put, D.cells, qload, Y9, qmk, C.cpy, TK.agg, Yb, liveR, C.st, C.cp, C.dat, storeA, putCells, Nat.reduceAdd, if_true, if_false, decide_true, ne_eq, reduceCtorEq, Nat.reduceLeDiff, implies_true, tk50, tsz9, w4, tk9, ZA]; rfl) ?_) ?_
            refine Yk ok0 rfl (by repeat first | with_reducible exact Y2 | refine Y1 (by simp only [Y5, Y4, Y6, qev, St.ev, St.put, D.cells, qload, Y9, qmk, C.cpy, TK.agg, Yb, liveR, C.st, C.cp, C.dat, storeA, putCells, Nat.reduceAdd, if_true, if_false, ne_eq, reduceCtorEq, Nat.reduceLeDiff, implies_true, tk50, tsz9, tk9, ZA]; rfl) ?_) ?_
            show Tri _ _ _ _
            refine Y3 ok0 rfl (by repeat first | with_reducible exact Y2 | refine Y1 (by simp only [Y5, Y4, Y6, qev, St.ev, St.put, D.cells, qload, Y9, qmk, C.cpy, TK.agg, C.st, C.cp, C.dat, storeA, putCells, Nat.reduceAdd, if_true, ne_eq, reduceCtorEq, Nat.le_refl, implies_true, tk50, tsz50, ZA]; rfl) ?_) ?_
            refine Yo (Yp (by simp only [outRes, Yi, resD, outD, outC, outCs, qload, Y9, qmk, C.cpy, TK.agg, C.cp, C.dat, Nat.reduceAdd, if_true, tk50, tsz50, ZA]; rfl) rfl (by simp) (by simp) ?_)
            (simp only [reduceIte, ↓reduceIte, Int.reduceEq, act0, actC, noText, flds_none, names_none, w4] at hQ; with_reducible exact hQ)
          ·
            simp only [decide_eq_false_iff_not] at w5
            (exfalso; omega)
        ·
          simp only [decide_eq_false_iff_not] at w4
          refine Y3 ok0 rfl (by repeat first | with_reducible exact Y2 | refine Y1 (by simp only [Y5, Y4, Y6, qev, St.ev, St.put, qint, Yc, Ya, qbin, Y8, Y7, if_true, if_false, decide_false, w4, ZA]; rfl) ?_) ?_
          refine Yf rfl (fun w6 => ?_) (fun w6 => ?_)
          ·
            simp only [decide_eq_true_eq] at w6
            refine Ye ?_
            refine Yf rfl (fun w7 => ?_) (fun w7 => ?_)
            ·
              simp only [decide_eq_true_eq] at w7
              refine Y3 ok0 rfl (by repeat first | with_reducible exact Y2 | refine Y1 (by simp only [Y5, Y4, Y6, qev, St.ev, St.put, D.cells, qload, Y9, qmk, C.cpy, TK.agg, Yb, liveR, C.st, C.cp, C.dat, storeA, putCells, Nat.reduceAdd, if_true, if_false, decide_true, ne_eq, reduceCtorEq, Nat.reduceLeDiff, implies_true, tk50, tsz9, w6, tk9, ZA]; rfl) ?_) ?_
              refine Yk ok0 rfl (by repeat first | with_reducible exact Y2 | refine Y1 (by simp only [Y5, Y4, Y6, qev, St.ev, St.put, D.cells, qload, Y9, qmk, C.cpy, TK.agg, Yb, liveR, C.st, C.cp, C.dat, storeA, putCells, Nat.reduceAdd, if_true, if_false, ne_eq, reduceCtorEq, Nat.reduceLeDiff, implies_true, tk50, tsz9, tk9, ZA]; rfl) ?_) ?_
              show Tri _ _ _ _
              refine Y3 ok0 rfl (by repeat first | with_reducible exact Y2 | refine Y1 (by simp only [Y5, Y4, Y6, qev, St.ev, St.put, D.cells, qload, Y9, qmk, C.cpy, TK.agg, C.st, C.cp, C.dat, storeA, putCells, Nat.reduceAdd, if_true, ne_eq, reduceCtorEq, Nat.le_refl, implies_true, tk50, tsz50, ZA]; rfl) ?_) ?_
              refine Yo (Yp (by simp only [outRes, Yi, resD, outD, outC, outCs, qload, Y9, qmk, C.cpy, TK.agg, C.cp, C.dat, Nat.reduceAdd, if_true, tk50, tsz50, ZA]; rfl) rfl (by simp) (by simp) ?_)
              (simp only [reduceIte, ↓reduceIte, Int.reduceEq, act0, actC, noText, flds_none, names_none, w6] at hQ; with_reducible exact hQ)
            ·
              simp only [decide_eq_false_iff_not] at w7
              (exfalso; omega)
          ·
            simp only [decide_eq_false_iff_not] at w6
            refine Yk ok0 rfl (by repeat first | with_reducible exact Y2 | refine Y1 (by simp only [Y5, Y4, Y6, qev, St.ev, St.put, qint, Yc, Ya, qbin, Y8, Y7, if_true, if_false, decide_false, w6, ZA]; rfl) ?_) ?_
            show Tri _ _ _ _
            refine Yf rfl (fun w8 => ?_) (fun w8 => ?_)
            ·
              simp only [decide_eq_true_eq] at w8
              refine Y3 ok0 rfl (by repeat first | with_reducible exact Y2 | refine Y1 (by simp only [Y5, Y4, Y6, qev, St.ev, St.put, D.cells, qload, Y9, qmk, C.cpy, TK.agg, Yb, liveR, C.st, C.cp, C.dat, storeA, putCells, Nat.reduceAdd, if_true, if_false, decide_true, ne_eq, reduceCtorEq, Nat.reduceLeDiff, implies_true, tk50, tsz9, w8, tk9, ZA]; rfl) ?_) ?_
              refine Yk ok0 rfl (by repeat first | with_reducible exact Y2 | refine Y1 (by simp only [Y5, Y4, Y6, qev, St.ev, St.put, D.cells, qload, Y9, qmk, C.cpy, TK.agg, Yb, liveR, C.st, C.cp, C.dat, storeA, putCells, Nat.reduceAdd, if_true, if_false, ne_eq, reduceCtorEq, Nat.reduceLeDiff, implies_true, tk50, tsz9, tk9, ZA]; rfl) ?_) ?_
              show Tri _ _ _ _
              refine Y3 ok0 rfl (by repeat first | with_reducible exact Y2 | refine Y1 (by simp only [Y5, Y4, Y6, qev, St.ev, St.put, D.cells, qload, Y9, qmk, C.cpy, TK.agg, C.st, C.cp, C.dat, storeA, putCells, Nat.reduceAdd, if_true, ne_eq, reduceCtorEq, Nat.le_refl, implies_true, tk50, tsz50, ZA]; rfl) ?_) ?_
              refine Yo (Yp (by simp only [outRes, Yi, resD, outD, outC, outCs, qload, Y9, qmk, C.cpy, TK.agg, C.cp, C.dat, Nat.reduceAdd, if_true, tk50, tsz50, ZA]; rfl) rfl (by simp) (by simp) ?_)
              (simp only [reduceIte, ↓reduceIte, Int.reduceEq, act0, actC, noText, flds_none, names_none, w8] at hQ; with_reducible exact hQ)
            ·
              simp only [decide_eq_false_iff_not] at w8
              refine Y3 ok0 rfl (by repeat first | with_reducible exact Y2 | refine Y1 (by simp only [Y5, Y4, Y6, qev, St.ev, St.put, qint, Yc, Ya, qbin, Y8, Y7, if_true, if_false, decide_false, w8, ZA]; rfl) ?_) ?_
              refine Yf rfl (fun w9 => ?_) (fun w9 => ?_)
              ·
                simp only [decide_eq_true_eq] at w9
                refine Yk ok0 rfl (by repeat first | with_reducible exact Y2 | refine Y1 (by simp only [Y5, Y4, Y6, qev, St.ev, St.put, D.cells, qload, Y9, qmk, C.cpy, TK.agg, Yb, liveR, C.st, C.cp, C.dat, storeA, putCells, Nat.reduceAdd, if_true, if_false, decide_true, ne_eq, reduceCtorEq, Nat.reduceLeDiff, implies_true, tk50, tsz3, tk3, w9, ZA]; rfl) ?_) ?_
                show Tri _ _ _ _
                refine Y3 ok0 rfl (by repeat first | with_reducible exact Y2 | refine Y1 (by simp only [Y5, Y4, Y6, qev, St.ev, St.put, D.cells, qload, Y9, qmk, C.cpy, TK.agg, C.st, C.cp, C.dat, storeA, putCells, Nat.reduceAdd, if_true, ne_eq, reduceCtorEq, Nat.le_refl, implies_true, tk50, tsz50, ZA]; rfl) ?_) ?_
                refine Yo (Yp (by simp only [outRes, Yi, resD, outD, outC, outCs, qload, Y9, qmk, C.cpy, TK.agg, C.cp, C.dat, Nat.reduceAdd, if_true, tk50, tsz50, ZA]; rfl) rfl (by simp) (by simp) ?_)
                (simp only [reduceIte, ↓reduceIte, Int.reduceEq, act0, actC, noText, flds_none, names_none, w9] at hQ; with_reducible exact hQ)
              ·
                simp only [decide_eq_false_iff_not] at w9
                refine Y3 ok0 rfl (by repeat first | with_reducible exact Y2 | refine Y1 (by simp only [Y5, Y4, Y6, qev, St.ev, St.put, qint, Yc, Ya, qbin, Y8, Y7, if_true, if_false, decide_false, w9, ZA]; rfl) ?_) ?_
                refine Yf rfl (fun w10 => ?_) (fun w10 => ?_)
                ·
                  simp only [decide_eq_true_eq] at w10
                  refine Y3 ok0 rfl (by repeat first | with_reducible exact Y2 | refine Y1 (by simp only [Y5, Y4, Y6, qev, St.ev, St.put, D.cells, qload, Y9, qmk, C.cpy, TK.agg, Yb, liveR, C.st, C.cp, C.dat, storeA, putCells, Nat.reduceAdd, if_true, if_false, decide_true, ne_eq, reduceCtorEq, Nat.reduceLeDiff, implies_true, tk50, tsz37, w10, tk37, ZA]; rfl) ?_) ?_
                  refine Yk ok0 rfl (by repeat first | with_reducible exact Y2 | refine Y1 (by simp only [Y5, Y4, Y6, qev, St.ev, St.put, D.cells, qload, Y9, qmk, C.cpy, TK.agg, Yb, liveR, C.st, C.cp, C.dat, storeA, putCells, Nat.reduceAdd, if_true, if_false, ne_eq, reduceCtorEq, Nat.le_refl, implies_true, tk50, tsz3, tk3, ZA]; rfl) ?_) ?_
                  show Tri _ _ _ _
                  refine Y3 ok0 rfl (by repeat first | with_reducible exact Y2 | refine Y1 (by simp only [Y5, Y4, Y6, qev, St.ev, St.put, D.cells, qload, Y9, qmk, C.cpy, TK.agg, C.st, C.cp, C.dat, storeA, putCells, Nat.reduceAdd, if_true, ne_eq, reduceCtorEq, Nat.le_refl, implies_true, tk50, tsz50, ZA]; rfl) ?_) ?_
                  refine Yo (Yp (by simp only [outRes, Yi, resD, outD, outC, outCs, qload, Y9, qmk, C.cpy, TK.agg, C.cp, C.dat, Nat.reduceAdd, if_true, tk50, tsz50, ZA]; rfl) rfl (by simp) (by simp) ?_)
                  (simp only [reduceIte, ↓reduceIte, Int.reduceEq, act0, actC, noText, flds_none, names_none, w10] at hQ; with_reducible exact hQ)
                ·
                  simp only [decide_eq_false_iff_not] at w10
                  refine Y3 ok0 rfl (by repeat first | with_reducible exact Y2 | refine Y1 (by simp only [Y5, Y4, Y6, qev, St.ev, St.put, qint, Yc, Ya, qbin, Y8, Y7, if_true, if_false, decide_false, w10, ZA]; rfl) ?_) ?_
                  refine Yf rfl (fun w11 => ?_) (fun w11 => ?_)
                  ·
                    simp only [decide_eq_true_eq] at w11
                    refine Y3 ok0 rfl (by repeat first | with_reducible exact Y2 | refine Y1 (by simp only [Y5, Y4, Y6, qev, St.ev, St.put, D.cells, qload, Y9, qmk, C.cpy, TK.agg, Yb, liveR, C.st, C.cp, C.dat, storeA, putCells, Nat.reduceAdd, if_true, if_false, decide_true, ne_eq, reduceCtorEq, Nat.reduceLeDiff, implies_true, tk50, tsz3, tk3, w11, ZA]; rfl) ?_) ?_
                    refine Y3 ok0 rfl (by repeat first | with_reducible exact Y2 | refine Y1 (by simp only [Y5, Y4, Y6, qev, St.ev, St.put, D.cells, qload, Y9, qmk, C.cpy, TK.agg, Yb, liveR, C.st, C.cp, C.dat, storeA, putCells, Nat.reduceAdd, if_true, if_false, ne_eq, reduceCtorEq, Nat.reduceLeDiff, implies_true, tk50, tsz37, tk37, ZA]; rfl) ?_) ?_
                    refine Yk ok0 rfl (by repeat first | with_reducible exact Y2 | refine Y1 (by simp only [Y5, Y4, Y6, qev, St.ev, St.put, D.cells, qload, Y9, qmk, C.cpy, TK.agg, Yb, liveR, C.st, C.cp, C.dat, storeA, putCells, Nat.reduceAdd, if_true, if_false, ne_eq, reduceCtorEq, Nat.le_refl, implies_true, tk50, tsz3, tk3, ZA]; rfl) ?_) ?_
                    show Tri _ _ _ _
                    refine Y3 ok0 rfl (by repeat first | with_reducible exact Y2 | refine Y1 (by simp only [Y5, Y4, Y6, qev, St.ev, St.put, D.cells, qload, Y9, qmk, C.cpy, TK.agg, C.st, C.cp, C.dat, storeA, putCells, Nat.reduceAdd, if_true, ne_eq, reduceCtorEq, Nat.le_refl, implies_true, tk50, tsz50, ZA]; rfl) ?_) ?_
                    refine Yo (Yp (by simp only [outRes, Yi, resD, outD, outC, outCs, qload, Y9, qmk, C.cpy, TK.agg, C.cp, C.dat, Nat.reduceAdd, if_true, tk50, tsz50, ZA]; rfl) rfl (by simp) (by simp) ?_)
                    (simp only [reduceIte, ↓reduceIte, Int.reduceEq, act0, actC, noText, flds_none, names_none, w11] at hQ; with_reducible exact hQ)
                  ·
                    simp only [decide_eq_false_iff_not] at w11
                    refine Y3 ok0 rfl (by repeat first | with_reducible exact Y2 | refine Y1 (by simp only [Y5, Y4, Y6, qev, St.ev, St.put, qint, Yc, Ya, qbin, Y8, Y7, if_true, if_false, decide_false, w11, ZA]; rfl) ?_) ?_
                    refine Yf rfl (fun w12 => ?_) (fun w12 => ?_)
                    ·
                      simp only [decide_eq_true_eq] at w12
                      refine Y3 ok0 rfl (by repeat first | with_reducible exact Y2 | refine Y1 (by simp only [Y5, Y4, Y6, qev, St.ev, St.put, D.cells, qload, Y9, qmk, C.cpy, TK.agg, Yb, liveR, C.st, C.cp, C.dat, storeA, putCells, Nat.reduceAdd, if_true, if_false, decide_true, ne_eq, reduceCtorEq, Nat.reduceLeDiff, implies_true, tk50, tsz9, w12, tk9, ZA]; rfl) ?_) ?_
                      refine Y3 ok0 rfl (by repeat first | with_reducible exact Y2 | refine Y1 (by simp only [Y5, Y4, Y6, qev, St.ev, St.put, D.cells, qload, Y9, qmk, C.cpy, TK.agg, Yb, liveR, C.st, C.cp, C.dat, storeA, putCells, Nat.reduceAdd, if_true, if_false, ne_eq, reduceCtorEq, Nat.reduceLeDiff, implies_true, tk50, tk28, tsz28, ZA]; rfl) ?_) ?_
                      refine Yk ok0 rfl (by repeat first | with_reducible exact Y2 | refine Y1 (by simp only [Y5, Y4, Y6, qev, St.ev, St.put, D.cells, qload, Y9, qmk, C.cpy, TK.agg, Yb, liveR, C.st, C.cp, C.dat, storeA, putCells, Nat.reduceAdd, if_true, if_false, ne_eq, reduceCtorEq, Nat.reduceLeDiff, implies_true, tk50, tsz3, tk3, ZA]; rfl) ?_) ?_
                      show Tri _ _ _ _
                      refine Y3 ok0 rfl (by repeat first | with_reducible exact Y2 | refine Y1 (by simp only [Y5, Y4, Y6, qev, St.ev, St.put, D.cells, qload, Y9, qmk, C.cpy, TK.agg, C.st, C.cp, C.dat, storeA, putCells, Nat.reduceAdd, if_true, ne_eq, reduceCtorEq, Nat.le_refl, implies_true, tk50, tsz50, ZA]; rfl) ?_) ?_
                      refine Yo (Yp (by simp only [outRes, Yi, resD, outD, outC, outCs, qload, Y9, qmk, C.cpy, TK.agg, C.cp, C.dat, Nat.reduceAdd, if_true, tk50, tsz50, ZA]; rfl) rfl (by simp) (by simp) ?_)
                      (simp only [reduceIte, ↓reduceIte, Int.reduceEq, act0, actC, noText, flds_none, hf2, w12] at hQ; with_reducible exact hQ)
                    ·
                      simp only [decide_eq_false_iff_not] at w12
                      refine Y3 ok0 rfl (by repeat first | with_reducible exact Y2 | refine Y1 (by simp only [Y5, Y4, Y6, qev, St.ev, St.put, qint, Yc, Ya, qbin, Y8, Y7, if_true, if_false, decide_false, w12, ZA]; rfl) ?_) ?_
                      refine Yf rfl (fun w13 => ?_) (fun w13 => ?_)
                      ·
                        simp only [decide_eq_true_eq] at w13
                        refine Y3 ok0 rfl (by repeat first | with_reducible exact Y2 | refine Y1 (by simp only [Y5, Y4, Y6, qev, St.ev, St.put, D.cells, qload, Y9, qmk, C.cpy, TK.agg, Yb, liveR, C.st, C.cp, C.dat, storeA, putCells, Nat.reduceAdd, if_true, if_false, decide_true, ne_eq, reduceCtorEq, Nat.reduceLeDiff, implies_true, tk50, tsz3, tk3, w13, ZA]; rfl) ?_) ?_
                        refine Yk ok0 rfl (by repeat first | with_reducible exact Y2 | refine Y1 (by simp only [Y5, Y4, Y6, qev, St.ev, St.put, D.cells, qload, Y9, qmk, C.cpy, TK.agg, Yb, liveR, C.st, C.cp, C.dat, storeA, putCells, Nat.reduceAdd, if_true, if_false, ne_eq, reduceCtorEq, Nat.reduceLeDiff, implies_true, tk50, tsz3, tk3, ZA]; rfl) ?_) ?_
                        show Tri _ _ _ _
                        refine Y3 ok0 rfl (by repeat first | with_reducible exact Y2 | refine Y1 (by simp only [Y5, Y4, Y6, qev, St.ev, St.put, D.cells, qload, Y9, qmk, C.cpy, TK.agg, C.st, C.cp, C.dat, storeA, putCells, Nat.reduceAdd, if_true, ne_eq, reduceCtorEq, Nat.le_refl, implies_true, tk50, tsz50, ZA]; rfl) ?_) ?_
                        refine Yo (Yp (by simp only [outRes, Yi, resD, outD, outC, outCs, qload, Y9, qmk, C.cpy, TK.agg, C.cp, C.dat, Nat.reduceAdd, if_true, tk50, tsz50, ZA]; rfl) rfl (by simp) (by simp) ?_)
                        (simp only [reduceIte, ↓reduceIte, Int.reduceEq, act0, actC, noText, flds_none, names_none, w13] at hQ; with_reducible exact hQ)
                      ·
                        simp only [decide_eq_false_iff_not] at w13
                        refine tri_skip ?_
                        show Tri _ _ _ _
                        refine Y3 ok0 rfl (by repeat first | with_reducible exact Y2 | refine Y1 (by simp only [Y5, Y4, Y6, qev, St.ev, St.put, D.cells, qload, Y9, qmk, C.cpy, TK.agg, C.st, C.cp, C.dat, storeA, putCells, Nat.reduceAdd, if_true, decide_false, ne_eq, reduceCtorEq, Nat.le_refl, implies_true, tk50, tsz50, w13, ZA]; rfl) ?_) ?_
                        refine Yo (Yp (by simp only [outRes, Yi, resD, outD, outC, outCs, qload, Y9, qmk, C.cpy, TK.agg, C.cp, C.dat, Nat.reduceAdd, if_true, tk50, tsz50, ZA]; rfl) rfl (by simp) (by simp) ?_)
                        (simp only [reduceIte, ↓reduceIte, act0, actC, noText, flds_none, names_none, w0, w1, w3, w4, w6, w8, w9, w10, w11, w12, w13] at hQ; with_reducible exact hQ)
end Go.Dl
