/- The walk of the next token; The walk of Tokens (texts without quotes); The walks of the parser's small functions; The walks of the parser's peek, take, mark. -/
import Derived.Test.YtbefgbljlmnfoaaE09
import Derived.Test.YtbefgbljlmnfoaaE08
namespace Go.Dl
open Go.RowKit
open Go.Proofs
set_option linter.unusedSimpArgs false
set_option linter.unusedVariables false

theorem quoteN_le : ∀ (n : Nat) (s : ByteArray) (p : Nat) (acc : List UInt8), p ≤ s.size → p ≤ (quoteN n s p acc).2.2 ∧ (quoteN n s p acc).2.2 ≤ s.size ∧ (quoteN n s p acc).1.size ≤ acc.length + (s.size - p) ∧ ((quoteN n s p acc).2.1 = true → p < (quoteN n s p acc).2.2)
  | 0, s, p, acc, hp => ⟨Nat.le_refl _, hp, Nat.zero_le _, fun h => by cases h⟩
  | n + 1, s, p, acc, hp => by
    have hno : noText.size = 0 := rfl
    simp only [quoteN]
    split
    · rename_i h0
      have h0' : p < s.size := by omega
      split
      · refine ⟨by simp, by simp; omega, ?_, fun _ => by simp⟩
        show acc.toArray.size ≤ _
        simp
      split
      · split
        · simp [hno]; omega
        split
        · split
          · split
            · simp [hno]; omega
            · rename_i h5 _
              have hL : p + 4 ≤ s.size := by
                unfold escF at h5
                split at h5
                · cases h5
                · rename_i h2
                  simp at h2
                  omega
              obtain ⟨a, b, c, d⟩ := quoteN_le n s (p + 4) (acc ++ [escB (s.extract (p + 2) s.size)]) hL
              simp only [List.length_append, Z9, Z10] at c
              exact ⟨by omega, b, by omega, fun h => by have := d h; omega⟩
          · simp [hno]; omega
        · simp [hno]; omega
      split
      · obtain ⟨a, b, c, d⟩ := quoteN_le n s (p + 1) (acc ++ [byU s p]) (by omega)
        simp only [List.length_append, Z9, Z10] at c
        exact ⟨by omega, b, by omega, fun h => by have := d h; omega⟩
      · simp [hno]; omega
    · simp [hno]; omega
theorem quoteF_le (s : ByteArray) (p : Nat) (h : p < s.size) : p < (quoteF s p).2.2 ∧ (quoteF s p).2.2 ≤ s.size := by
  obtain ⟨a, b, c, d⟩ := quoteN_le (s.size + 1) s (p + 1) [] (by omega)
  exact ⟨by show p < (quoteN _ _ _ _).2.2; omega, b⟩
theorem quoteF_size (s : ByteArray) (p : Nat) (h : p < s.size) : (quoteF s p).1.size ≤ s.size := by
  obtain ⟨a, b, c, d⟩ := quoteN_le (s.size + 1) s (p + 1) [] (by omega)
  have : (quoteN (s.size + 1) s (p + 1) []).1.size ≤ s.size := by simp only [Z10] at c; omega
  exact this

theorem quote_at (s : ByteArray) (p : Nat) (hs : s.size ≤ 1000000) (hp : p < s.size) : oQuote [.c (.p 0 0 0)] [⟨2, [[.v (.string s), .v (.int .i64 p)]]⟩] =
    some (.t [.c (.v (.string (quoteF s p).1)), .c (.v (.bool (quoteF s p).2.1))], [⟨2, [[.v (.string s), .v (.int .i64 (quoteF s p).2.2)]]⟩]) :=
  famO_at (by
    rintro ⟨a, b⟩ ⟨c, d⟩ h
    simp only [lxObj, Prod.mk.injEq, List.cons.injEq, C.v.injEq, Value.string.injEq, Value.int.injEq, Obj.mk.injEq, true_and, and_true] at h
    obtain ⟨rfl, h⟩ := h
    have : b = d := by omega
    subst this; rfl) (s, p) ⟨hs, hp⟩ rfl

noncomputable def FsQ : Fs := { Fs.none with objs := fun k => if k = 57 then some oQuote else none }
theorem okQ : FsOK Try.prog FsQ := by
  refine ⟨fun _ _ h => (by cases h), fun k f h => ?_⟩
  simp only [FsQ] at h
  split at h
  · rename_i hk; subst hk; cases h; exact ⟨by kernel_rfl, meets57⟩
  · cases h

/-- The next token: the token, whether there is one, the error, the place behind it (quotes are left out here). -/
def nextF (s : ByteArray) (p : Nat) : Option (Tok × Bool × Int × Nat) :=
  if blkF s p = s.size then some ((0, noText, 0), false, 0, blkF s p)
  else if isLetter (byt s (blkF s p)) = true then some ((0, s.extract (blkF s p) (runF isWordC s (blkF s p)), blkF s p), true, 0, runF isWordC s (blkF s p))
  else if isDigit (byt s (blkF s p)) = true ∨ byt s (blkF s p) = 45 then
    (if strEq (s.extract (blkF s p) (blkF s p + 1) ++ s.extract (blkF s p + 1) (runF isDigit s (blkF s p + 1))) dash = true then some ((0, noText, blkF s p), false, 4, runF isDigit s (blkF s p + 1))
     else some ((1, s.extract (blkF s p) (blkF s p + 1) ++ s.extract (blkF s p + 1) (runF isDigit s (blkF s p + 1)), blkF s p), true, 0, runF isDigit s (blkF s p + 1)))
  else if byt s (blkF s p) = 34 then (if (quoteF s (blkF s p)).2.1 = true then some ((2, (quoteF s (blkF s p)).1, blkF s p), true, 0, (quoteF s (blkF s p)).2.2) else some ((0, noText, blkF s p), false, 4, (quoteF s (blkF s p)).2.2))
  else if 0 ≤ idxB marks (byt s (blkF s p)) then some ((3, s.extract (blkF s p) (blkF s p + 1), blkF s p), true, 0, blkF s p + 1)
  else some ((0, noText, blkF s p), false, 4, blkF s p)

def oNext : List D → List Obj → Option (D × List Obj)
  | [.c (.p 0 0 0)], [⟨2, [[.v (.string s), .v (.int .i64 (.ofNat p))]]⟩] => if s.size ≤ 1000000 ∧ p ≤ s.size then
      (nextF s p).map fun r => (.t [.agg (tokC r.1), dB r.2.1, .c (.v (.int .i64 r.2.2.1))], [lxObj s r.2.2.2]) else none
  | _, _ => none


set_option maxHeartbeats 2000000 in
theorem meets28 : Meets Try.prog 28 (detS oNext) := by
  refine meets_of_tri (show Try.prog.funcs[28]? = some Try.f28 by kernel_rfl) rfl (n := 131) rfl (rs := [ResultVar.cell 2 33, ResultVar.tmp 3, ResultVar.tmp 4]) rfl ?_
  rintro args objs Q ⟨d, os, hd, hQ⟩
  unfold oNext at hd
  split at hd
  · rename_i s p
    split at hd
    · rename_i hc
      obtain ⟨hs, hp⟩ := hc
      have hB := blk_eq hs hp
      have hql := (blkF_le s p hp).2
      unfold nextF at hd
      generalize blkF s p = q at hB hql hd
      refine seq_run ok0 rfl (by repeat (first | with_reducible exact runf_nil | refine runf_cons (by simp only [xstep, stepf, stepx, qev, St.ev, St.put, St.with, boxA, C.st, constD, constC, Z5, Z6, List.replicate, Z9, Z10, Z23, Z12, Z13, Z24, Z16, Z18, Z8, Z4, Nat.reduceAdd, Nat.reduceSub, if_true, Z3, Z14, Z26, tz33]; rfl) ?_)) ?_
      refine seq_run okL5 rfl (by repeat (first | with_reducible exact runf_nil | refine runf_cons (by simp only [xstep, stepf, stepx, evsA, qev, St.ev, St.put, St.with, D.cell, C.dat, Z1, Z2, Z5, Z6, Z9, Z10, Z12, Z15, Z13, Z16, Z18, Z8, Z4, Bool.and_true, Nat.reduceEqDiff, if_true, if_false, and_self, Z3, Z7, Z14, beq_self_eq_true, Z26, Bool.true_or, Int.ofNat_eq_natCast, callP, callO, dedup, rootsD, rootsC, List.flatMap_cons, List.flatMap_nil, List.filterMap_cons, List.filterMap_nil, argDs, argD, argC, List.contains_nil, objsAt, objOf, List.idxOf?, List.findIdx?, List.findIdx?.go, setObjs, settle, settleDs, Z25, FsL5, hB]; rfl) ?_)) ?_
      by_cases hend : q = s.size
      · rw [if_pos hend] at hd
        cases hd
        refine seq_in (seq_any mixed ok0 rfl (by kernel_rfl) (by repeat (first | with_reducible exact runf_nil | refine runf_cons (by simp only [xstep, stepf, stepx, qev, St.ev, St.put, qload, cellsAt, qmk, C.cpy, TK.agg, qnil, qfieldAddr, qint, qshift, isShift, qbin, qlen, qbuiltin, liveR, C.cp, Z1, Z2, Z5, Z6, Z9, Z10, Z13, Z24, Z16, Z18, Z17, Z20, Z19, Z21, Z8, Z4, Z11, if_true, if_false, and_self, decide_true, Z3, reduceCtorEq, Z7, Nat.add_zero, Z14, Z26, tk3, tsz3, tk9, tsz9, tk61, show ((q : Int) = (s.size : Int)) = True from eq_true (by omega)]; rfl) ?_)) ?_)
        refine tri_cond rfl (fun _ => ?_) (fun h => by cases h)
        refine seq_run ok0 rfl (by repeat (first | with_reducible exact runf_nil | refine runf_cons (by simp only [xstep, stepf, stepx, qev, St.ev, St.put, D.cells, C.st, C.dat, storeA, putCells, constD, constC, Z1, Z2, Z5, Z6, Z9, Z10, Z12, Z15, Z16, Z18, Z20, Z19, Z21, Z8, Z4, Nat.reduceAdd, if_true, and_self, Z3, ne_eq, not_false_eq_true, reduceCtorEq, Nat.le_refl, Nat.reduceBNe, Z7, implies_true, Z14, Z26, tsz3, tsz9, tk33, tsz33, tz33, buildA, partsA, fillA]; rfl) ?_)) ?_
        refine tri_ret (ends_ret (by simp only [outRes, resDs, resD, outDs, outD, outC, outCs, tk33, tsz33, qload, cellsAt, qmk, C.cpy, TK.agg, C.cp, C.dat, Z1, Z2, Z9, Z10, Z15, Z13, Z24, Z16, Z18, Z17, Z20, Z21, Z8, Z4, Nat.reduceAdd, if_true, and_self, Z3, Z14, Z26]; rfl) rfl (by simp) (by simp) ?_)
        exact hQ
      · rw [if_neg hend] at hd
        have hqs : q < s.size := by omega
        have hlt : ((q : Int) < (s.size : Int)) = True := eq_true (by omega)
        have hw := wrap_succ q s.size hqs (by unfold maxStr; omega)
        refine seq_in (seq_any mixed ok0 rfl (by kernel_rfl) (by repeat (first | with_reducible exact runf_nil | refine runf_cons (by simp only [xstep, stepf, stepx, qev, St.ev, St.put, qload, cellsAt, qmk, C.cpy, TK.agg, qnil, qfieldAddr, qint, qshift, isShift, qbin, qlen, qbuiltin, liveR, C.cp, Z1, Z2, Z5, Z6, Z9, Z10, Z13, Z24, Z16, Z18, Z17, Z20, Z19, Z21, Z8, Z4, Z11, if_true, if_false, and_self, decide_false, Z3, reduceCtorEq, Z7, Nat.add_zero, Z14, Z26, tk3, tsz3, tk9, tsz9, tk61, show ((q : Int) = (s.size : Int)) = False from eq_false (by omega)]; rfl) ?_)) ?_)
        refine tri_cond rfl (fun h => by cases h) (fun _ => then_skip ?_)
        refine seq_run ok0 rfl (by repeat (first | with_reducible exact runf_nil | refine runf_cons (by simp only [xstep, stepf, stepx, qev, St.ev, St.put, St.with, D.cells, boxA, qload, cellsAt, qmk, C.cpy, TK.agg, qnil, qfieldAddr, liveR, C.st, C.cp, C.dat, storeA, putCells, Z1, Z2, Z5, Z6, Z9, Z10, Z23, Z12, Z15, Z13, Z24, Z16, Z18, Z17, Z20, Z19, Z21, Z8, Z4, Nat.reduceAdd, if_true, if_false, and_self, Z3, ne_eq, not_false_eq_true, reduceCtorEq, Nat.le_refl, Nat.reduceBNe, Z7, implies_true, Z14, Z26, tk3, tsz3, tsz9, tk33, tsz33, tz33, tk61, buildA, partsA, fillA, placeSt]; rfl) ?_)) ?_
        obtain ⟨c, hcb⟩ : ∃ c, (((s.data.toList.getD q 0).toNat : Nat) : Int) = c := ⟨_, rfl⟩
        simp only [byt, hcb] at hd
        refine seq_in (seq_any mixed ok0 rfl (by kernel_rfl) (by repeat (first | with_reducible exact runf_nil | refine runf_cons (by simp only [xstep, stepf, stepx, qev, St.ev, St.put, D.int, qload, cellsAt, qmk, C.cpy, TK.agg, qnil, qfieldAddr, qindex, liveR, C.cp, Z1, Z2, Z5, Z6, Z9, Z10, Z13, Z24, Z16, Z18, Z17, Z20, Z19, Z21, Z8, Z4, if_true, if_false, and_self, Z3, reduceCtorEq, Z7, Nat.add_zero, Z14, Z26, tk3, tsz3, tk9, tsz9, tk61, Int.toNat_natCast, Int.natCast_nonneg, hlt, hcb]; rfl) ?_)) ?_)
        refine tri_block ?_
        have hL : pU8 isLetter [.c (.v (.int .u8 c))] = some (.c (.v (.bool (isLetter c)))) := rfl
        have hD : pU8 isDigit [.c (.v (.int .u8 c))] = some (.c (.v (.bool (isDigit c)))) := rfl
        have hI : pIdxB [.c (.v (.string ⟨#[61, 44, 40, 41, 91, 93, 59]⟩)), .c (.v (.int .u8 c))] = some (.c (.v (.int .i64 (idxB marks c)))) := rfl
        by_cases hl : isLetter c = true
        · rw [if_pos hl] at hd
          cases hd
          rw [hl] at hL
          have hR := run_eq (k := 55) (f := isWordC) rfl hs hql
          refine seq_run okL5 rfl (by repeat (first | with_reducible exact runf_nil | refine runf_cons (by simp only [xstep, stepf, stepx, evsA, qev, St.ev, St.put, St.with, C.cpy, C.cp, C.dat, Z1, Z2, Z5, Z6, Z15, Z13, Z4, Nat.reduceEqDiff, if_true, if_false, Z3, Z26, Bool.true_or, callP, argDs, argD, argC, settle, settle1, settleC, Z25, FsL5, hL]; rfl) ?_)) ?_
          refine tri_cond rfl (fun _ => ?_) (fun h => by cases h)
          refine run_end okL5 rfl (by repeat (first | with_reducible exact runf_nil | refine runf_cons (by simp only [xstep, stepf, stepx, evsA, qev, St.ev, St.put, St.with, D.cells, D.cell, qfieldAddr, liveR, C.st, C.dat, storeA, putCells, constD, constC, Z1, Z2, Z5, Z6, Z9, Z10, Z23, Z12, Z15, Z13, Z16, Z18, Z17, Z20, Z19, Z21, Z8, Z4, Bool.and_true, Nat.reduceAdd, Nat.reduceEqDiff, if_true, if_false, and_self, Z3, ne_eq, not_false_eq_true, reduceCtorEq, Nat.reduceLeDiff, Z7, implies_true, Nat.add_zero, Z14, beq_self_eq_true, Z26, Bool.true_or, tsz3, tsz9, tk33, callP, callO, dedup, rootsD, rootsC, List.flatMap_cons, List.flatMap_nil, List.filterMap_cons, List.filterMap_nil, argDs, argD, argC, List.contains_nil, objsAt, objOf, List.idxOf?, List.findIdx?, List.findIdx?.go, setObjs, settle, settle1, settleC, Z25, FsL5, hR]; rfl) ?_)) ?_
          refine seq_run ok0 rfl (by repeat (first | with_reducible exact runf_nil | refine runf_cons (by simp only [xstep, stepf, stepx, qev, St.ev, St.put, D.cells, qload, cellsAt, qmk, C.cpy, TK.agg, C.st, C.cp, C.dat, storeA, putCells, constD, constC, Z1, Z2, Z5, Z6, Z9, Z10, Z12, Z15, Z13, Z24, Z16, Z18, Z17, Z20, Z19, Z21, Z8, Z4, Nat.reduceAdd, if_true, and_self, Z3, ne_eq, not_false_eq_true, reduceCtorEq, Nat.le_refl, Z7, implies_true, Z14, Z26, tk33, tsz33]; rfl) ?_)) ?_
          refine tri_ret (ends_ret (by simp only [outRes, resDs, resD, outDs, outD, outC, outCs, tk33, tsz33, qload, cellsAt, qmk, C.cpy, TK.agg, C.cp, C.dat, Z1, Z2, Z9, Z10, Z15, Z13, Z24, Z16, Z18, Z17, Z20, Z21, Z8, Z4, Nat.reduceAdd, if_true, and_self, Z3, Z14, Z26]; rfl) rfl (by simp) (by simp) ?_)
          exact hQ
        · rw [if_neg hl] at hd
          have hl : isLetter c = false := by cases h : isLetter c <;> simp_all
          rw [hl] at hL
          refine seq_run okL5 rfl (by repeat (first | with_reducible exact runf_nil | refine runf_cons (by simp only [xstep, stepf, stepx, evsA, qev, St.ev, St.put, St.with, C.cpy, C.cp, C.dat, Z1, Z2, Z5, Z6, Z15, Z13, Z4, Nat.reduceEqDiff, if_true, if_false, Z3, Z26, Bool.true_or, callP, argDs, argD, argC, settle, settle1, settleC, Z25, FsL5, hL]; rfl) ?_)) ?_
          refine tri_cond rfl (fun h => by cases h) (fun _ => ?_)
          refine seq_cut (fun A' => A'.Le ⟨[.c (.p 0 0 0), .top, .c (.p 1 0 0), .top, .top, .c (.p 2 0 0), .c (.v (.int .u8 c)), .top, .top, .top, .top, .top, .top, .top, .top, .top, .top, .top, .top, .top, .top, .top, .top, .top, .top, .top, .top, .top, .top, .top, .top, .top, .top, .top, .top, .top, .top, .top, .top, .top, .top, .top, .top, .top, .top, .top, .top, dB (isDigit c || decide (c = 45)), .top, .top, .top, .top, .top, .top, .top, .top, .top, .top, .top, .top, .top, .top, .top, .top, .top, .top, .top, .top, .top, .top, .top, .top, .top, .top, .top, .top, .top, .top, .top, .top, .top, .top, .top, .top, .top, .top, .top, .top, .top, .top, .top, .top, .top, .top, .top, .top, .top, .top, .top, .top, .top, .top, .top, .top, .top, .top, .top, .top, .top, .top, .top, .top, .top, .top, .top, .top, .top, .top, .top, .top, .top, .top, .top, .top, .top, .top, .top, .top, .top, .top, .top],
              [some ⟨false, 2, [[.v (.string s), .v (.int .i64 q)]]⟩, some ⟨false, 3, [[.v (.int .i64 0), .v (.string ⟨#[]⟩), .v (.int .i64 0)]]⟩, some ⟨false, 3, [[.v (.int .i64 0), .v (.string ⟨#[]⟩), .v (.int .i64 q)]]⟩]⟩) ?_ ?_
          · intro A' hle
            refine tri_le hle ?_
            refine tri_cond rfl (fun hdd => ?_) (fun hdd => ?_)
            · -- a number
              have hdc : isDigit c = true ∨ c = 45 := by simpa using hdd
              rw [if_pos hdc] at hd
              have hR := run_eq (k := 56) (f := isDigit) (p := q + 1) rfl hs hqs
              obtain ⟨g1, g2⟩ := runF_le isDigit s (q + 1) hqs
              generalize runF isDigit s (q + 1) = r at hR hd g1 g2
              have hw1 : IntKind.wrap .i64 (((q + 1 : Nat) : Int) - 1) = (q : Int) := by rw [wrap_i64 _ (by omega) (by omega)]; omega
              have hz : ∀ a b : ByteArray, a = s.extract q (q + 1) → b = s.extract (q + 1) r → a.size + b.size ≤ maxStr := by
                rintro _ _ rfl rfl
                simp only [ByteArray.size_extract]
                unfold maxStr; omega
              refine seq_run ok0 rfl (by repeat (first | with_reducible exact runf_nil | refine runf_cons (by simp only [xstep, stepf, stepx, qev, St.ev, St.put, D.cells, qload, cellsAt, qmk, C.cpy, TK.agg, qnil, qfieldAddr, qint, qshift, isShift, qbin, liveR, C.st, C.cp, C.dat, storeA, putCells, constD, constC, Z1, Z2, Z5, Z6, Z9, Z10, Z23, Z12, Z15, Z13, Z24, Z16, Z18, Z17, Z20, Z19, Z21, Z8, Z4, Z11, Nat.reduceAdd, if_true, if_false, and_self, Z3, ne_eq, not_false_eq_true, reduceCtorEq, Nat.le_refl, Z7, implies_true, Z14, Z26, dB, tk3, tsz3, tk61, hw]; rfl) ?_)) ?_
              refine seq_any mixed ok0 rfl (by kernel_rfl) (by repeat (first | with_reducible exact runf_nil | refine runf_cons (by simp only [xstep, stepf, stepx, qev, St.ev, St.put, D.int, qload, cellsAt, qmk, C.cpy, TK.agg, qnil, qfieldAddr, qint, qshift, isShift, qbin, qbounds, qslice, omap, liveR, C.cp, constD, constC, Z1, Z2, Z5, Z6, Z9, Z10, Z13, Z24, Z16, Z18, Z17, Z20, Z19, Z21, Z8, Z4, Z11, if_true, if_false, and_self, Z3, reduceCtorEq, Z7, Nat.add_zero, Z14, Z26, tk3, tsz3, tk9, tsz9, tk61, Int.toNat_natCast, Int.natCast_nonneg, qbounds, D.int, hw1, show (q : Int) ≤ ((q + 1 : Nat) : Int) from by omega, show ((q + 1 : Nat) : Int) ≤ (s.size : Int) from by omega]; rfl) ?_)) ?_
              refine seq_run okL5 rfl (by repeat (first | with_reducible exact runf_nil | refine runf_cons (by simp only [xstep, stepf, stepx, evsA, qev, St.ev, St.put, St.with, D.cells, D.cell, qfieldAddr, qstr, qbin, liveR, C.st, C.dat, storeA, putCells, constD, constC, Z1, Z2, Z5, Z6, Z9, Z10, Z23, Z12, Z15, Z13, Z16, Z18, Z17, Z20, Z19, Z21, Z8, Z4, Bool.and_true, Nat.reduceAdd, Nat.reduceEqDiff, if_true, if_false, and_self, Z3, ne_eq, not_false_eq_true, reduceCtorEq, Nat.reduceLeDiff, Z7, implies_true, Nat.add_zero, Z14, beq_self_eq_true, Z26, Bool.true_or, tsz3, tsz9, tk33, callP, callO, dedup, rootsD, rootsC, List.flatMap_cons, List.flatMap_nil, List.filterMap_cons, List.filterMap_nil, argDs, argD, argC, List.contains_nil, objsAt, objOf, List.idxOf?, List.findIdx?, List.findIdx?.go, setObjs, settle, settle1, settleC, Z25, FsL5, hR, hz _ _ rfl rfl]; rfl) ?_)) ?_
              by_cases hds : strEq (s.extract q (q + 1) ++ s.extract (q + 1) r) ⟨#[45]⟩ = true
              · rw [if_pos (show strEq _ dash = true from hds)] at hd
                cases hd
                refine seq_run ok0 rfl (by repeat (first | with_reducible exact runf_nil | refine runf_cons (by simp only [xstep, stepf, stepx, qev, St.ev, St.put, qload, cellsAt, qmk, C.cpy, TK.agg, qfieldAddr, qstr, qbin, liveR, C.cp, constD, constC, Z1, Z2, Z5, Z6, Z9, Z10, Z13, Z24, Z16, Z18, Z17, Z20, Z19, Z21, Z8, Z4, if_true, if_false, and_self, Z3, reduceCtorEq, Z7, Z14, Z26, tk9, tsz9, tk33, hds]; rfl) ?_)) ?_
                refine tri_cond rfl (fun _ => ?_) (fun h => by cases h)
                refine seq_run ok0 rfl (by repeat (first | with_reducible exact runf_nil | refine runf_cons (by simp only [xstep, stepf, stepx, qev, St.ev, St.put, D.cells, qload, cellsAt, qmk, C.cpy, TK.agg, qfieldAddr, liveR, C.st, C.cp, C.dat, storeA, putCells, constD, constC, Z1, Z2, Z5, Z6, Z9, Z10, Z23, Z12, Z15, Z13, Z24, Z16, Z18, Z17, Z20, Z19, Z21, Z8, Z4, Nat.reduceAdd, if_true, if_false, and_self, Z3, ne_eq, not_false_eq_true, reduceCtorEq, Nat.le_refl, Nat.reduceBNe, Z7, implies_true, Z14, Z26, tk3, tsz3, tsz9, tk33, tsz33, tz33, buildA, partsA, fillA, placeSt]; rfl) ?_)) ?_
                refine tri_ret (ends_ret (by simp only [outRes, resDs, resD, outDs, outD, outC, outCs, tk33, tsz33, qload, cellsAt, qmk, C.cpy, TK.agg, C.cp, C.dat, Z1, Z2, Z9, Z10, Z15, Z13, Z24, Z16, Z18, Z17, Z20, Z21, Z8, Z4, Nat.reduceAdd, if_true, and_self, Z3, Z14, Z26]; rfl) rfl (by simp) (by simp) ?_)
                exact hQ
              · rw [if_neg (show ¬ strEq _ dash = true from hds)] at hd
                cases hd
                have hds : strEq (s.extract q (q + 1) ++ s.extract (q + 1) r) ⟨#[45]⟩ = false := by simpa using hds
                refine seq_run ok0 rfl (by repeat (first | with_reducible exact runf_nil | refine runf_cons (by simp only [xstep, stepf, stepx, qev, St.ev, St.put, qload, cellsAt, qmk, C.cpy, TK.agg, qfieldAddr, qstr, qbin, liveR, C.cp, constD, constC, Z1, Z2, Z5, Z6, Z9, Z10, Z13, Z24, Z16, Z18, Z17, Z20, Z19, Z21, Z8, Z4, if_true, if_false, and_self, Z3, reduceCtorEq, Z7, Z14, Z26, tk9, tsz9, tk33, hds]; rfl) ?_)) ?_
                refine tri_cond rfl (fun h => by cases h) (fun _ => tri_skip ?_)
                show Tri _ _ _ _
                refine seq_run ok0 rfl (by repeat (first | with_reducible exact runf_nil | refine runf_cons (by simp only [xstep, stepf, stepx, qev, St.ev, St.put, D.cells, qload, cellsAt, qmk, C.cpy, TK.agg, C.st, C.cp, C.dat, storeA, putCells, constD, constC, Z1, Z2, Z5, Z6, Z9, Z10, Z12, Z15, Z13, Z24, Z16, Z18, Z17, Z20, Z19, Z21, Z8, Z4, Nat.reduceAdd, if_true, and_self, Z3, ne_eq, not_false_eq_true, reduceCtorEq, Nat.le_refl, Z7, implies_true, Z14, Z26, tk33, tsz33]; rfl) ?_)) ?_
                refine tri_ret (ends_ret (by simp only [outRes, resDs, resD, outDs, outD, outC, outCs, tk33, tsz33, qload, cellsAt, qmk, C.cpy, TK.agg, C.cp, C.dat, Z1, Z2, Z9, Z10, Z15, Z13, Z24, Z16, Z18, Z17, Z20, Z21, Z8, Z4, Nat.reduceAdd, if_true, and_self, Z3, Z14, Z26]; rfl) rfl (by simp) (by simp) ?_)
                exact hQ
            · have hdc : ¬ (isDigit c = true ∨ c = 45) := by
                simp only [Bool.or_eq_false_iff, decide_eq_false_iff_not] at hdd
                rintro (h | h)
                · rw [hdd.1] at h; cases h
                · exact hdd.2 h
              rw [if_neg hdc] at hd
              by_cases h34 : c = 34
              · rw [if_pos h34] at hd
                subst h34
                have hQu := quote_at s q hs (by omega)
                obtain ⟨g1, g2⟩ := quoteF_le s q (by omega)
                refine seq_run ok0 rfl (by repeat (first | with_reducible exact runf_nil | refine runf_cons (by simp only [xstep, stepf, stepx, qev, St.ev, St.put, qint, qshift, isShift, qbin, constD, constC, Z1, Z2, Z5, Z6, Z4, Z11, if_true, if_false, decide_true, Z3, Z7, dB]; rfl) ?_)) ?_
                refine tri_cond rfl (fun _ => ?_) (fun h => by cases h)
                refine seq_run okQ rfl (by repeat (first | with_reducible exact runf_nil | refine runf_cons (by simp only [xstep, stepf, stepx, evsA, qev, St.ev, St.put, St.with, D.cell, qext, C.dat, Z1, Z2, Z5, Z6, Z9, Z10, Z12, Z15, Z13, Z16, Z18, Z8, Z4, Bool.and_true, Bool.true_and, if_true, if_false, and_self, Z3, Z7, Z14, beq_self_eq_true, Z26, Bool.true_or, callP, callO, Fs.none, dedup, rootsD, rootsC, List.flatMap_cons, List.flatMap_nil, List.filterMap_cons, List.filterMap_nil, argDs, argD, argC, List.contains_nil, objsAt, objOf, List.idxOf?, List.findIdx?, List.findIdx?.go, setObjs, settle, settle1, settleC, settleDs, Z25, callP, callO, Fs.none, dedup, rootsD, rootsC, List.flatMap_cons, List.flatMap_nil, List.filterMap_cons, List.filterMap_nil, argDs, argD, argC, List.contains_nil, objsAt, objOf, List.idxOf?, List.findIdx?, List.findIdx?.go, setObjs, D.ni, D.ni1, C.ni, settle, settle1, settleC, settleDs, Z25, FsQ, hQu]; rfl) ?_)) ?_
                by_cases hok : (quoteF s q).2.1 = true
                · rw [if_pos hok] at hd
                  cases hd
                  refine seq_in (seq_run ok0 rfl (by repeat (first | with_reducible exact runf_nil | refine runf_cons (by simp only [xstep, stepf, stepx, qev, St.ev, St.put, qun, Z1, Z2, Z5, Z6, Z8, Z4, Bool.not_true, Z3, hok]; rfl) ?_)) ?_)
                  refine tri_cond rfl (fun h => by cases h) (fun _ => then_skip ?_)
                  refine run_end ok0 rfl (by repeat (first | with_reducible exact runf_nil | refine runf_cons (by simp only [xstep, stepf, stepx, qev, St.ev, St.put, D.cells, qfieldAddr, liveR, C.st, C.dat, storeA, putCells, constD, constC, Z1, Z2, Z5, Z6, Z9, Z10, Z23, Z12, Z16, Z18, Z17, Z20, Z19, Z21, Z8, Z4, Nat.reduceAdd, if_true, if_false, and_self, Z3, ne_eq, not_false_eq_true, reduceCtorEq, Nat.reduceLeDiff, Z7, implies_true, Nat.add_zero, Z14, Z26, tsz3, tsz9, tk33]; rfl) ?_)) ?_
                  show Tri _ _ _ _
                  refine seq_run ok0 rfl (by repeat (first | with_reducible exact runf_nil | refine runf_cons (by simp only [xstep, stepf, stepx, qev, St.ev, St.put, D.cells, qload, cellsAt, qmk, C.cpy, TK.agg, C.st, C.cp, C.dat, storeA, putCells, constD, constC, Z1, Z2, Z5, Z6, Z9, Z10, Z12, Z15, Z13, Z24, Z16, Z18, Z17, Z20, Z19, Z21, Z8, Z4, Nat.reduceAdd, if_true, and_self, Z3, ne_eq, not_false_eq_true, reduceCtorEq, Nat.le_refl, Z7, implies_true, Z14, Z26, tk33, tsz33]; rfl) ?_)) ?_
                  refine tri_ret (ends_ret (by simp only [outRes, resDs, resD, outDs, outD, outC, outCs, tk33, tsz33, qload, cellsAt, qmk, C.cpy, TK.agg, C.cp, C.dat, Z1, Z2, Z9, Z10, Z15, Z13, Z24, Z16, Z18, Z17, Z20, Z21, Z8, Z4, Nat.reduceAdd, if_true, and_self, Z3, Z14, Z26]; rfl) rfl (by simp) (by simp) ?_)
                  exact hQ
                · have hok : (quoteF s q).2.1 = false := by simpa using hok
                  rw [if_neg (by rw [hok]; decide)] at hd
                  cases hd
                  refine seq_in (seq_run ok0 rfl (by repeat (first | with_reducible exact runf_nil | refine runf_cons (by simp only [xstep, stepf, stepx, qev, St.ev, St.put, qun, Z1, Z2, Z5, Z6, Z8, Z4, Bool.not_false, Z3, hok]; rfl) ?_)) ?_)
                  refine tri_cond rfl (fun _ => ?_) (fun h => by cases h)
                  refine seq_run ok0 rfl (by repeat (first | with_reducible exact runf_nil | refine runf_cons (by simp only [xstep, stepf, stepx, qev, St.ev, St.put, D.cells, qload, cellsAt, qmk, C.cpy, TK.agg, qfieldAddr, liveR, C.st, C.cp, C.dat, storeA, putCells, constD, constC, Z1, Z2, Z5, Z6, Z9, Z10, Z23, Z12, Z15, Z13, Z24, Z16, Z18, Z17, Z20, Z19, Z21, Z8, Z4, Nat.reduceAdd, if_true, if_false, and_self, Z3, ne_eq, not_false_eq_true, reduceCtorEq, Nat.le_refl, Nat.reduceBNe, Z7, implies_true, Z14, Z26, tk3, tsz3, tsz9, tk33, tsz33, tz33, buildA, partsA, fillA, placeSt]; rfl) ?_)) ?_
                  refine tri_ret (ends_ret (by simp only [outRes, resDs, resD, outDs, outD, outC, outCs, tk33, tsz33, qload, cellsAt, qmk, C.cpy, TK.agg, C.cp, C.dat, Z1, Z2, Z9, Z10, Z15, Z13, Z24, Z16, Z18, Z17, Z20, Z21, Z8, Z4, Nat.reduceAdd, if_true, and_self, Z3, Z14, Z26]; rfl) rfl (by simp) (by simp) ?_)
                  exact hQ
              · rw [if_neg h34] at hd
                refine seq_run ok0 rfl (by repeat (first | with_reducible exact runf_nil | refine runf_cons (by simp only [xstep, stepf, stepx, qev, St.ev, St.put, qint, qshift, isShift, qbin, constD, constC, Z1, Z2, Z5, Z6, Z4, Z11, if_true, if_false, decide_false, Z3, Z7, dB, eq_false h34]; rfl) ?_)) ?_
                refine tri_cond rfl (fun h => by cases h) (fun _ => ?_)
                by_cases hmk : 0 ≤ idxB marks c
                · rw [if_pos hmk] at hd
                  cases hd
                  have hw1 : IntKind.wrap .i64 (((q + 1 : Nat) : Int) - 1) = (q : Int) := by rw [wrap_i64 _ (by omega) (by omega)]; omega
                  refine seq_run okL5 rfl (by repeat (first | with_reducible exact runf_nil | refine runf_cons (by simp only [xstep, stepf, stepx, evsA, qev, St.ev, St.put, St.with, C.cpy, qint, qshift, isShift, qbin, C.cp, C.dat, constD, constC, Z1, Z2, Z5, Z6, Z15, Z13, Z4, Z11, Nat.reduceEqDiff, if_true, if_false, decide_true, Z3, Z7, Z26, Bool.true_or, callP, argDs, argD, argC, settle, settle1, settleC, Z25, FsL5, hI, eq_true hmk]; rfl) ?_)) ?_
                  refine tri_cond rfl (fun _ => ?_) (fun h => by cases h)
                  refine seq_run ok0 rfl (by repeat (first | with_reducible exact runf_nil | refine runf_cons (by simp only [xstep, stepf, stepx, qev, St.ev, St.put, D.cells, qload, cellsAt, qmk, C.cpy, TK.agg, qnil, qfieldAddr, qint, qshift, isShift, qbin, liveR, C.st, C.cp, C.dat, storeA, putCells, constD, constC, Z1, Z2, Z5, Z6, Z9, Z10, Z23, Z12, Z15, Z13, Z24, Z16, Z18, Z17, Z20, Z19, Z21, Z8, Z4, Z11, Nat.reduceAdd, if_true, if_false, and_self, Z3, ne_eq, not_false_eq_true, reduceCtorEq, Nat.le_refl, Z7, implies_true, Z14, Z26, tk3, tsz3, tk61, hw]; rfl) ?_)) ?_
                  refine any_endK [(0, 0), (114, 0), (115, 0), (116, 0), (118, 0), (119, 0), (120, 0), (123, 0), (124, 0), (125, 0), (5, 2), (128, 2), (129, 2)] mixed ok0 rfl (by kernel_rfl) rfl (by repeat (first | with_reducible exact runf_nil | refine runf_cons (by simp only [xstep, stepf, stepx, qev, St.ev, St.put, D.cells, D.int, qload, cellsAt, qmk, C.cpy, TK.agg, qnil, qfieldAddr, qint, qshift, isShift, qbin, qbounds, qslice, omap, liveR, C.st, C.cp, C.dat, storeA, putCells, constD, constC, Z1, Z2, Z5, Z6, Z9, Z10, Z23, Z12, Z13, Z24, Z16, Z18, Z17, Z20, Z19, Z21, Z8, Z4, Z11, Nat.reduceAdd, if_true, if_false, and_self, Z3, ne_eq, not_false_eq_true, reduceCtorEq, Nat.reduceLeDiff, Z7, implies_true, Nat.add_zero, Z14, Z26, tk3, tsz3, tk9, tsz9, tk33, tk61, Int.toNat_natCast, Int.natCast_nonneg, qbounds, D.int, hw1, show (q : Int) ≤ ((q + 1 : Nat) : Int) from by omega, show ((q + 1 : Nat) : Int) ≤ (s.size : Int) from by omega]; rfl) ?_)) ?_
                  show Tri _ _ _ _
                  refine seq_run ok0 rfl (by repeat (first | with_reducible exact runf_nil | refine runf_cons (by simp only [xstep, stepf, stepx, qev, St.ev, St.put, D.cells, qload, cellsAt, qmk, C.cpy, TK.agg, C.st, C.cp, C.dat, storeA, putCells, constD, constC, Z1, Z2, Z5, Z6, Z9, Z10, Z12, Z15, Z13, Z24, Z16, Z18, Z17, Z20, Z19, Z21, Z8, Z4, Nat.reduceAdd, if_true, and_self, Z3, ne_eq, not_false_eq_true, reduceCtorEq, Nat.le_refl, Z7, implies_true, Z14, Z26, tk33, tsz33]; rfl) ?_)) ?_
                  refine tri_ret (ends_ret (by simp only [outRes, resDs, resD, outDs, outD, outC, outCs, tk33, tsz33, qload, cellsAt, qmk, C.cpy, TK.agg, C.cp, C.dat, Z1, Z2, Z9, Z10, Z15, Z13, Z24, Z16, Z18, Z17, Z20, Z21, Z8, Z4, Nat.reduceAdd, if_true, and_self, Z3, Z14, Z26]; rfl) rfl (by simp) (by simp) ?_)
                  exact hQ
                · rw [if_neg hmk] at hd
                  cases hd
                  refine seq_run okL5 rfl (by repeat (first | with_reducible exact runf_nil | refine runf_cons (by simp only [xstep, stepf, stepx, evsA, qev, St.ev, St.put, St.with, C.cpy, qint, qshift, isShift, qbin, C.cp, C.dat, constD, constC, Z1, Z2, Z5, Z6, Z15, Z13, Z4, Z11, Nat.reduceEqDiff, if_true, if_false, decide_false, Z3, Z7, Z26, Bool.true_or, callP, argDs, argD, argC, settle, settle1, settleC, Z25, FsL5, hI, eq_false hmk]; rfl) ?_)) ?_
                  refine tri_cond rfl (fun h => by cases h) (fun _ => ?_)
                  refine seq_run ok0 rfl (by repeat (first | with_reducible exact runf_nil | refine runf_cons (by simp only [xstep, stepf, stepx, qev, St.ev, St.put, D.cells, qload, cellsAt, qmk, C.cpy, TK.agg, qfieldAddr, liveR, C.st, C.cp, C.dat, storeA, putCells, constD, constC, Z1, Z2, Z5, Z6, Z9, Z10, Z23, Z12, Z15, Z13, Z24, Z16, Z18, Z17, Z20, Z19, Z21, Z8, Z4, Nat.reduceAdd, if_true, if_false, and_self, Z3, ne_eq, not_false_eq_true, reduceCtorEq, Nat.le_refl, Nat.reduceBNe, Z7, implies_true, Z14, Z26, tk3, tsz3, tsz9, tk33, tsz33, tz33, buildA, partsA, fillA, placeSt]; rfl) ?_)) ?_
                  refine tri_ret (ends_ret (by simp only [outRes, resDs, resD, outDs, outD, outC, outCs, tk33, tsz33, qload, cellsAt, qmk, C.cpy, TK.agg, C.cp, C.dat, Z1, Z2, Z9, Z10, Z15, Z13, Z24, Z16, Z18, Z17, Z20, Z21, Z8, Z4, Nat.reduceAdd, if_true, and_self, Z3, Z14, Z26]; rfl) rfl (by simp) (by simp) ?_)
                  exact hQ
          · by_cases hdg : isDigit c = true
            · rw [hdg] at hD
              refine run_end okL5 rfl (by repeat (first | with_reducible exact runf_nil | refine runf_cons (by simp only [xstep, stepf, stepx, evsA, qev, St.ev, St.put, St.with, C.cpy, qpick, isEq, qeq, qbin, C.cp, C.dat, constD, constC, Z1, Z2, Z5, Z6, Z15, Z13, Z8, Z4, Z11, Nat.reduceEqDiff, if_true, if_false, cond_true, Z22, Z3, reduceCtorEq, Z26, Bool.true_or, tk5, callP, argDs, argD, argC, settle, settle1, settleC, Z25, FsL5, hD]; rfl) ?_)) ?_
              show St.Le _ _
              rw [hdg]
              exact ⟨by repeat (first | exact .nil | refine .same ?_ | refine .top ?_), rfl⟩
            · have hdg : isDigit c = false := by cases h : isDigit c <;> simp_all
              rw [hdg] at hD
              refine run_end okL5 rfl (by repeat (first | with_reducible exact runf_nil | refine runf_cons (by simp only [xstep, stepf, stepx, evsA, qev, St.ev, St.put, St.with, C.cpy, qpick, qint, qshift, isShift, qbin, C.cp, C.dat, constD, constC, Z1, Z2, Z5, Z6, Z15, Z13, Z8, Z4, Z11, Nat.reduceEqDiff, if_true, if_false, cond_false, Z22, Z3, Z7, Z26, Bool.true_or, callP, argDs, argD, argC, settle, settle1, settleC, Z25, FsL5, hD]; rfl) ?_)) ?_
              show St.Le _ _
              rw [hdg]
              exact ⟨by repeat (first | exact .nil | refine .same ?_ | refine .top ?_), rfl⟩
    · cases hd
  · cases hd

end Go.Dl

namespace Go.Dl
open Go.RowKit
open Go.Proofs
set_option linter.unusedSimpArgs false
set_option linter.unusedVariables false

theorem tok_settle (H : List (Option Root)) (t : Tok) : settleCs H (tokC t) = (tokC t, H) := rfl
theorem tok_take (t : Tok) : (tokC t).take 3 = tokC t := rfl
theorem tok_cpy (t : Tok) : (tokC t).map C.cpy = tokC t := rfl
theorem tok_cp (t : Tok) : (tokC t).all C.cp = true := rfl
theorem tok_len (t : Tok) : (tokC t).length = 3 := rfl
theorem tok_st (H : List (Option Root)) (t : Tok) : (tokC t).all (C.st H) = true := rfl
theorem tok_dat (t : Tok) : (tokC t).all C.dat = true := rfl
theorem tok_drop (t : Tok) : (tokC t).drop 3 = [] := rfl
theorem tok_kill (r : Nat) (t : Tok) : (tokC t).map (C.kill r) = tokC t := rfl
theorem tok_nos (r : Nat) (t : Tok) : C.nos r (tokC t) = true := rfl
theorem toks_cps (l : List Tok) : ((l.map tokC).all fun row => row.all C.cp) = true := by
  rw [List.all_eq_true]
  intro row h
  obtain ⟨x, _, rfl⟩ := List.mem_map.1 h
  rfl
theorem toks_get (l : List Tok) (i : Nat) (x : Tok) (h : l[i]? = some x) : (l.map tokC)[i]? = some (tokC x) := by simp [h]

theorem nextF_le {s : ByteArray} {p : Nat} (hp : p ≤ s.size) {t : Tok} {m : Bool} {e : Int} {r : Nat} (h : nextF s p = some (t, m, e, r)) : r ≤ s.size ∧ (m = true → p < r) := by
  have hq := blkF_le s p hp
  unfold nextF at h
  generalize blkF s p = q at h hq
  split at h
  · cases h; exact ⟨hq.2, fun h => by cases h⟩
  · rename_i hne
    have hqs : q < s.size := by omega
    split at h
    · rename_i hl
      cases h
      have h1 := runF_le isWordC s q hq.2
      have h2 := runF_gt (f := isWordC) hqs (by simp [isWordC, hl])
      exact ⟨h1.2, fun _ => by omega⟩
    · split at h
      · have h1 := runF_le isDigit s (q + 1) hqs
        split at h
        · cases h; exact ⟨h1.2, fun h => by cases h⟩
        · cases h; exact ⟨h1.2, fun _ => by omega⟩
      · split at h
        · obtain ⟨g1, g2⟩ := quoteF_le s q hqs
          split at h
          · cases h; exact ⟨g2, fun _ => by show p < (quoteF s q).2.2; omega⟩
          · cases h; exact ⟨g2, fun h => by cases h⟩
        · split at h
          · cases h; exact ⟨hqs, fun _ => by omega⟩
          · cases h; exact ⟨hq.2, fun h => by cases h⟩

/-- Tokens from a place on; behind those that came already. -/
def toksN : Nat → ByteArray → Nat → List Tok → Option (List Tok × Int × Int)
  | 0, _, _, _ => none
  | n + 1, s, p, acc => (nextF s p).bind fun r => if ¬ r.2.2.1 = 0 then some ([], r.1.2.2, r.2.2.1) else if r.2.1 = false then some (acc, 0, 0) else toksN n s r.2.2.2 (acc ++ [r.1])
def toksF (s : ByteArray) : Option (List Tok × Int × Int) := if 65536 < s.size then some ([], 0, 3) else toksN (s.size + 1) s 0 []

def pToks : List D → Option D
  | [.c (.v (.string s))] => if s.size ≤ 1000000 then (toksF s).map fun r => .t [.c (.s true 3 (r.1.map tokC)), .c (.v (.int .i64 r.2.1)), .c (.v (.int .i64 r.2.2))] else none
  | _ => none

def FsL6 : Fs := { Fs.none with objs := fun k => if k = 28 then some oNext else none }
theorem okL6 : FsOK Try.prog FsL6 := by
  refine ⟨fun _ _ h => (by cases h), fun k f h => ?_⟩
  simp only [FsL6] at h
  split at h
  · rename_i hk; subst hk; cases h; exact ⟨by kernel_rfl, meets28⟩
  · cases h

theorem next_eq {s : ByteArray} {p : Nat} (hs : s.size ≤ 1000000) (hp : p ≤ s.size) {t : Tok} {m : Bool} {e : Int} {r : Nat} (h : nextF s p = some (t, m, e, r)) :
    oNext [.c (.p 0 0 0)] [⟨2, [[.v (.string s), .v (.int .i64 (p : Int))]]⟩] = some (.t [.agg (tokC t), .c (.v (.bool m)), .c (.v (.int .i64 e))], [⟨2, [[.v (.string s), .v (.int .i64 (r : Nat))]]⟩]) := by
  have h' : oNext [.c (.p 0 0 0)] [⟨2, [[.v (.string s), .v (.int .i64 (Int.ofNat p))]]⟩] = some (.t [.agg (tokC t), .c (.v (.bool m)), .c (.v (.int .i64 e))], [⟨2, [[.v (.string s), .v (.int .i64 (r : Nat))]]⟩]) := by
    simp only [oNext, if_pos (And.intro hs hp), h, Z4]
    rfl
  exact h'

theorem meets11 : Meets Try.prog 11 (pureS pToks) := by
  refine meets_of_tri (show Try.prog.funcs[11]? = some Try.f11 by kernel_rfl) rfl (n := 34) rfl (rs := [ResultVar.tmp 2, ResultVar.tmp 3, ResultVar.tmp 4]) rfl ?_
  rintro args objs Q ⟨rfl, d, hd, hQ⟩
  unfold pToks at hd
  split at hd
  · rename_i s
    split at hd
    · rename_i hs
      refine seq_run ok0 rfl (by repeat (first | with_reducible exact runf_nil | refine runf_cons (by simp only [xstep, stepf, stepx, qev, St.ev, St.put, constD, constC, Z5, Z6, List.replicate, Z9, Z10, Z23, Z12, Z13, Z4, Nat.reduceSub, Z3, Z14]; rfl) ?_)) ?_
      unfold toksF at hd
      by_cases hbig : 65536 < s.size
      · rw [if_pos hbig] at hd
        cases hd
        refine seq_in (seq_run ok0 rfl (by repeat (first | with_reducible exact runf_nil | refine runf_cons (by simp only [xstep, stepf, stepx, qev, St.ev, St.put, qint, qshift, isShift, qbin, qlen, qbuiltin, constD, constC, Z1, Z2, Z5, Z6, Z8, Z4, Z11, if_true, if_false, decide_true, Z3, Z7, tk9, show ((65536 : Int) < (s.size : Int)) = True from eq_true (by omega)]; rfl) ?_)) ?_)
        refine tri_cond rfl (fun _ => ?_) (fun h => by cases h)
        refine seq_run ok0 rfl (by repeat (first | with_reducible exact runf_nil | refine runf_cons (by simp only [xstep, stepf, stepx, qev, St.ev, St.put, constD, constC, Z5, Z6, Z4, Z3]; rfl) ?_)) ?_
        refine tri_nil 2 3 rfl ?_
        refine tri_ret (ends_ret (by simp only [outRes, resDs, resD, outDs, outD, outC, C.dat, Z1, Z2, Z5, Z6, Z10, Z12, Z4, if_true, and_self, Z3, ne_eq, not_false_eq_true, reduceCtorEq]; rfl) rfl (by simp) (by simp) ?_)
        exact hQ
      · rw [if_neg hbig] at hd
        obtain ⟨res, hres⟩ : ∃ res, toksN (s.size + 1) s 0 [] = res := ⟨_, rfl⟩
        rw [hres] at hd
        refine seq_in (seq_run ok0 rfl (by repeat (first | with_reducible exact runf_nil | refine runf_cons (by simp only [xstep, stepf, stepx, qev, St.ev, St.put, qint, qshift, isShift, qbin, qlen, qbuiltin, constD, constC, Z1, Z2, Z5, Z6, Z8, Z4, Z11, if_true, if_false, decide_false, Z3, Z7, tk9, show ((65536 : Int) < (s.size : Int)) = False from eq_false (by omega)]; rfl) ?_)) ?_)
        refine tri_cond rfl (fun h => by cases h) (fun _ => then_skip ?_)
        refine seq_run ok0 rfl (by repeat (first | with_reducible exact runf_nil | refine runf_cons (by simp only [xstep, stepf, stepx, qev, St.ev, St.put, St.with, D.cells, boxA, C.st, putCells, Z1, Z2, Z5, Z6, Z9, Z10, Z23, Z12, Z16, Z18, Z20, Z19, Z21, Z8, Z4, Nat.reduceAdd, if_true, and_self, Z3, Nat.reduceLeDiff, Nat.reduceBNe, Z14, Z26, tsz3, tsz9, tk61, tz61, buildA, partsA, fillA, placeSt]; rfl) ?_)) ?_
        refine seq_run ok0 rfl (by repeat (first | with_reducible exact runf_nil | refine runf_cons (by simp only [xstep, stepf, stepx, qev, St.ev, St.put, constD, constC, Z5, Z6, Z4, Z3]; rfl) ?_)) ?_
        refine tri_nil 6 3 rfl ?_
        show Tri _ _ _ _
        refine tri_block ?_
        refine tri_loop_le (fun n A => ∃ (p fu : Nat) (acc : List Tok) (T : List (Option Root)), p ≤ s.size ∧ n = s.size - p ∧ acc.length ≤ p ∧ s.size - p < fu ∧ toksN fu s p acc = res ∧
            A = ⟨[.top, .top, .top, .top, .top, .c (.p 0 0 0), .c (.h 1 0 acc.length), .top, .top, .top, .top, .top, .top, .top, .top, .top, .top, .top, .top, .top, .top, .top, .top, .top, .top, .top, .top, .top, .top, .top, .top, .top, .top, .top], some ⟨false, 2, [[.v (.string s), .v (.int .i64 p)]]⟩ :: some ⟨true, 3, acc.map tokC⟩ :: T⟩) s.size
          (B := ⟨[.top, .top, .top, .top, .top, .c (.p 0 0 0), .c (.h 1 0 0), .top, .top, .top, .top, .top, .top, .top, .top, .top, .top, .top, .top, .top, .top, .top, .top, .top, .top, .top, .top, .top, .top, .top, .top, .top, .top, .top], [some ⟨false, 2, [[.v (.string s), .v (.int .i64 (0 : Nat))]]⟩, some ⟨true, 3, []⟩]⟩)
          ⟨by repeat (first | exact .nil | refine .same ?_ | refine .top ?_), rfl⟩ ⟨0, s.size + 1, [], [], by omega, by omega, by simp, by omega, hres, rfl⟩ ?_
        rintro n A ⟨p, fu, acc, T, hp, rfl, hacc, hfu, htk, rfl⟩
        obtain ⟨fu, rfl⟩ : ∃ m, fu = m + 1 := ⟨fu - 1, by omega⟩
        simp only [toksN] at htk
        rw [← htk] at hd
        cases hn : nextF s p with
        | none => rw [hn] at hd; cases hd
        | some r =>
          obtain ⟨t, m, e, r⟩ := r
          rw [hn] at hd htk
          simp only [Z8] at hd htk
          have hN := next_eq hs hp hn
          obtain ⟨g1, g2⟩ := nextF_le hp hn
          refine tri_block ?_
          refine seq_run okL6 rfl (by repeat (first | with_reducible exact runf_nil | refine runf_cons (by simp only [xstep, stepf, stepx, evsA, qev, St.ev, St.put, St.with, D.cells, D.cell, boxA, qext, C.st, C.dat, storeA, putCells, Z1, Z2, Z5, Z6, Z9, Z10, Z23, Z12, Z15, Z13, Z16, Z18, Z20, Z19, Z21, Z8, Z4, Bool.and_true, Nat.reduceAdd, if_true, if_false, and_self, Z3, ne_eq, not_false_eq_true, reduceCtorEq, Nat.le_refl, Z7, implies_true, Z14, beq_self_eq_true, Z26, Bool.true_or, tsz33, tz33, callP, callO, Fs.none, dedup, rootsD, rootsC, List.flatMap_cons, List.flatMap_nil, List.filterMap_cons, List.filterMap_nil, argDs, argD, argC, List.contains_nil, objsAt, objOf, List.idxOf?, List.findIdx?, List.findIdx?.go, setObjs, settle, settle1, settleC, settleDs, Z25, FsL6, tok_settle, tok_len, tok_st, tok_dat, last_get, last_set, hN]; rfl) ?_)) ?_
          by_cases he : e = 0
          · rw [if_neg (by simp [he])] at hd htk
            refine seq_in (seq_run ok0 rfl (by repeat (first | with_reducible exact runf_nil | refine runf_cons (by simp only [xstep, stepf, stepx, qev, St.ev, St.put, qint, qshift, isShift, qbin, constD, constC, Z1, Z2, Z5, Z6, Z4, Z11, if_true, if_false, decide_true, Bool.not_true, Z3, Z7, eq_true he]; rfl) ?_)) ?_)
            refine tri_cond rfl (fun h => by cases h) (fun _ => then_skip ?_)
            cases m with
            | false =>
              rw [if_pos rfl] at hd
              cases hd
              refine seq_in (seq_run ok0 rfl (by repeat (first | with_reducible exact runf_nil | refine runf_cons (by simp only [xstep, stepf, stepx, qev, St.ev, St.put, qun, Z1, Z2, Z5, Z6, Z8, Z4, Bool.not_false, Z3]; rfl) ?_)) ?_)
              refine tri_cond rfl (fun _ => ?_) (fun h => by cases h)
              refine seq_run ok0 rfl (by repeat (first | with_reducible exact runf_nil | refine runf_cons (by simp only [xstep, stepf, stepx, qev, St.ev, St.put, constD, constC, Z1, Z2, Z5, Z6, Z4, Z3]; rfl) ?_)) ?_
              refine tri_ret (ends_ret (by simp only [outRes, resDs, resD, outDs, outD, outC, List.length_map, C.dat, Z1, Z2, Z4, if_true, and_self, Z3, ne_eq, not_false_eq_true, reduceCtorEq]; rfl) rfl (by simp) (by simp) ?_)
              exact hQ
            | true =>
              rw [if_neg (by simp)] at htk
              have hpr := g2 rfl
              have ht0 : (acc.map tokC).take acc.length = acc.map tokC := List.take_of_length_le (by simp)
              have hne : ∀ k : Nat, (k + 1 + 1 != 1) = true := by intro k; simp
              refine seq_in (seq_run ok0 rfl (by repeat (first | with_reducible exact runf_nil | refine runf_cons (by simp only [xstep, stepf, stepx, qev, St.ev, St.put, qun, Z1, Z2, Z5, Z6, Z8, Z4, Bool.not_true, Z3]; rfl) ?_)) ?_)
              refine tri_cond rfl (fun h => by cases h) (fun _ => then_skip ?_)
              refine run_end ok0 rfl (by repeat (first | with_reducible exact runf_nil | refine runf_cons (by simp only [xstep, stepf, stepx, qev, St.ev, St.put, St.with, D.cells, qload, cellsAt, qmk, C.cpy, TK.agg, C.cp, putCells, Z1, Z2, Z5, Z6, Z9, Z10, Z23, Z12, Z15, Z13, Z24, Z16, Z18, Z17, Z20, Z19, Z21, Z8, Z4, Nat.reduceAdd, Nat.reduceMul, if_true, if_false, and_self, Z3, ne_eq, not_false_eq_true, reduceCtorEq, Nat.reduceLeDiff, Nat.le_refl, Nat.reduceBNe, Z7, Z14, bne_self_eq_false, Z26, tk23, tk33, tsz33, tz33, bo33, tok_take, tok_cpy, tok_cp, tok_len, tok_st, tok_dat, last_get, buildSliceA, partsA, fillA, reps, chop, tkApp, tok_nb, appendA, srcRows, srcOther, D.kill, D.no, C.no, C.kill, killH, Root.kill, tok_nos, D.nos, hne, ht0, show (acc.length + 1) * 32 ≤ 140737488355328 from by omega]; rfl) ?_)) ?_
              refine ⟨s.size - r, by omega, ⟨[.top, .top, .top, .top, .top, .c (.p 0 0 0), .c (.h 1 0 (acc ++ [t]).length), .top, .top, .top, .top, .top, .top, .top, .top, .top, .top, .top, .top, .top, .top, .top, .top, .top, .top, .top, .top, .top, .top, .top, .top, .top, .top, .top], some ⟨false, 2, [[.v (.string s), .v (.int .i64 r)]]⟩ :: some ⟨true, 3, (acc ++ [t]).map tokC⟩ :: killH 1 ((T ++ [some ⟨false, 3, [tokC t]⟩]) ++ [some ⟨true, 3, [tokC t]⟩])⟩, ⟨?_, ?_⟩, r, fu, acc ++ [t], _, g1, rfl, by simp; omega, by omega, htk, rfl⟩
              · rw [show (acc ++ [t]).length = acc.length + 1 from by simp]
                repeat (first | exact .nil | refine .same ?_ | refine .top ?_)
              · rw [show (acc ++ [t]).map tokC = acc.map tokC ++ [tokC t] from List.map_append]
                rfl
          · rw [if_pos he] at hd
            cases hd
            refine seq_in (seq_run ok0 rfl (by repeat (first | with_reducible exact runf_nil | refine runf_cons (by simp only [xstep, stepf, stepx, qev, St.ev, St.put, qint, qshift, isShift, qbin, constD, constC, Z1, Z2, Z5, Z6, Z4, Z11, if_true, if_false, decide_false, Bool.not_false, Z3, Z7, eq_false he]; rfl) ?_)) ?_)
            refine tri_cond rfl (fun _ => ?_) (fun h => by cases h)
            refine seq_any mixed ok0 rfl (by kernel_rfl) (by repeat (first | with_reducible exact runf_nil | refine runf_cons (by simp only [xstep, stepf, stepx, qev, St.ev, St.put, qload, cellsAt, qmk, C.cpy, TK.agg, qfieldAddr, liveR, C.cp, constD, constC, Z1, Z2, Z5, Z6, Z9, Z10, Z13, Z24, Z16, Z18, Z17, Z20, Z19, Z21, Z8, Z4, if_true, if_false, and_self, Z3, reduceCtorEq, Z7, Z14, Z26, tk3, tsz3, tk33, last_get, tokC]; rfl) ?_)) ?_
            refine tri_nil 2 3 rfl ?_
            refine tri_ret (ends_ret (by simp only [outRes, resDs, resD, outDs, outD, outC, last_get, C.dat, Z1, Z2, Z5, Z6, Z9, Z10, Z23, Z4, if_true, and_self, Z3, ne_eq, not_false_eq_true, reduceCtorEq]; rfl) rfl (by simp) (by simp) ?_)
            exact hQ
    · cases hd
  · cases hd

end Go.Dl

namespace Go.Dl
open Go.RowKit
open Go.Proofs
set_option linter.unusedSimpArgs false
set_option linter.unusedVariables false

def decToks : List (List C) → Option (List Tok)
  | [] => some []
  | [.v (.int .i64 a), .v (.string b), .v (.int .i64 c)] :: rs => (decToks rs).map fun l => (a, b, c) :: l
  | _ => none
theorem decToks_eq : ∀ {rows : List (List C)} {l : List Tok}, decToks rows = some l → rows = l.map tokC
  | [], l, h => by cases h; rfl
  | r :: rs, l, h => by
    unfold decToks at h
    split at h
    · rename_i hh; cases hh
    · rename_i a b c rs' hh
      cases hh
      cases hd : decToks rs with
      | none => rw [hd] at h; cases h
      | some l' =>
        rw [hd] at h
        cases h
        rw [decToks_eq hd]; rfl
    · cases h
theorem decToks_map : ∀ l : List Tok, decToks (l.map tokC) = some l
  | [] => rfl
  | o :: l => by
    show (decToks (l.map tokC)).map (fun l => o :: l) = _
    rw [decToks_map l]; rfl

/-- A parser. -/
def paObj (l : List Tok) (i : Nat) (e bad : Int) : Obj := ⟨4, [[.s false 3 (l.map tokC), .v (.int .i64 i), .v (.int .i64 e), .v (.int .i64 bad)]]⟩
def decPa : Obj → Option (List Tok × Nat × Int × Int)
  | ⟨4, [[.s false 3 rows, .v (.int .i64 (.ofNat i)), .v (.int .i64 e), .v (.int .i64 bad)]]⟩ => (decToks rows).bind fun l => if l.length ≤ 1000000 ∧ i ≤ 1000000 then some (l, i, e, bad) else none
  | _ => none
theorem decPa_eq {o : Obj} {l : List Tok} {i : Nat} {e bad : Int} (h : decPa o = some (l, i, e, bad)) : o = paObj l i e bad ∧ l.length ≤ 1000000 ∧ i ≤ 1000000 := by
  unfold decPa at h
  split at h
  · rename_i rows i' e' bad'
    cases hr : decToks rows with
    | none => rw [hr] at h; cases h
    | some l' =>
      rw [hr] at h
      simp only [Z8] at h
      split at h
      · rename_i hc
        cases h
        rw [decToks_eq hr]
        exact ⟨rfl, hc⟩
      · cases h
  · cases h
theorem decPa_pa {l : List Tok} {i : Nat} {e bad : Int} (h1 : l.length ≤ 1000000) (h2 : i ≤ 1000000) : decPa (paObj l i e bad) = some (l, i, e, bad) := by
  have h : decPa ⟨4, [[.s false 3 (l.map tokC), .v (.int .i64 (Int.ofNat i)), .v (.int .i64 e), .v (.int .i64 bad)]]⟩ = some (l, i, e, bad) := by
    simp only [decPa, decToks_map, Z8, if_pos (And.intro h1 h2)]
  exact h

def hereF (l : List Tok) (i : Nat) (e : Int) : Int := match l[i]? with
  | some t => t.2.2
  | none => e
def failF (l : List Tok) (i : Nat) (e bad : Int) : Int := if bad < 0 then hereF l i e else bad

def oHere : List D → List Obj → Option (D × List Obj)
  | [.c (.p 0 0 0)], [o] => (decPa o).map fun r => (dI (hereF r.1 r.2.1 r.2.2.1), [o])
  | _, _ => none

theorem meets75 : Meets Try.prog 75 (detS oHere) := by
  refine meets_of_tri (show Try.prog.funcs[75]? = some Try.f75 by kernel_rfl) rfl (n := 28) rfl (rs := [ResultVar.tmp 2]) rfl ?_
  rintro args objs Q ⟨d, os, hd, hQ⟩
  unfold oHere at hd
  split at hd
  · rename_i o
    cases hp : decPa o with
    | none => rw [hp] at hd; cases hd
    | some r =>
      obtain ⟨l, i, e, bad⟩ := r
      rw [hp] at hd
      cases hd
      obtain ⟨rfl, hl, hi⟩ := decPa_eq hp
      have hlm : l.length ≤ maxStr := by unfold maxStr; omega
      simp only [paObj] at hQ ⊢
      refine seq_run ok0 rfl (by repeat (first | with_reducible exact runf_nil | refine runf_cons (by simp only [xstep, stepf, stepx, qev, St.ev, St.put, constD, constC, Z5, Z6, List.replicate, Z9, Z10, Z23, Z12, Z13, Z24, Z4, Nat.reduceSub, Z3, Z14]; rfl) ?_)) ?_
      by_cases hil : i < l.length
      · obtain ⟨x, hx⟩ : ∃ x, l[i]? = some x := ⟨l[i], List.getElem?_eq_getElem hil⟩
        have hlt : ((i : Int) < (l.length : Int)) = True := eq_true (by omega)
        simp only [hereF, hx] at hQ
        refine seq_in (seq_any mixed ok0 rfl (by kernel_rfl) (by repeat (first | with_reducible exact runf_nil | refine runf_cons (by simp only [xstep, stepf, stepx, qev, St.ev, St.put, qload, cellsAt, qmk, C.cpy, TK.agg, qnil, qfieldAddr, qint, qshift, isShift, qbin, qlen, qbuiltin, liveR, C.cp, Z1, Z2, Z5, Z6, Z9, Z10, Z13, Z24, Z16, Z18, Z17, Z20, Z19, Z21, Z8, Z4, Z11, if_true, if_false, and_self, decide_true, Z3, reduceCtorEq, Z7, Nat.add_zero, Z14, Z26, tk3, tsz3, tk23, tsz23, tk80, List.length_map, hlm, hlt]; rfl) ?_)) ?_)
        refine tri_cond rfl (fun _ => ?_) (fun h => by cases h)
        refine seq_any mixed ok0 rfl (by kernel_rfl) (by repeat (first | with_reducible exact runf_nil | refine runf_cons (by simp only [xstep, stepf, stepx, qev, St.ev, St.put, D.int, qload, cellsAt, qmk, C.cpy, TK.agg, qnil, qfieldAddr, qindexAddr, liveR, C.cp, Z1, Z2, Z5, Z6, Z9, Z10, Z13, Z24, Z16, Z18, Z17, Z20, Z19, Z21, Z8, Z4, if_true, if_false, and_self, Z3, ne_eq, not_false_eq_true, reduceCtorEq, Z7, Nat.add_zero, Z14, Z26, tk3, tsz3, tk23, tsz23, tk33, tsz33, tk80, Int.toNat_natCast, Int.natCast_nonneg, List.length_map, tokC, hlt, toks_get l i x hx]; rfl) ?_)) ?_
        refine tri_ret (ends_ret (by simp only [outRes, resDs, resD, outD, outC, C.dat, Z1, Z2, Z4, if_true, Z3]; rfl) rfl .nil (by simp) ?_)
        exact hQ
      · have hx : l[i]? = none := List.getElem?_eq_none (by omega)
        simp only [hereF, hx] at hQ
        refine seq_in (seq_any mixed ok0 rfl (by kernel_rfl) (by repeat (first | with_reducible exact runf_nil | refine runf_cons (by simp only [xstep, stepf, stepx, qev, St.ev, St.put, qload, cellsAt, qmk, C.cpy, TK.agg, qnil, qfieldAddr, qint, qshift, isShift, qbin, qlen, qbuiltin, liveR, C.cp, Z1, Z2, Z5, Z6, Z9, Z10, Z13, Z24, Z16, Z18, Z17, Z20, Z19, Z21, Z8, Z4, Z11, if_true, if_false, and_self, decide_false, Z3, reduceCtorEq, Z7, Nat.add_zero, Z14, Z26, tk3, tsz3, tk23, tsz23, tk80, List.length_map, hlm, show ((i : Int) < (l.length : Int)) = False from eq_false (by omega)]; rfl) ?_)) ?_)
        refine tri_cond rfl (fun h => by cases h) (fun _ => then_skip ?_)
        refine seq_run ok0 rfl (by repeat (first | with_reducible exact runf_nil | refine runf_cons (by simp only [xstep, stepf, stepx, qev, St.ev, St.put, qload, cellsAt, qmk, C.cpy, TK.agg, qnil, qfieldAddr, liveR, C.cp, Z1, Z2, Z5, Z6, Z9, Z10, Z13, Z24, Z16, Z18, Z17, Z20, Z19, Z21, Z8, Z4, if_true, if_false, and_self, Z3, reduceCtorEq, Z7, Z14, Z26, tk3, tsz3, tk80]; rfl) ?_)) ?_
        refine tri_ret (ends_ret (by simp only [outRes, resDs, resD, outD, outC, C.dat, Z1, Z2, Z4, if_true, Z3]; rfl) rfl .nil (by simp) ?_)
        exact hQ
  · cases hd

def FsK1 : Fs := { Fs.none with objs := fun k => if k = 75 then some oHere else none }
theorem okK1 : FsOK Try.prog FsK1 := by
  refine ⟨fun _ _ h => (by cases h), fun k f h => ?_⟩
  simp only [FsK1] at h
  split at h
  · rename_i hk; subst hk; cases h; exact ⟨by kernel_rfl, meets75⟩
  · cases h

def oFail : List D → List Obj → Option (D × List Obj)
  | [.c (.p 0 0 0)], [o] => (decPa o).map fun r => (.t [], [paObj r.1 r.2.1 r.2.2.1 (failF r.1 r.2.1 r.2.2.1 r.2.2.2)])
  | _, _ => none

theorem meets62 : Meets Try.prog 62 (detS oFail) := by
  refine meets_of_tri (show Try.prog.funcs[62]? = some Try.f62 by kernel_rfl) rfl (n := 12) rfl (rs := []) rfl ?_
  rintro args objs Q ⟨d, os, hd, hQ⟩
  unfold oFail at hd
  split at hd
  · rename_i o
    cases hp : decPa o with
    | none => rw [hp] at hd; cases hd
    | some r =>
      obtain ⟨l, i, e, bad⟩ := r
      rw [hp] at hd
      cases hd
      obtain ⟨rfl, hl, hi⟩ := decPa_eq hp
      have hlm : l.length ≤ maxStr := by unfold maxStr; omega
      have hH : oHere [.c (.p 0 0 0)] [paObj l i e bad] = some (dI (hereF l i e), [paObj l i e bad]) := by
        simp only [oHere, decPa_pa hl hi, Z4]
      simp only [paObj] at hQ hH ⊢
      by_cases hb : bad < 0
      · simp only [failF, if_pos hb] at hQ
        refine seq_run ok0 rfl (by repeat (first | with_reducible exact runf_nil | refine runf_cons (by simp only [xstep, stepf, stepx, qev, St.ev, St.put, qload, cellsAt, qmk, C.cpy, TK.agg, qnil, qfieldAddr, qint, qshift, isShift, qbin, liveR, C.cp, constD, constC, Z1, Z2, Z5, Z6, List.replicate, Z9, Z10, Z23, Z12, Z13, Z24, Z16, Z18, Z17, Z20, Z19, Z21, Z8, Z4, Z11, Nat.reduceSub, if_true, if_false, and_self, decide_true, Z3, reduceCtorEq, Z7, Z14, Z26, tk3, tsz3, tk80, eq_true hb]; rfl) ?_)) ?_
        refine tri_cond rfl (fun _ => ?_) (fun h => by cases h)
        refine run_end okK1 rfl (by repeat (first | with_reducible exact runf_nil | refine runf_cons (by simp only [xstep, stepf, stepx, evsA, qev, St.ev, St.put, St.with, D.cells, D.cell, qnil, qfieldAddr, liveR, C.st, C.dat, storeA, putCells, Z1, Z2, Z5, Z6, Z9, Z10, Z23, Z12, Z15, Z13, Z16, Z18, Z17, Z20, Z19, Z21, Z8, Z4, Bool.and_true, Nat.reduceAdd, if_true, if_false, and_self, Z3, ne_eq, not_false_eq_true, reduceCtorEq, Nat.le_refl, Z7, implies_true, Z14, beq_self_eq_true, Z26, Bool.true_or, dI, tsz3, tk80, callP, callO, Fs.none, dedup, rootsD, rootsC, List.flatMap_cons, List.flatMap_nil, List.filterMap_cons, List.filterMap_nil, argDs, argD, argC, List.contains_nil, objsAt, objOf, List.idxOf?, List.findIdx?, List.findIdx?.go, setObjs, settle, settle1, settleC, Z25, FsK1, hH]; rfl) ?_)) ?_
        refine ends_norm rfl rfl .nil (by simp) ?_
        exact hQ
      · simp only [failF, if_neg hb] at hQ
        refine seq_run ok0 rfl (by repeat (first | with_reducible exact runf_nil | refine runf_cons (by simp only [xstep, stepf, stepx, qev, St.ev, St.put, qload, cellsAt, qmk, C.cpy, TK.agg, qnil, qfieldAddr, qint, qshift, isShift, qbin, liveR, C.cp, constD, constC, Z1, Z2, Z5, Z6, List.replicate, Z9, Z10, Z23, Z12, Z13, Z24, Z16, Z18, Z17, Z20, Z19, Z21, Z8, Z4, Z11, Nat.reduceSub, if_true, if_false, and_self, decide_false, Z3, reduceCtorEq, Z7, Z14, Z26, tk3, tsz3, tk80, eq_false hb]; rfl) ?_)) ?_
        refine tri_cond rfl (fun h => by cases h) (fun _ => tri_skip ?_)
        refine ends_norm rfl rfl .nil (by simp) ?_
        exact hQ
  · cases hd

end Go.Dl

namespace Go.Dl
open Go.RowKit
open Go.Proofs
set_option linter.unusedSimpArgs false
set_option linter.unusedVariables false

def peekF (l : List Tok) (i : Nat) (bad : Int) (m : ByteArray) : Bool := decide (bad < 0) && match l[i]? with
  | some t => decide (t.1 = 3) && strEq t.2.1 m
  | none => false

def oPeek : List D → List Obj → Option (D × List Obj)
  | [.c (.p 0 0 0), .c (.v (.string m))], [o] => (decPa o).map fun r => (dB (peekF r.1 r.2.1 r.2.2.2 m), [o])
  | _, _ => none

theorem meets82 : Meets Try.prog 82 (detS oPeek) := by
  refine meets_of_tri (show Try.prog.funcs[82]? = some Try.f82 by kernel_rfl) rfl (n := 51) rfl (rs := [ResultVar.tmp 4]) rfl ?_
  rintro args objs Q ⟨d, os, hd, hQ⟩
  unfold oPeek at hd
  split at hd
  · rename_i m o
    cases hp : decPa o with
    | none => rw [hp] at hd; cases hd
    | some r =>
      obtain ⟨l, i, e, bad⟩ := r
      rw [hp] at hd
      cases hd
      obtain ⟨rfl, hl, hi⟩ := decPa_eq hp
      have hlm : l.length ≤ maxStr := by unfold maxStr; omega
      simp only [paObj] at hQ ⊢
      refine seq_run ok0 rfl (by repeat (first | with_reducible exact runf_nil | refine runf_cons (by simp only [xstep, stepf, stepx, qev, St.ev, St.put, constD, constC, Z5, Z6, List.replicate, Z9, Z10, Z23, Z12, Z13, Z24, Z4, Nat.reduceAdd, Nat.reduceSub, Z3, Z14]; rfl) ?_)) ?_
      by_cases hb : bad < 0
      · by_cases hil : i < l.length
        · obtain ⟨x, hx⟩ : ∃ x, l[i]? = some x := ⟨l[i], List.getElem?_eq_getElem hil⟩
          have hlt : ((i : Int) < (l.length : Int)) = True := eq_true (by omega)
          have hg := toks_get l i x hx
          obtain ⟨k, t, at'⟩ := x
          simp only [peekF, hx, hb, decide_true, Bool.true_and] at hQ
          by_cases hk : k = 3
          · simp only [hk, decide_true, Bool.true_and] at hQ
            refine seq_any mixed ok0 rfl (by kernel_rfl) (by repeat (first | with_reducible exact runf_nil | refine runf_cons (by simp only [xstep, stepf, stepx, qev, St.ev, St.put, D.int, qload, cellsAt, qmk, C.cpy, TK.agg, qnil, qfieldAddr, qindexAddr, qpick, qint, qshift, qstr, isShift, qbin, qlen, qbuiltin, liveR, C.cp, constD, constC, Z1, Z2, Z5, Z6, Z9, Z10, Z13, Z24, Z16, Z18, Z17, Z20, Z19, Z21, Z8, Z4, Z11, if_true, if_false, and_self, decide_true, cond_true, Z22, Z3, ne_eq, not_false_eq_true, reduceCtorEq, Z7, Nat.add_zero, Z14, Z26, tk3, tsz3, tk9, tsz9, tk23, tsz23, tk33, tsz33, tk80, Int.toNat_natCast, Int.natCast_nonneg, List.length_map, hlm, tokC, hlt, hg, eq_true hb, eq_true hk]; rfl) ?_)) ?_
            refine tri_ret (ends_ret (by simp only [outRes, resDs, resD, outD, outC, C.dat, Z1, Z2, Z4, if_true, Z3]; rfl) rfl .nil (by simp) ?_)
            exact hQ
          · simp only [hk, decide_false, Bool.false_and] at hQ
            refine seq_any mixed ok0 rfl (by kernel_rfl) (by repeat (first | with_reducible exact runf_nil | refine runf_cons (by simp only [xstep, stepf, stepx, qev, St.ev, St.put, D.int, qload, cellsAt, qmk, C.cpy, TK.agg, qnil, qfieldAddr, qindexAddr, qpick, qint, qshift, isEq, qeq, isShift, qbin, qlen, qbuiltin, liveR, C.cp, constD, constC, Z1, Z2, Z5, Z6, Z9, Z10, Z13, Z24, Z16, Z18, Z17, Z20, Z19, Z21, Z8, Option.bind_none, Z4, Z11, if_true, if_false, and_self, decide_true, decide_false, cond_true, cond_false, Z22, Z3, ne_eq, not_false_eq_true, reduceCtorEq, Z7, Nat.add_zero, Z14, Z26, tk3, tsz3, tk9, tsz9, tk23, tsz23, tk33, tsz33, tk80, Int.toNat_natCast, Int.natCast_nonneg, List.length_map, hlm, tokC, hlt, hg, eq_true hb, eq_false hk]; rfl) ?_)) ?_
            refine tri_ret (ends_ret (by simp only [outRes, resDs, resD, outD, outC, C.dat, Z1, Z2, Z4, if_true, Z3]; rfl) rfl .nil (by simp) ?_)
            exact hQ
        · have hx : l[i]? = none := List.getElem?_eq_none (by omega)
          simp only [peekF, hx, Bool.and_false] at hQ
          refine seq_any mixed ok0 rfl (by kernel_rfl) (by repeat (first | with_reducible exact runf_nil | refine runf_cons (by simp only [xstep, stepf, stepx, qev, St.ev, St.put, D.int, qload, cellsAt, qmk, C.cpy, TK.agg, qnil, qfieldAddr, qpick, qint, qshift, isEq, qeq, isShift, qbin, qlen, qbuiltin, liveR, C.cp, constD, constC, Z1, Z2, Z5, Z6, Z9, Z10, Z13, Z24, Z16, Z18, Z17, Z20, Z19, Z21, Z8, Option.bind_none, Z4, Z11, if_true, if_false, and_self, decide_true, decide_false, cond_true, cond_false, Z22, Z3, reduceCtorEq, Z7, Nat.add_zero, Z14, Z26, tk3, tsz3, tk9, tsz9, tk23, tsz23, tk33, tk80, List.length_map, hlm, eq_true hb, show ((i : Int) < (l.length : Int)) = False from eq_false (by omega)]; rfl) ?_)) ?_
          refine tri_ret (ends_ret (by simp only [outRes, resDs, resD, outD, outC, C.dat, Z1, Z2, Z4, if_true, Z3]; rfl) rfl .nil (by simp) ?_)
          exact hQ
      · simp only [peekF, hb, decide_false, Bool.false_and] at hQ
        refine seq_any mixed ok0 rfl (by kernel_rfl) (by repeat (first | with_reducible exact runf_nil | refine runf_cons (by simp only [xstep, stepf, stepx, qev, St.ev, St.put, D.int, qload, cellsAt, qmk, C.cpy, TK.agg, qnil, qfieldAddr, qpick, qint, qshift, isEq, qeq, isShift, qbin, qlen, qbuiltin, liveR, C.cp, constD, constC, Z1, Z2, Z5, Z6, Z9, Z10, Z13, Z24, Z16, Z18, Z17, Z20, Z19, Z21, Z8, Option.bind_none, Z4, Z11, if_true, if_false, and_self, decide_false, cond_false, Z22, Z3, reduceCtorEq, Z7, Z14, Z26, tk3, tsz3, tk9, tsz9, tsz23, tk33, tk80, eq_false hb]; rfl) ?_)) ?_
        refine tri_ret (ends_ret (by simp only [outRes, resDs, resD, outD, outC, C.dat, Z1, Z2, Z4, if_true, Z3]; rfl) rfl .nil (by simp) ?_)
        exact hQ
  · cases hd

def FsK2 : Fs := { Fs.none with objs := fun k => if k = 62 then some oFail else if k = 82 then some oPeek else none }
theorem okK2 : FsOK Try.prog FsK2 := by
  refine ⟨fun _ _ h => (by cases h), fun k f h => ?_⟩
  simp only [FsK2] at h
  split at h
  · rename_i hk; subst hk; cases h; exact ⟨by kernel_rfl, meets62⟩
  split at h
  · rename_i hk; subst hk; cases h; exact ⟨by kernel_rfl, meets82⟩
  · cases h

/-- A token of a kind: its text, the next place, the first error. -/
def takeF (l : List Tok) (i : Nat) (e bad kind : Int) : ByteArray × Nat × Int :=
  if 0 ≤ bad then (noText, i, bad) else match l[i]? with
    | some t => if t.1 = kind then (t.2.1, i + 1, bad) else (noText, i, failF l i e bad)
    | none => (noText, i, failF l i e bad)

def oTakeP : List D → List Obj → Option (D × List Obj)
  | [.c (.p 0 0 0), .c (.v (.int .i64 kind))], [o] => (decPa o).map fun r => (.c (.v (.string (takeF r.1 r.2.1 r.2.2.1 r.2.2.2 kind).1)), [paObj r.1 (takeF r.1 r.2.1 r.2.2.1 r.2.2.2 kind).2.1 r.2.2.1 (takeF r.1 r.2.1 r.2.2.1 r.2.2.2 kind).2.2])
  | _, _ => none

theorem meets68 : Meets Try.prog 68 (detS oTakeP) := by
  refine meets_of_tri (show Try.prog.funcs[68]? = some Try.f68 by kernel_rfl) rfl (n := 56) rfl (rs := [ResultVar.tmp 4]) rfl ?_
  rintro args objs Q ⟨d, os, hd, hQ⟩
  unfold oTakeP at hd
  split at hd
  · rename_i kind o
    cases hp : decPa o with
    | none => rw [hp] at hd; cases hd
    | some r =>
      obtain ⟨l, i, e, bad⟩ := r
      rw [hp] at hd
      cases hd
      obtain ⟨rfl, hl, hi⟩ := decPa_eq hp
      have hlm : l.length ≤ maxStr := by unfold maxStr; omega
      have hF : oFail [.c (.p 0 0 0)] [paObj l i e bad] = some (.t [], [paObj l i e (failF l i e bad)]) := by
        simp only [oFail, decPa_pa hl hi, Z4]
      simp only [paObj] at hQ hF ⊢
      refine seq_run ok0 rfl (by repeat (first | with_reducible exact runf_nil | refine runf_cons (by simp only [xstep, stepf, stepx, qev, St.ev, St.put, constD, constC, Z5, Z6, List.replicate, Z9, Z10, Z23, Z12, Z13, Z24, Z4, Nat.reduceAdd, Nat.reduceSub, Z3, Z14]; rfl) ?_)) ?_
      by_cases hb : 0 ≤ bad
      · simp only [takeF, if_pos hb] at hQ
        refine seq_in (seq_run ok0 rfl (by repeat (first | with_reducible exact runf_nil | refine runf_cons (by simp only [xstep, stepf, stepx, qev, St.ev, St.put, qload, cellsAt, qmk, C.cpy, TK.agg, qnil, qfieldAddr, qint, qshift, isShift, qbin, liveR, C.cp, constD, constC, Z1, Z2, Z5, Z6, Z9, Z10, Z13, Z24, Z16, Z18, Z17, Z20, Z19, Z21, Z8, Z4, Z11, if_true, if_false, and_self, decide_true, Z3, reduceCtorEq, Z7, Z14, Z26, tk3, tsz3, tk80, eq_true hb]; rfl) ?_)) ?_)
        refine tri_cond rfl (fun _ => ?_) (fun h => by cases h)
        refine seq_run ok0 rfl (by repeat (first | with_reducible exact runf_nil | refine runf_cons (by simp only [xstep, stepf, stepx, qev, St.ev, St.put, constD, constC, Z5, Z6, Z4, Z3]; rfl) ?_)) ?_
        refine tri_ret (ends_ret (by simp only [outRes, resDs, resD, outD, outC, C.dat, Z1, Z2, Z4, if_true, Z3]; rfl) rfl .nil (by simp) ?_)
        exact hQ
      · simp only [takeF, if_neg hb] at hQ
        refine seq_in (seq_run ok0 rfl (by repeat (first | with_reducible exact runf_nil | refine runf_cons (by simp only [xstep, stepf, stepx, qev, St.ev, St.put, qload, cellsAt, qmk, C.cpy, TK.agg, qnil, qfieldAddr, qint, qshift, isShift, qbin, liveR, C.cp, constD, constC, Z1, Z2, Z5, Z6, Z9, Z10, Z13, Z24, Z16, Z18, Z17, Z20, Z19, Z21, Z8, Z4, Z11, if_true, if_false, and_self, decide_false, Z3, reduceCtorEq, Z7, Z14, Z26, tk3, tsz3, tk80, eq_false hb]; rfl) ?_)) ?_)
        refine tri_cond rfl (fun h => by cases h) (fun _ => then_skip ?_)
        by_cases hil : i < l.length
        · obtain ⟨x, hx⟩ : ∃ x, l[i]? = some x := ⟨l[i], List.getElem?_eq_getElem hil⟩
          have hlt : ((i : Int) < (l.length : Int)) = True := eq_true (by omega)
          have hge : ((l.length : Int) ≤ (i : Int)) = False := eq_false (by omega)
          have hg := toks_get l i x hx
          have hw := wrap_succ i l.length hil hlm
          have hw1 : IntKind.wrap .i64 (((i + 1 : Nat) : Int) - 1) = (i : Int) := by rw [wrap_i64 _ (by omega) (by omega)]; omega
          obtain ⟨k, t, at'⟩ := x
          simp only [hx] at hQ
          by_cases hk : k = kind
          · simp only [if_pos hk] at hQ
            refine seq_in (seq_any mixed ok0 rfl (by kernel_rfl) (by repeat (first | with_reducible exact runf_nil | refine runf_cons (by simp only [xstep, stepf, stepx, qev, St.ev, St.put, D.int, qload, cellsAt, qmk, C.cpy, TK.agg, qnil, qfieldAddr, qindexAddr, qpick, qint, qshift, isShift, qbin, qlen, qbuiltin, liveR, C.cp, constD, constC, Z1, Z2, Z5, Z6, Z9, Z10, Z13, Z24, Z16, Z18, Z17, Z20, Z19, Z21, Z8, Z4, Z11, if_true, if_false, and_self, decide_true, decide_false, Bool.not_true, cond_false, Z22, Z3, ne_eq, not_false_eq_true, reduceCtorEq, Z7, Nat.add_zero, Z14, Z26, tk3, tsz3, tk23, tsz23, tk33, tsz33, tk80, Int.toNat_natCast, Int.natCast_nonneg, List.length_map, hlm, tokC, hlt, hge, hg, eq_true hk]; rfl) ?_)) ?_)
            refine tri_cond rfl (fun h => by cases h) (fun _ => then_skip ?_)
            refine seq_run ok0 rfl (by repeat (first | with_reducible exact runf_nil | refine runf_cons (by simp only [xstep, stepf, stepx, qev, St.ev, St.put, D.cells, qload, cellsAt, qmk, C.cpy, TK.agg, qnil, qfieldAddr, qint, qshift, isShift, qbin, liveR, C.st, C.cp, C.dat, storeA, putCells, constD, constC, Z1, Z2, Z5, Z6, Z9, Z10, Z23, Z12, Z13, Z24, Z16, Z18, Z17, Z20, Z19, Z21, Z8, Z4, Z11, Nat.reduceAdd, if_true, if_false, and_self, Z3, ne_eq, not_false_eq_true, reduceCtorEq, Nat.reduceLeDiff, Z7, implies_true, Z14, Z26, tk3, tsz3, tk80, hw]; rfl) ?_)) ?_
            refine seq_any mixed ok0 rfl (by kernel_rfl) (by repeat (first | with_reducible exact runf_nil | refine runf_cons (by simp only [xstep, stepf, stepx, qev, St.ev, St.put, D.int, qload, cellsAt, qmk, C.cpy, TK.agg, qnil, qfieldAddr, qindexAddr, qint, qshift, isShift, qbin, liveR, C.cp, constD, constC, Z1, Z2, Z5, Z6, Z9, Z10, Z13, Z24, Z16, Z18, Z17, Z20, Z19, Z21, Z8, Z4, Z11, if_true, if_false, and_self, Z3, ne_eq, not_false_eq_true, reduceCtorEq, Z7, Nat.add_zero, Z14, Z26, tk3, tsz3, tk9, tsz9, tk23, tsz23, tk33, tsz33, tk80, Int.toNat_natCast, Int.natCast_nonneg, List.length_map, tokC, hw1, hlt, hg]; rfl) ?_)) ?_
            refine tri_ret (ends_ret (by simp only [outRes, resDs, resD, outD, outC, C.dat, Z1, Z2, Z4, if_true, Z3]; rfl) rfl .nil (by simp) ?_)
            exact hQ
          · simp only [if_neg hk] at hQ
            refine seq_in (seq_any mixed ok0 rfl (by kernel_rfl) (by repeat (first | with_reducible exact runf_nil | refine runf_cons (by simp only [xstep, stepf, stepx, qev, St.ev, St.put, D.int, qload, cellsAt, qmk, C.cpy, TK.agg, qnil, qfieldAddr, qindexAddr, qpick, qint, qshift, isShift, qbin, qlen, qbuiltin, liveR, C.cp, constD, constC, Z1, Z2, Z5, Z6, Z9, Z10, Z13, Z24, Z16, Z18, Z17, Z20, Z19, Z21, Z8, Z4, Z11, if_true, if_false, and_self, decide_false, Bool.not_false, cond_false, Z22, Z3, ne_eq, not_false_eq_true, reduceCtorEq, Z7, Nat.add_zero, Z14, Z26, tk3, tsz3, tk23, tsz23, tk33, tsz33, tk80, Int.toNat_natCast, Int.natCast_nonneg, List.length_map, hlm, tokC, hlt, hge, hg, eq_false hk]; rfl) ?_)) ?_)
            refine tri_cond rfl (fun _ => ?_) (fun h => by cases h)
            refine seq_run okK2 rfl (by repeat (first | with_reducible exact runf_nil | refine runf_cons (by simp only [xstep, stepf, stepx, evsA, qev, St.ev, St.put, St.with, D.cell, C.dat, Z1, Z2, Z5, Z6, Z9, Z10, Z12, Z15, Z13, Z16, Z18, Z8, Z4, Bool.and_true, Nat.reduceEqDiff, if_true, if_false, and_self, Z3, Z7, Z14, beq_self_eq_true, Z26, Bool.true_or, callP, callO, Fs.none, dedup, rootsD, rootsC, List.flatMap_cons, List.flatMap_nil, List.filterMap_cons, List.filterMap_nil, argDs, argD, argC, List.contains_nil, objsAt, objOf, List.idxOf?, List.findIdx?, List.findIdx?.go, setObjs, settle, settleDs, Z25, FsK2, hF]; rfl) ?_)) ?_
            refine seq_run ok0 rfl (by repeat (first | with_reducible exact runf_nil | refine runf_cons (by simp only [xstep, stepf, stepx, qev, St.ev, St.put, constD, constC, Z5, Z6, Z4, Z3]; rfl) ?_)) ?_
            refine tri_ret (ends_ret (by simp only [outRes, resDs, resD, outD, outC, C.dat, Z1, Z2, Z4, if_true, Z3]; rfl) rfl .nil (by simp) ?_)
            exact hQ
        · have hx : l[i]? = none := List.getElem?_eq_none (by omega)
          simp only [hx] at hQ
          refine seq_in (seq_any mixed ok0 rfl (by kernel_rfl) (by repeat (first | with_reducible exact runf_nil | refine runf_cons (by simp only [xstep, stepf, stepx, qev, St.ev, St.put, D.int, qload, cellsAt, qmk, C.cpy, TK.agg, qnil, qfieldAddr, qpick, qint, qshift, isEq, qeq, isShift, qbin, qlen, qbuiltin, liveR, C.cp, constD, constC, Z1, Z2, Z5, Z6, Z9, Z10, Z13, Z24, Z16, Z18, Z17, Z20, Z19, Z21, Z8, Option.bind_none, Z4, Z11, if_true, if_false, and_self, decide_true, cond_true, Z22, Z3, reduceCtorEq, Z7, Nat.add_zero, Z14, Z26, tk3, tsz3, tk23, tsz23, tk33, tk80, List.length_map, hlm, show ((l.length : Int) ≤ (i : Int)) = True from eq_true (by omega)]; rfl) ?_)) ?_)
          refine tri_cond rfl (fun _ => ?_) (fun h => by cases h)
          refine seq_run okK2 rfl (by repeat (first | with_reducible exact runf_nil | refine runf_cons (by simp only [xstep, stepf, stepx, evsA, qev, St.ev, St.put, St.with, D.cell, C.dat, Z1, Z2, Z5, Z6, Z9, Z10, Z12, Z15, Z13, Z16, Z18, Z8, Z4, Bool.and_true, Nat.reduceEqDiff, if_true, if_false, and_self, Z3, Z7, Z14, beq_self_eq_true, Z26, Bool.true_or, callP, callO, Fs.none, dedup, rootsD, rootsC, List.flatMap_cons, List.flatMap_nil, List.filterMap_cons, List.filterMap_nil, argDs, argD, argC, List.contains_nil, objsAt, objOf, List.idxOf?, List.findIdx?, List.findIdx?.go, setObjs, settle, settleDs, Z25, FsK2, hF]; rfl) ?_)) ?_
          refine seq_run ok0 rfl (by repeat (first | with_reducible exact runf_nil | refine runf_cons (by simp only [xstep, stepf, stepx, qev, St.ev, St.put, constD, constC, Z5, Z6, Z4, Z3]; rfl) ?_)) ?_
          refine tri_ret (ends_ret (by simp only [outRes, resDs, resD, outD, outC, C.dat, Z1, Z2, Z4, if_true, Z3]; rfl) rfl .nil (by simp) ?_)
          exact hQ
  · cases hd

/-- A mark. -/
def markF (l : List Tok) (i : Nat) (e bad : Int) (m : ByteArray) : Nat × Int := if peekF l i bad m = true then (i + 1, bad) else (i, failF l i e bad)
def oMark : List D → List Obj → Option (D × List Obj)
  | [.c (.p 0 0 0), .c (.v (.string m))], [o] => (decPa o).map fun r => (.t [], [paObj r.1 (markF r.1 r.2.1 r.2.2.1 r.2.2.2 m).1 r.2.2.1 (markF r.1 r.2.1 r.2.2.1 r.2.2.2 m).2])
  | _, _ => none

theorem meets70 : Meets Try.prog 70 (detS oMark) := by
  refine meets_of_tri (show Try.prog.funcs[70]? = some Try.f70 by kernel_rfl) rfl (n := 17) rfl (rs := []) rfl ?_
  rintro args objs Q ⟨d, os, hd, hQ⟩
  unfold oMark at hd
  split at hd
  · rename_i m o
    cases hp : decPa o with
    | none => rw [hp] at hd; cases hd
    | some r =>
      obtain ⟨l, i, e, bad⟩ := r
      rw [hp] at hd
      cases hd
      obtain ⟨rfl, hl, hi⟩ := decPa_eq hp
      have hlm : l.length ≤ maxStr := by unfold maxStr; omega
      have hF : oFail [.c (.p 0 0 0)] [paObj l i e bad] = some (.t [], [paObj l i e (failF l i e bad)]) := by
        simp only [oFail, decPa_pa hl hi, Z4]
      have hP : oPeek [.c (.p 0 0 0), .c (.v (.string m))] [paObj l i e bad] = some (dB (peekF l i bad m), [paObj l i e bad]) := by
        simp only [oPeek, decPa_pa hl hi, Z4]
      have hw := wrap_succ i 2000000 (by omega) (by decide)
      simp only [paObj] at hQ hF hP ⊢
      cases hpk : peekF l i bad m with
      | true =>
        rw [hpk] at hP
        simp only [markF, hpk, if_true] at hQ
        refine seq_in (seq_run okK2 rfl (by repeat (first | with_reducible exact runf_nil | refine runf_cons (by simp only [xstep, stepf, stepx, evsA, qev, St.ev, St.put, St.with, D.cell, C.cpy, qun, C.cp, C.dat, Z1, Z2, Z5, Z6, List.replicate, Z9, Z10, Z23, Z12, Z15, Z13, Z24, Z16, Z18, Z8, Z4, Bool.and_true, Nat.reduceAdd, Nat.reduceSub, Nat.reduceEqDiff, if_true, if_false, and_self, Bool.not_true, Z3, Z7, Z14, beq_self_eq_true, Z26, Bool.true_or, dB, callP, callO, Fs.none, dedup, rootsD, rootsC, List.flatMap_cons, List.flatMap_nil, List.filterMap_cons, List.filterMap_nil, argDs, argD, argC, List.contains_nil, objsAt, objOf, List.idxOf?, List.findIdx?, List.findIdx?.go, setObjs, settle, settle1, settleC, Z25, FsK2, hP]; rfl) ?_)) ?_)
        refine tri_cond rfl (fun h => by cases h) (fun _ => then_skip ?_)
        refine run_end ok0 rfl (by repeat (first | with_reducible exact runf_nil | refine runf_cons (by simp only [xstep, stepf, stepx, qev, St.ev, St.put, D.cells, qload, cellsAt, qmk, C.cpy, TK.agg, qnil, qfieldAddr, qint, qshift, isShift, qbin, liveR, C.st, C.cp, C.dat, storeA, putCells, constD, constC, Z1, Z2, Z5, Z6, Z9, Z10, Z23, Z12, Z13, Z24, Z16, Z18, Z17, Z20, Z19, Z21, Z8, Z4, Z11, Nat.reduceAdd, if_true, if_false, and_self, Z3, ne_eq, not_false_eq_true, reduceCtorEq, Nat.reduceLeDiff, Z7, implies_true, Z14, Z26, tk3, tsz3, tk80, hw]; rfl) ?_)) ?_
        refine ends_norm rfl rfl .nil (by simp) ?_
        exact hQ
      | false =>
        rw [hpk] at hP
        simp only [markF, hpk, Z7, if_false] at hQ
        refine seq_in (seq_run okK2 rfl (by repeat (first | with_reducible exact runf_nil | refine runf_cons (by simp only [xstep, stepf, stepx, evsA, qev, St.ev, St.put, St.with, D.cell, C.cpy, qun, C.cp, C.dat, Z1, Z2, Z5, Z6, List.replicate, Z9, Z10, Z23, Z12, Z15, Z13, Z24, Z16, Z18, Z8, Z4, Bool.and_true, Nat.reduceAdd, Nat.reduceSub, Nat.reduceEqDiff, if_true, if_false, and_self, Bool.not_false, Z3, Z7, Z14, beq_self_eq_true, Z26, Bool.true_or, dB, callP, callO, Fs.none, dedup, rootsD, rootsC, List.flatMap_cons, List.flatMap_nil, List.filterMap_cons, List.filterMap_nil, argDs, argD, argC, List.contains_nil, objsAt, objOf, List.idxOf?, List.findIdx?, List.findIdx?.go, setObjs, settle, settle1, settleC, Z25, FsK2, hP]; rfl) ?_)) ?_)
        refine tri_cond rfl (fun _ => ?_) (fun h => by cases h)
        refine seq_run okK2 rfl (by repeat (first | with_reducible exact runf_nil | refine runf_cons (by simp only [xstep, stepf, stepx, evsA, qev, St.ev, St.put, St.with, D.cell, C.dat, Z1, Z2, Z5, Z6, Z9, Z10, Z12, Z15, Z13, Z16, Z18, Z8, Z4, Bool.and_true, Nat.reduceEqDiff, if_true, if_false, and_self, Z3, Z7, Z14, beq_self_eq_true, Z26, Bool.true_or, callP, callO, Fs.none, dedup, rootsD, rootsC, List.flatMap_cons, List.flatMap_nil, List.filterMap_cons, List.filterMap_nil, argDs, argD, argC, List.contains_nil, objsAt, objOf, List.idxOf?, List.findIdx?, List.findIdx?.go, setObjs, settle, settleDs, Z25, FsK2, hF]; rfl) ?_)) ?_
        refine tri_ret (ends_ret (by simp only [outRes, resDs, outDs, Z4, Z3]; rfl) rfl .nil (by simp) ?_)
        exact hQ
  · cases hd

end Go.Dl
