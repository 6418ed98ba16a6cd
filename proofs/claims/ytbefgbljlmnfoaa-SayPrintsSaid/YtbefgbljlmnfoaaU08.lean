/- The walk of a quote; The walk of the next token; The walk of Tokens (texts without quotes); The walks of the parser's small functions. -/
import Derived.Test.YtbefgbljlmnfoaaU07
set_option linter.all false
namespace Go.Dl
open Go.RowKit
open Go.Proofs
set_option linter.unusedSimpArgs false
set_option linter.unusedVariables false
def byU (s : ByteArray) (p : Nat) : UInt8 := s.data.toList.getD p 0
def escB (s : ByteArray) : UInt8 := UInt8.ofNat (escF s).1.toNat
/-- A quote's text from a place on; is it whole? where it ends. -/
def quoteN : Nat → ByteArray → Nat → List UInt8 → ByteArray × Bool × Nat
 | 0, _, p, _ => (noText, false, p)
 | n + 1, s, p, acc =>
  if (p : Int) < (s.size : Int) then
   if ((byU s p).toNat : Int) = 34 then (⟨acc.toArray⟩, true, p + 1)
   else if ((byU s p).toNat : Int) = 92 then
    if (s.size : Int) ≤ ((p + 1 : Nat) : Int) then (noText, false, p)
    else if ((byU s (p + 1)).toNat : Int) = 120 then
     if (escF (s.extract (p + 2) s.size)).2 = true then
      if isPlain (escB (s.extract (p + 2) s.size)).toNat = true then (noText, false, p) else quoteN n s (p + 4) (acc ++ [escB (s.extract (p + 2) s.size)])
     else (noText, false, p)
    else (noText, false, p)
   else if isPlain (byU s p).toNat = true then quoteN n s (p + 1) (acc ++ [byU s p]) else (noText, false, p)
  else (noText, false, p)
def quoteF (s : ByteArray) (p : Nat) : ByteArray × Bool × Nat := quoteN (s.size + 1) s (p + 1) []
noncomputable def oQuote := famO (fun x : ByteArray × Nat => x.1.size ≤ 1000000 ∧ x.2 < x.1.size) (fun x => ([.c (.p 0 0 0)], [lxObj x.1 x.2]))
 (fun x => (.t [.c (.v (.string (quoteF x.1 x.2).1)), dB (quoteF x.1 x.2).2.1], [lxObj x.1 (quoteF x.1 x.2).2.2]))
theorem escF_u8 (s : ByteArray) : (escF s).1 = ((escB s).toNat : Int) := by
 have h : 0 ≤ (escF s).1 ∧ (escF s).1 ≤ 255 := by
  unfold escF
  split
  · simp
  · have := wrap_inR .u8 (IntKind.i64.wrap ((BitVec.ofInt IntKind.i64.bits (IntKind.i64.wrap (idxB hexT (s.data.toList.getD 0 0).toNat * 2 ^ min 4 IntKind.i64.bits)) ||| BitVec.ofInt IntKind.i64.bits (idxB hexT (s.data.toList.getD 1 0).toNat)).toNat))
    simp only [inR, Bool.and_eq_true, decide_eq_true_eq] at this
    exact this
 unfold escB
 rw [UInt8.toNat_ofNat']
 omega
theorem esc_at (s : ByteArray) (h : s.size ≤ 1000000) : pEsc [.c (.v (.string s))] = some (.t [.c (.v (.int .u8 (escF s).1)), dB (escF s).2]) :=
 Ym (by
  intro a b h
  simp only [List.cons.injEq, D.c.injEq, C.v.injEq, Value.string.injEq, and_true] at h
  subst h; rfl) s h rfl
theorem plain_at (c : Int) : pU8 isPlain [.c (.v (.int .u8 c))] = some (dB (isPlain c)) := rfl
noncomputable def FsM1 : Fs := { pure := fun k => if k = 33 then some (pU8 isPlain) else if k = 72 then some pEsc else none, objs := fun k => if k = 32 then some oWB else if k = 35 then some oStr else none }
theorem okM1 : FsOK Try.prog FsM1 := by
 refine ⟨fun k f h => ?_, fun k f h => ?_⟩
 · simp only [FsM1] at h
   split at h
   · rename_i hk; subst hk; cases h; exact ⟨by kernel_rfl, meets33⟩
   split at h
   · rename_i hk; subst hk; cases h; exact ⟨by kernel_rfl, meets72⟩
   · cases h
 · simp only [FsM1] at h
   split at h
   · rename_i hk; subst hk; cases h; exact ⟨by kernel_rfl, meets32⟩
   split at h
   · rename_i hk; subst hk; cases h; exact ⟨by kernel_rfl, meets35⟩
   · cases h
theorem meets57 : Meets Try.prog 57 (detS oQuote) := by
 refine meets_famO (show Try.prog.funcs[57]? = some Try.f57 by kernel_rfl) rfl (n := 114) rfl (rs := [ResultVar.tmp 2, ResultVar.tmp 3]) rfl ?_
 intro x hx Q hQ
 obtain ⟨s, p⟩ := x
 obtain ⟨hs, hp⟩ := hx
 dsimp only at hs hp hQ
 simp only [lxObj] at hQ
 have hsm : s.size ≤ maxStr := by unfold maxStr; omega
 refine Y3 ok0 rfl (by repeat first | with_reducible exact Y2 | refine Y1 (by simp only [Y5, Y4, Y6, qev, St.ev, St.put, Y8, Y7, List.replicate, Nat.reduceSub, lxObj, ZA]; rfl) ?_) ?_
 refine seq_runR ?_
 refine rr_bld 5 rfl rfl Try.zeroValue69 (rr_nil ?_)
 refine seq_in ?_
 refine Y3 ok0 rfl (by repeat first | with_reducible exact Y2 | refine Y1 (by simp only [Y5, Y4, Y6, qev, St.ev, St.put, St.with, D.cells, qload, Y9, qmk, C.cpy, TK.agg, qnil, Yb, qint, Yc, Ya, qbin, liveR, C.st, C.cp, C.dat, storeA, putCells, Y8, Y7, Nat.reduceAdd, if_true, if_false, ne_eq, reduceCtorEq, Nat.le_refl, implies_true, tk3, tsz3, tk61, wrap_succ p s.size hp hsm, ZA]; rfl) ?_) ?_
 refine tri_block ?_
 refine tri_loop_le (fun n A => ∃ (f p : Nat) (acc : List UInt8), p ≤ s.size ∧ acc.length ≤ p ∧ n = s.size - p ∧ n < f ∧
   Q (.t [.c (.v (.string (quoteN f s p acc).1)), dB (quoteN f s p acc).2.1]) [⟨2, [[.v (.string s), .v (.int .i64 (quoteN f s p acc).2.2)]]⟩] ∧
   A = ⟨[.c (.p 0 0 0), .o, .c (.v (.string ⟨#[]⟩)), dB false, .c (.p 1 0 0), .o, .o, .o, .o, .o, .o, .o, .o, .o, .o, .o, .o, .o, .o, .o, .o, .o, .o, .o, .o, .o, .o, .o, .o, .o, .o, .o, .o, .o, .o, .o, .o, .o, .o, .o, .o, .o, .o, .o, .o, .o, .o, .o, .o, .o, .o, .o, .o, .o, .o, .o, .o, .o, .o, .o, .o, .o, .o, .o, .o, .o, .o, .o, .o, .o, .o, .o, .o, .o, .o, .o, .o, .o, .o, .o, .o, .o, .o, .o, .o, .o, .o, .o, .o, .o, .o, .o, .o, .o, .o, .o, .o, .o, .o, .o, .o, .o, .o, .o, .o, .o, .o, .o, .o, .o, .o, .o, .o, .o], [some ⟨false, 2, [[.v (.string s), .v (.int .i64 p)]]⟩, some ⟨false, 2, [[.b 69, .u 5 acc]]⟩]⟩) (s.size - (p + 1))
  (B := ⟨[.c (.p 0 0 0), .o, .c (.v (.string ⟨#[]⟩)), dB false, .c (.p 1 0 0), .o, .o, .o, .o, .o, .o, .o, .o, .o, .o, .o, .o, .o, .o, .o, .o, .o, .o, .o, .o, .o, .o, .o, .o, .o, .o, .o, .o, .o, .o, .o, .o, .o, .o, .o, .o, .o, .o, .o, .o, .o, .o, .o, .o, .o, .o, .o, .o, .o, .o, .o, .o, .o, .o, .o, .o, .o, .o, .o, .o, .o, .o, .o, .o, .o, .o, .o, .o, .o, .o, .o, .o, .o, .o, .o, .o, .o, .o, .o, .o, .o, .o, .o, .o, .o, .o, .o, .o, .o, .o, .o, .o, .o, .o, .o, .o, .o, .o, .o, .o, .o, .o, .o, .o, .o, .o, .o, .o, .o], [some ⟨false, 2, [[.v (.string s), .v (.int .i64 (p + 1 : Nat))]]⟩, some ⟨false, 2, [[.b 69, .u 5 []]]⟩]⟩)
  ⟨by repeat (first | exact .nil | refine .same ?_ | refine .o ?_), rfl⟩ ⟨s.size + 1, p + 1, [], by omega, by simp, rfl, by omega, hQ, rfl⟩ ?_
 rintro n A ⟨f, p, acc, hp, hacc, rfl, hf, hQ, rfl⟩
 obtain ⟨f, rfl⟩ : ∃ f', f = f' + 1 := ⟨f - 1, by omega⟩
 have hW : ∀ x, oWB [.c (.p 0 0 0), .c (.v (.int .u8 x.toNat))] [⟨2, [[.b 69, .u 5 acc]]⟩] = some (.c (.v .nilIface), [⟨2, [[.b 69, .u 5 (acc ++ [x])]]⟩]) := fun x => wb_at acc x (by omega)
 have hS := str_at acc (by omega)
 have hE := esc_at (s.extract (p + 2) s.size) (by simp; omega)
 have hE1 := escF_u8 (s.extract (p + 2) s.size)
 have hb0 : s.data.toList.getD p 0 = byU s p := rfl
 have hb1 : s.data.toList.getD (p + 1) 0 = byU s (p + 1) := rfl
 have hL : (escF (s.extract (p + 2) s.size)).2 = true → p + 4 ≤ s.size := by
  intro h
  unfold escF at h
  split at h
  · cases h
  · rename_i h2
    simp at h2
    omega
 have hq1 : (p : Int) + 1 = ((p + 1 : Nat) : Int) := by omega
 have hq2 : (p : Int) + 2 = ((p + 2 : Nat) : Int) := by omega
 have hq4 : (p : Int) + 4 = ((p + 4 : Nat) : Int) := by omega
 refine seq_in ?_
 refine Yj mixed okM1 rfl (by kernel_rfl) ?_
 refine ⟨_, (by repeat first | with_reducible exact Y2 | refine Y1 (by simp only [Y5, Y4, Y6, qev, St.ev, St.put, qload, Y9, qmk, C.cpy, TK.agg, qnil, Yb, qint, Yc, Ya, qbin, qlen, qbuiltin, liveR, C.cp, if_true, if_false, reduceCtorEq, Nat.add_zero, dB, tk61, tsz3, tk3, tsz9, tk9, ZA]; rfl) ?_), ?_⟩
 refine Yf rfl (fun a0 => ?_) (fun a0 => ?_)
 ·
  simp only [decide_eq_true_eq] at a0
  refine Ye ?_
  refine tri_block ?_
  refine Yj mixed okM1 rfl (by kernel_rfl) ?_
  refine ⟨_, (by repeat first | with_reducible exact Y2 | refine Y1 (by simp only [Y5, Y4, Y6, qev, St.ev, St.put, D.int, qload, Y9, qmk, C.cpy, TK.agg, qnil, Yb, qindex, liveR, C.cp, if_true, if_false, decide_true, reduceCtorEq, Nat.add_zero, Int.toNat_natCast, Int.natCast_nonneg, hb0, tk61, tsz3, tk3, tsz9, tk9, a0, ZA]; rfl) ?_), ?_⟩
  refine tri_block ?_
  refine Y3 okM1 rfl (by repeat first | with_reducible exact Y2 | refine Y1 (by simp only [Y5, Y4, Y6, qev, St.ev, St.put, qint, Yc, Ya, qbin, Y8, Y7, if_true, if_false, ZA]; rfl) ?_) ?_
  refine Yf rfl (fun a1 => ?_) (fun a1 => ?_)
  ·
   simp only [decide_eq_true_eq] at a1
   refine Y3 okM1 rfl (by repeat first | with_reducible exact Y2 | refine Y1 (by simp only [Y5, Y4, Y6, qev, St.ev, St.put, D.cells, qload, Y9, qmk, C.cpy, TK.agg, qnil, Yb, qint, Yc, Ya, qbin, liveR, C.st, C.cp, C.dat, storeA, putCells, Y8, Y7, Nat.reduceAdd, if_true, if_false, decide_true, ne_eq, reduceCtorEq, Nat.le_refl, implies_true, hq1, tk61, tsz3, tk3, a1, show IntKind.i64.wrap (↑(p + 1) : Int) = _ from wrap_i64 _ (by omega) (by omega), ZA]; rfl) ?_) ?_
   refine Y3 okM1 rfl (by repeat first | with_reducible exact Y2 | refine Y1 (by simp only [Y5, Y4, Y6, evsA, qev, St.ev, St.put, St.with, D.cell, C.dat, Y8, Y7, Bool.and_true, Bool.true_and, Nat.reduceEqDiff, if_true, if_false, beq_self_eq_true, Bool.true_or, callP, callO, dedup, rootsD, rootsC, List.flatMap_cons, List.flatMap_nil, List.filterMap_cons, List.filterMap_nil, Yg, argD, argC, List.contains_nil, objsAt, objOf, List.idxOf?, List.findIdx?, List.findIdx?.go, setObjs, D.ni, D.ni1, C.ni, settle, settle1, settleC, FsM1, hS, ZA]; rfl) ?_) ?_
   refine Yo (Yp (by simp only [outRes, Yi, resD, Yh, outD, outC, C.dat, if_true, ZA]; rfl) rfl (by simp) (by simp) ?_)
   simp only [Z12]
   (simp only [reduceIte, ↓reduceIte, quoteN, dB, a0, a1] at hQ; with_reducible exact hQ)
  ·
   simp only [decide_eq_false_iff_not] at a1
   refine Y3 okM1 rfl (by repeat first | with_reducible exact Y2 | refine Y1 (by simp only [Y5, Y4, Y6, qev, St.ev, St.put, qint, Yc, Ya, qbin, Y8, Y7, if_true, if_false, decide_false, a1, ZA]; rfl) ?_) ?_
   refine Yf rfl (fun a2 => ?_) (fun a2 => ?_)
   ·
    simp only [decide_eq_true_eq] at a2
    refine seq_in ?_
    refine Yj mixed okM1 rfl (by kernel_rfl) ?_
    by_cases a3 : ((↑s.size : Int) ≤ (↑(p + 1) : Int))
    ·
     refine ⟨_, (by repeat first | with_reducible exact Y2 | refine Y1 (by simp only [Y5, Y4, Y6, qev, St.ev, St.put, D.int, qload, Y9, qmk, C.cpy, TK.agg, qnil, Yb, qpick, qint, Yc, isEq, qeq, Ya, qbin, qlen, qbuiltin, liveR, C.cp, Y8, Y7, Option.bind_none, if_true, if_false, decide_true, cond_true, reduceCtorEq, Nat.add_zero, hq1, tk61, tsz3, tk3, tsz9, tk9, a2, show IntKind.i64.wrap (↑(p + 1) : Int) = _ from wrap_i64 _ (by omega) (by omega), eq_true a3, ZA]; rfl) ?_), ?_⟩
     refine Yf (b := true) rfl (fun _ => ?_) (fun h => by cases h)
     refine Y3 okM1 rfl (by repeat first | with_reducible exact Y2 | refine Y1 (by simp only [Y5, Y4, Y6, qev, St.ev, St.put, Y8, Y7, ZA]; rfl) ?_) ?_
     refine Yo (Yp (by simp only [outRes, Yi, resD, Yh, outD, outC, C.dat, if_true, ZA]; rfl) rfl (by simp) (by simp) ?_)
     simp only [Z12]
     (simp only [reduceIte, ↓reduceIte, Int.reduceEq, quoteN, noText, dB, a0, a2, eq_true a3] at hQ; with_reducible exact hQ)
    ·
     refine ⟨_, (by repeat first | with_reducible exact Y2 | refine Y1 (by simp only [Y5, Y4, Y6, qev, St.ev, St.put, D.int, qload, Y9, qmk, C.cpy, TK.agg, qnil, Yb, qindex, qpick, qint, Yc, Ya, qbin, qlen, qbuiltin, liveR, C.cp, Y8, Y7, if_true, if_false, decide_true, decide_false, cond_false, reduceCtorEq, Nat.add_zero, Int.toNat_natCast, Int.natCast_nonneg, hb1, hq1, tk61, tsz3, tk3, tsz9, tk9, a2, show IntKind.i64.wrap (↑(p + 1) : Int) = _ from wrap_i64 _ (by omega) (by omega), eq_false a3, show ((↑(p + 1) : Int) < (↑s.size : Int)) = True from eq_true (by omega), ZA]; rfl) ?_), ?_⟩
     refine Yf rfl (fun a4 => ?_) (fun a4 => ?_)
     ·
      simp only [decide_eq_false_iff_not, Bool.not_eq_true'] at a4
      refine Y3 okM1 rfl (by repeat first | with_reducible exact Y2 | refine Y1 (by simp only [Y5, Y4, Y6, qev, St.ev, St.put, Y8, Y7, decide_false, Bool.not_false, a4, ZA]; rfl) ?_) ?_
      refine Yo (Yp (by simp only [outRes, Yi, resD, Yh, outD, outC, C.dat, if_true, ZA]; rfl) rfl (by simp) (by simp) ?_)
      simp only [Z12]
      (simp only [reduceIte, ↓reduceIte, Int.reduceEq, quoteN, noText, dB, a0, a2, eq_false a3, a4] at hQ; with_reducible exact hQ)
     ·
      simp only [decide_eq_true_eq, Bool.not_eq_false'] at a4
      refine Ye ?_
      refine Yj mixed okM1 rfl (by kernel_rfl) ?_
      refine ⟨_, (by repeat first | with_reducible exact Y2 | refine Y1 (by simp only [Y5, Y4, Y6, evsA, qev, St.ev, St.put, St.with, D.int, qload, Y9, qmk, C.cpy, TK.agg, qnil, Yb, qint, Yc, Ya, qbin, qbounds, qslice, qext, omap, liveR, C.cp, C.dat, Y8, Y7, Nat.reduceEqDiff, if_true, if_false, decide_true, Bool.not_true, reduceCtorEq, Nat.add_zero, Bool.or_true, callP, Yg, argD, argC, D.ni, D.ni1, C.ni, settle, settle1, settleC, settleDs, dB, Int.toNat_natCast, Int.natCast_nonneg, FsM1, hE, hE1, hq2, tk61, tsz3, tk3, tsz9, tk9, a4, show IntKind.i64.wrap (↑(p + 2) : Int) = _ from wrap_i64 _ (by omega) (by omega), show ((↑(p + 2) : Int) ≤ (↑s.size : Int)) = True from eq_true (by omega), ZA]; rfl) ?_), ?_⟩
      refine seq_in ?_
      by_cases a5 : (((escF (s.extract (p + 2) s.size)).snd) = true)
      ·
       refine Y3 okM1 rfl (by repeat first | with_reducible exact Y2 | refine Y1 (by simp only [Y5, Y4, Y6, evsA, qev, St.ev, St.put, St.with, C.cpy, qpick, qun, C.cp, C.dat, Y8, Y7, Nat.reduceEqDiff, if_true, if_false, Bool.not_true, cond_false, Bool.or_true, callP, Yg, argD, argC, D.ni, D.ni1, C.ni, settle, settle1, settleC, dB, FsM1, plain_at, a5, ZA]; rfl) ?_) ?_
       refine Yf rfl (fun a6 => ?_) (fun a6 => ?_)
       ·
        refine Y3 okM1 rfl (by repeat first | with_reducible exact Y2 | refine Y1 (by simp only [Y5, Y4, Y6, qev, St.ev, St.put, Y8, Y7, a6, ZA]; rfl) ?_) ?_
        refine Yo (Yp (by simp only [outRes, Yi, resD, Yh, outD, outC, C.dat, if_true, ZA]; rfl) rfl (by simp) (by simp) ?_)
        simp only [Z12]
        (simp only [reduceIte, ↓reduceIte, Int.reduceEq, quoteN, noText, dB, a0, a2, eq_false a3, a4, a5, a6] at hQ; with_reducible exact hQ)
       ·
        refine Ye ?_
        refine Y3 okM1 rfl (by repeat first | with_reducible exact Y2 | refine Y1 (by simp only [Y5, Y4, Y6, evsA, qev, St.ev, St.put, St.with, D.cell, C.cpy, C.cp, C.dat, Bool.and_true, Bool.true_and, Nat.reduceEqDiff, if_true, if_false, beq_self_eq_true, Bool.true_or, callP, callO, dedup, rootsD, rootsC, List.flatMap_cons, List.flatMap_nil, List.filterMap_cons, List.filterMap_nil, Yg, argD, argC, List.contains_nil, objsAt, objOf, List.idxOf?, List.findIdx?, List.findIdx?.go, setObjs, D.ni, D.ni1, C.ni, settle, settle1, settleC, FsM1, hW, a6, ZA]; rfl) ?_) ?_
        refine Yk okM1 rfl (by repeat first | with_reducible exact Y2 | refine Y1 (by simp only [Y5, Y4, Y6, qev, St.ev, St.put, D.cells, qload, Y9, qmk, C.cpy, TK.agg, qnil, Yb, qint, Yc, Ya, qbin, liveR, C.st, C.cp, C.dat, storeA, putCells, Y8, Y7, Nat.reduceAdd, if_true, if_false, ne_eq, reduceCtorEq, Nat.le_refl, implies_true, hq4, tk61, tsz3, tk3, show IntKind.i64.wrap (↑(p + 4) : Int) = _ from wrap_i64 _ (by omega) (by omega), ZA]; rfl) ?_) ?_
        simp only []
        (have hL' := hL (by assumption); simp only [quoteN, dB, a0, a2, eq_false a3, a4, a5, a6, reduceIte, Z7, ↓reduceIte, Int.reduceEq] at hQ; exact ⟨s.size - (p + 4), by omega, ⟨[.c (.p 0 0 0), .o, .c (.v (.string ⟨#[]⟩)), dB false, .c (.p 1 0 0), .o, .o, .o, .o, .o, .o, .o, .o, .o, .o, .o, .o, .o, .o, .o, .o, .o, .o, .o, .o, .o, .o, .o, .o, .o, .o, .o, .o, .o, .o, .o, .o, .o, .o, .o, .o, .o, .o, .o, .o, .o, .o, .o, .o, .o, .o, .o, .o, .o, .o, .o, .o, .o, .o, .o, .o, .o, .o, .o, .o, .o, .o, .o, .o, .o, .o, .o, .o, .o, .o, .o, .o, .o, .o, .o, .o, .o, .o, .o, .o, .o, .o, .o, .o, .o, .o, .o, .o, .o, .o, .o, .o, .o, .o, .o, .o, .o, .o, .o, .o, .o, .o, .o, .o, .o, .o, .o, .o, .o], [some ⟨false, 2, [[.v (.string s), .v (.int .i64 (p + 4 : Nat))]]⟩, some ⟨false, 2, [[.b 69, .u 5 (acc ++ [escB (s.extract (p + 2) s.size)])]]⟩]⟩, ⟨by repeat (first | exact .nil | refine .same ?_ | refine .o ?_), rfl⟩, f, p + 4, acc ++ [escB (s.extract (p + 2) s.size)], by omega, by simp; omega, rfl, by omega, hQ, rfl⟩)
      ·
       refine Y3 okM1 rfl (by repeat first | with_reducible exact Y2 | refine Y1 (by simp only [Y5, Y4, Y6, evsA, qev, St.ev, St.put, qpick, qun, Y8, Y7, Nat.reduceEqDiff, if_true, if_false, Bool.not_false, cond_true, reduceCtorEq, callP, callO, Yg, argD, FsM1, eq_false_of_ne_true a5, ZA]; rfl) ?_) ?_
       refine Yf (b := true) rfl (fun _ => ?_) (fun h => by cases h)
       refine Y3 okM1 rfl (by repeat first | with_reducible exact Y2 | refine Y1 (by simp only [Y5, Y4, Y6, qev, St.ev, St.put, Y8, Y7, ZA]; rfl) ?_) ?_
       refine Yo (Yp (by simp only [outRes, Yi, resD, Yh, outD, outC, C.dat, if_true, ZA]; rfl) rfl (by simp) (by simp) ?_)
       simp only [Z12]
       (simp only [reduceIte, Z7, ↓reduceIte, Int.reduceEq, quoteN, noText, dB, a0, a2, eq_false a3, a4, eq_false_of_ne_true a5] at hQ; with_reducible exact hQ)
   ·
    simp only [decide_eq_false_iff_not] at a2
    refine Y3 okM1 rfl (by repeat first | with_reducible exact Y2 | refine Y1 (by simp only [Y5, Y4, Y6, evsA, qev, St.ev, St.put, St.with, C.cpy, qun, C.cp, C.dat, Nat.reduceEqDiff, if_true, if_false, decide_false, Bool.or_true, callP, Yg, argD, argC, D.ni, D.ni1, C.ni, settle, settle1, settleC, dB, FsM1, plain_at, a2, ZA]; rfl) ?_) ?_
    refine Yf rfl (fun a7 => ?_) (fun a7 => ?_)
    ·
     simp only [Bool.not_eq_true'] at a7
     refine Y3 okM1 rfl (by repeat first | with_reducible exact Y2 | refine Y1 (by simp only [Y5, Y4, Y6, qev, St.ev, St.put, Y8, Y7, Bool.not_false, a7, ZA]; rfl) ?_) ?_
     refine Yo (Yp (by simp only [outRes, Yi, resD, Yh, outD, outC, C.dat, if_true, ZA]; rfl) rfl (by simp) (by simp) ?_)
     simp only [Z12]
     (simp only [reduceIte, Z7, ↓reduceIte, quoteN, noText, dB, a0, a1, a2, a7] at hQ; with_reducible exact hQ)
    ·
     simp only [Bool.not_eq_false'] at a7
     refine Y3 okM1 rfl (by repeat first | with_reducible exact Y2 | refine Y1 (by simp only [Y5, Y4, Y6, evsA, qev, St.ev, St.put, St.with, D.cell, C.cpy, C.cp, C.dat, Bool.and_true, Bool.true_and, Nat.reduceEqDiff, if_true, if_false, Bool.not_true, beq_self_eq_true, Bool.true_or, callP, callO, dedup, rootsD, rootsC, List.flatMap_cons, List.flatMap_nil, List.filterMap_cons, List.filterMap_nil, Yg, argD, argC, List.contains_nil, objsAt, objOf, List.idxOf?, List.findIdx?, List.findIdx?.go, setObjs, D.ni, D.ni1, C.ni, settle, settle1, settleC, FsM1, hW, a7, ZA]; rfl) ?_) ?_
     refine Yk okM1 rfl (by repeat first | with_reducible exact Y2 | refine Y1 (by simp only [Y5, Y4, Y6, qev, St.ev, St.put, D.cells, qload, Y9, qmk, C.cpy, TK.agg, qnil, Yb, qint, Yc, Ya, qbin, liveR, C.st, C.cp, C.dat, storeA, putCells, Y8, Y7, Nat.reduceAdd, if_true, if_false, ne_eq, reduceCtorEq, Nat.le_refl, implies_true, hq1, tk61, tsz3, tk3, show IntKind.i64.wrap (↑(p + 1) : Int) = _ from wrap_i64 _ (by omega) (by omega), ZA]; rfl) ?_) ?_
     simp only []
     (simp only [quoteN, dB, a0, a1, a2, a7, reduceIte, ↓reduceIte] at hQ; exact ⟨s.size - (p + 1), by omega, ⟨[.c (.p 0 0 0), .o, .c (.v (.string ⟨#[]⟩)), dB false, .c (.p 1 0 0), .o, .o, .o, .o, .o, .o, .o, .o, .o, .o, .o, .o, .o, .o, .o, .o, .o, .o, .o, .o, .o, .o, .o, .o, .o, .o, .o, .o, .o, .o, .o, .o, .o, .o, .o, .o, .o, .o, .o, .o, .o, .o, .o, .o, .o, .o, .o, .o, .o, .o, .o, .o, .o, .o, .o, .o, .o, .o, .o, .o, .o, .o, .o, .o, .o, .o, .o, .o, .o, .o, .o, .o, .o, .o, .o, .o, .o, .o, .o, .o, .o, .o, .o, .o, .o, .o, .o, .o, .o, .o, .o, .o, .o, .o, .o, .o, .o, .o, .o, .o, .o, .o, .o, .o, .o, .o, .o, .o, .o], [some ⟨false, 2, [[.v (.string s), .v (.int .i64 (p + 1 : Nat))]]⟩, some ⟨false, 2, [[.b 69, .u 5 (acc ++ [byU s p])]]⟩]⟩, ⟨by repeat (first | exact .nil | refine .same ?_ | refine .o ?_), rfl⟩, f, p + 1, acc ++ [byU s p], by omega, by simp; omega, rfl, by omega, hQ, rfl⟩)
 ·
  simp only [decide_eq_false_iff_not] at a0
  refine tri_exit ?_
  show Tri _ _ _ _
  refine Y3 okM1 rfl (by repeat first | with_reducible exact Y2 | refine Y1 (by simp only [Y5, Y4, Y6, qev, St.ev, St.put, Y8, Y7, decide_false, a0, ZA]; rfl) ?_) ?_
  refine Yo (Yp (by simp only [outRes, Yi, resD, Yh, outD, outC, C.dat, if_true, ZA]; rfl) rfl (by simp) (by simp) ?_)
  simp only [Z12]
  (simp only [reduceIte, ↓reduceIte, quoteN, noText, dB, a0] at hQ; with_reducible exact hQ)
end Go.Dl

namespace Go.Dl
open Go.RowKit
open Go.Proofs
set_option linter.unusedSimpArgs false
set_option linter.unusedVariables false
theorem quoteN_le : ∀ (n : Nat) (s : ByteArray) (p : Nat) (acc : List UInt8), p ≤ s.size → p ≤ (quoteN n s p acc).2.2 ∧ (quoteN n s p acc).2.2 ≤ s.size ∧ (quoteN n s p acc).1.size ≤ acc.length + (s.size - p) ∧ ((quoteN n s p acc).2.1 = true → p < (quoteN n s p acc).2.2)
 | 0, s, p, acc, hp => ⟨Nat.le_refl _, hp, Nat.zero_le _, fun h => by cases h⟩
 | n + 1, s, p, acc, hp => by
  have hno : noText.size = 0 := rfl
  simp only [quoteN]
  split
  · rename_i h0
    have h0' : p < s.size := by omega
    split
    · refine ⟨by simp, by simp; omega, ?_, fun _ => by simp⟩
      show acc.toArray.size ≤ _
      simp
    split
    · split
      · simp [hno]; omega
      split
      · split
        · split
          · simp [hno]; omega
          · rename_i h5 _
            have hL : p + 4 ≤ s.size := by
             unfold escF at h5
             split at h5
             · cases h5
             · rename_i h2
               simp at h2
               omega
            obtain ⟨a, b, c, d⟩ := quoteN_le n s (p + 4) (acc ++ [escB (s.extract (p + 2) s.size)]) hL
            simp only [List.length_append, Z9, Z10] at c
            exact ⟨by omega, b, by omega, fun h => by have := d h; omega⟩
        · simp [hno]; omega
      · simp [hno]; omega
    split
    · obtain ⟨a, b, c, d⟩ := quoteN_le n s (p + 1) (acc ++ [byU s p]) (by omega)
      simp only [List.length_append, Z9, Z10] at c
      exact ⟨by omega, b, by omega, fun h => by have := d h; omega⟩
    · simp [hno]; omega
  · simp [hno]; omega
theorem quoteF_le (s : ByteArray) (p : Nat) (h : p < s.size) : p < (quoteF s p).2.2 ∧ (quoteF s p).2.2 ≤ s.size := by
 obtain ⟨a, b, c, d⟩ := quoteN_le (s.size + 1) s (p + 1) [] (by omega)
 exact ⟨by show p < (quoteN _ _ _ _).2.2; omega, b⟩
theorem quoteF_size (s : ByteArray) (p : Nat) (h : p < s.size) : (quoteF s p).1.size ≤ s.size := by
 obtain ⟨a, b, c, d⟩ := quoteN_le (s.size + 1) s (p + 1) [] (by omega)
 have : (quoteN (s.size + 1) s (p + 1) []).1.size ≤ s.size := by simp only [Z10] at c; omega
 exact this
theorem quote_at (s : ByteArray) (p : Nat) (hs : s.size ≤ 1000000) (hp : p < s.size) : oQuote [.c (.p 0 0 0)] [⟨2, [[.v (.string s), .v (.int .i64 p)]]⟩] =
  some (.t [.c (.v (.string (quoteF s p).1)), .c (.v (.bool (quoteF s p).2.1))], [⟨2, [[.v (.string s), .v (.int .i64 (quoteF s p).2.2)]]⟩]) :=
 famO_at (by
  rintro ⟨a, b⟩ ⟨c, d⟩ h
  simp only [lxObj, Prod.mk.injEq, List.cons.injEq, C.v.injEq, Value.string.injEq, Value.int.injEq, Obj.mk.injEq, true_and, and_true] at h
  obtain ⟨rfl, h⟩ := h
  have : b = d := by omega
  subst this; rfl) (s, p) ⟨hs, hp⟩ rfl
noncomputable def FsQ : Fs := { Fs.none with objs := fun k => if k = 57 then some oQuote else none }
theorem okQ : FsOK Try.prog FsQ := by
 refine ⟨fun _ _ h => (by cases h), fun k f h => ?_⟩
 simp only [FsQ] at h
 split at h
 · rename_i hk; subst hk; cases h; exact ⟨by kernel_rfl, meets57⟩
 · cases h
/-- The next token: the token, whether there is one, the error, the place behind it (quotes are left out here). -/
def nextF (s : ByteArray) (p : Nat) : Option (Tok × Bool × Int × Nat) :=
 if blkF s p = s.size then some ((0, noText, 0), false, 0, blkF s p)
 else if isLetter (byt s (blkF s p)) = true then some ((0, s.extract (blkF s p) (runF isWordC s (blkF s p)), blkF s p), true, 0, runF isWordC s (blkF s p))
 else if isDigit (byt s (blkF s p)) = true ∨ byt s (blkF s p) = 45 then
  (if strEq (s.extract (blkF s p) (blkF s p + 1) ++ s.extract (blkF s p + 1) (runF isDigit s (blkF s p + 1))) dash = true then some ((0, noText, blkF s p), false, 4, runF isDigit s (blkF s p + 1))
   else some ((1, s.extract (blkF s p) (blkF s p + 1) ++ s.extract (blkF s p + 1) (runF isDigit s (blkF s p + 1)), blkF s p), true, 0, runF isDigit s (blkF s p + 1)))
 else if byt s (blkF s p) = 34 then (if (quoteF s (blkF s p)).2.1 = true then some ((2, (quoteF s (blkF s p)).1, blkF s p), true, 0, (quoteF s (blkF s p)).2.2) else some ((0, noText, blkF s p), false, 4, (quoteF s (blkF s p)).2.2))
 else if 0 ≤ idxB marks (byt s (blkF s p)) then some ((3, s.extract (blkF s p) (blkF s p + 1), blkF s p), true, 0, blkF s p + 1)
 else some ((0, noText, blkF s p), false, 4, blkF s p)
def oNext : List D → List Obj → Option (D × List Obj)
 | [.c (.p 0 0 0)], [⟨2, [[.v (.string s), .v (.int .i64 (.ofNat p))]]⟩] => if s.size ≤ 1000000 ∧ p ≤ s.size then
  (nextF s p).map fun r => (.t [.agg (tokC r.1), dB r.2.1, .c (.v (.int .i64 r.2.2.1))], [lxObj s r.2.2.2]) else none
 | _, _ => none
set_option maxHeartbeats 2000000 in
theorem meets28 : Meets Try.prog 28 (detS oNext) := by
 refine meets_of_tri (show Try.prog.funcs[28]? = some Try.f28 by kernel_rfl) rfl (n := 131) rfl (rs := [ResultVar.cell 2 33, ResultVar.tmp 3, ResultVar.tmp 4]) rfl ?_
 rintro args objs Q ⟨d, os, hd, hQ⟩
 unfold oNext at hd
 split at hd
 · rename_i s p
   split at hd
   · rename_i hc
     obtain ⟨hs, hp⟩ := hc
     have hB := blk_eq hs hp
     have hql := (blkF_le s p hp).2
     unfold nextF at hd
     generalize blkF s p = q at hB hql hd
     refine Y3 ok0 rfl (by repeat first | with_reducible exact Y2 | refine Y1 (by simp only [Y5, Y4, Y6, qev, St.ev, St.put, St.with, boxA, C.st, Y8, Y7, List.replicate, Nat.reduceAdd, Nat.reduceSub, if_true, tz33, ZA]; rfl) ?_) ?_
     refine Y3 okL5 rfl (by repeat first | with_reducible exact Y2 | refine Y1 (by simp only [Y5, Y4, Y6, evsA, qev, St.ev, St.put, St.with, D.cell, C.dat, Bool.and_true, Nat.reduceEqDiff, if_true, if_false, beq_self_eq_true, Bool.true_or, Int.ofNat_eq_natCast, callP, callO, dedup, rootsD, rootsC, List.flatMap_cons, List.flatMap_nil, List.filterMap_cons, List.filterMap_nil, Yg, argD, argC, List.contains_nil, objsAt, objOf, List.idxOf?, List.findIdx?, List.findIdx?.go, setObjs, settle, settleDs, FsL5, hB, ZA]; rfl) ?_) ?_
     by_cases hend : q = s.size
     · rw [if_pos hend] at hd
       cases hd
       refine seq_in (seq_any mixed ok0 rfl (by kernel_rfl) (by repeat first | with_reducible exact Y2 | refine Y1 (by simp only [Y5, Y4, Y6, qev, St.ev, St.put, qload, Y9, qmk, C.cpy, TK.agg, qnil, Yb, qint, Yc, Ya, qbin, qlen, qbuiltin, liveR, C.cp, if_true, if_false, decide_true, reduceCtorEq, Nat.add_zero, tk3, tsz3, tk9, tsz9, tk61, show ((q : Int) = (s.size : Int)) = True from eq_true (by omega), ZA]; rfl) ?_) ?_)
       refine Yf rfl (fun _ => ?_) (fun h => by cases h)
       refine Y3 ok0 rfl (by repeat first | with_reducible exact Y2 | refine Y1 (by simp only [Y5, Y4, Y6, qev, St.ev, St.put, D.cells, C.st, C.dat, storeA, putCells, Y8, Y7, Nat.reduceAdd, if_true, ne_eq, reduceCtorEq, Nat.le_refl, Nat.reduceBNe, implies_true, tsz3, tsz9, tk33, tsz33, tz33, buildA, partsA, fillA, ZA]; rfl) ?_) ?_
       refine Yo (Yp (by simp only [outRes, Yi, resD, Yh, outD, outC, outCs, tk33, tsz33, qload, Y9, qmk, C.cpy, TK.agg, C.cp, C.dat, Nat.reduceAdd, if_true, ZA]; rfl) rfl (by simp) (by simp) ?_)
       exact hQ
     · rw [if_neg hend] at hd
       have hqs : q < s.size := by omega
       have hlt : ((q : Int) < (s.size : Int)) = True := eq_true (by omega)
       have hw := wrap_succ q s.size hqs (by unfold maxStr; omega)
       refine seq_in (seq_any mixed ok0 rfl (by kernel_rfl) (by repeat first | with_reducible exact Y2 | refine Y1 (by simp only [Y5, Y4, Y6, qev, St.ev, St.put, qload, Y9, qmk, C.cpy, TK.agg, qnil, Yb, qint, Yc, Ya, qbin, qlen, qbuiltin, liveR, C.cp, if_true, if_false, decide_false, reduceCtorEq, Nat.add_zero, tk3, tsz3, tk9, tsz9, tk61, show ((q : Int) = (s.size : Int)) = False from eq_false (by omega), ZA]; rfl) ?_) ?_)
       refine Yf rfl (fun h => by cases h) (fun _ => Ye ?_)
       refine Y3 ok0 rfl (by repeat first | with_reducible exact Y2 | refine Y1 (by simp only [Y5, Y4, Y6, qev, St.ev, St.put, St.with, D.cells, boxA, qload, Y9, qmk, C.cpy, TK.agg, qnil, Yb, liveR, C.st, C.cp, C.dat, storeA, putCells, Nat.reduceAdd, if_true, if_false, ne_eq, reduceCtorEq, Nat.le_refl, Nat.reduceBNe, implies_true, tk3, tsz3, tsz9, tk33, tsz33, tz33, tk61, buildA, partsA, fillA, placeSt, ZA]; rfl) ?_) ?_
       obtain ⟨c, hcb⟩ : ∃ c, (((s.data.toList.getD q 0).toNat : Nat) : Int) = c := ⟨_, rfl⟩
       simp only [byt, hcb] at hd
       refine seq_in (seq_any mixed ok0 rfl (by kernel_rfl) (by repeat first | with_reducible exact Y2 | refine Y1 (by simp only [Y5, Y4, Y6, qev, St.ev, St.put, D.int, qload, Y9, qmk, C.cpy, TK.agg, qnil, Yb, qindex, liveR, C.cp, if_true, if_false, reduceCtorEq, Nat.add_zero, tk3, tsz3, tk9, tsz9, tk61, Int.toNat_natCast, Int.natCast_nonneg, hlt, hcb, ZA]; rfl) ?_) ?_)
       refine tri_block ?_
       have hL : pU8 isLetter [.c (.v (.int .u8 c))] = some (.c (.v (.bool (isLetter c)))) := rfl
       have hD : pU8 isDigit [.c (.v (.int .u8 c))] = some (.c (.v (.bool (isDigit c)))) := rfl
       have hI : pIdxB [.c (.v (.string ⟨#[61, 44, 40, 41, 91, 93, 59]⟩)), .c (.v (.int .u8 c))] = some (.c (.v (.int .i64 (idxB marks c)))) := rfl
       by_cases hl : isLetter c = true
       · rw [if_pos hl] at hd
         cases hd
         rw [hl] at hL
         have hR := run_eq (k := 55) (f := isWordC) rfl hs hql
         refine Y3 okL5 rfl (by repeat first | with_reducible exact Y2 | refine Y1 (by simp only [Y5, Y4, Y6, evsA, qev, St.ev, St.put, St.with, C.cpy, C.cp, C.dat, Nat.reduceEqDiff, if_true, if_false, Bool.true_or, callP, Yg, argD, argC, settle, settle1, settleC, FsL5, hL, ZA]; rfl) ?_) ?_
         refine Yf rfl (fun _ => ?_) (fun h => by cases h)
         refine Yk okL5 rfl (by repeat first | with_reducible exact Y2 | refine Y1 (by simp only [Y5, Y4, Y6, evsA, qev, St.ev, St.put, St.with, D.cells, D.cell, Yb, liveR, C.st, C.dat, storeA, putCells, Y8, Y7, Bool.and_true, Nat.reduceAdd, Nat.reduceEqDiff, if_true, if_false, ne_eq, reduceCtorEq, Nat.reduceLeDiff, implies_true, Nat.add_zero, beq_self_eq_true, Bool.true_or, tsz3, tsz9, tk33, callP, callO, dedup, rootsD, rootsC, List.flatMap_cons, List.flatMap_nil, List.filterMap_cons, List.filterMap_nil, Yg, argD, argC, List.contains_nil, objsAt, objOf, List.idxOf?, List.findIdx?, List.findIdx?.go, setObjs, settle, settle1, settleC, FsL5, hR, ZA]; rfl) ?_) ?_
         refine Y3 ok0 rfl (by repeat first | with_reducible exact Y2 | refine Y1 (by simp only [Y5, Y4, Y6, qev, St.ev, St.put, D.cells, qload, Y9, qmk, C.cpy, TK.agg, C.st, C.cp, C.dat, storeA, putCells, Y8, Y7, Nat.reduceAdd, if_true, ne_eq, reduceCtorEq, Nat.le_refl, implies_true, tk33, tsz33, ZA]; rfl) ?_) ?_
         refine Yo (Yp (by simp only [outRes, Yi, resD, Yh, outD, outC, outCs, tk33, tsz33, qload, Y9, qmk, C.cpy, TK.agg, C.cp, C.dat, Nat.reduceAdd, if_true, ZA]; rfl) rfl (by simp) (by simp) ?_)
         exact hQ
       · rw [if_neg hl] at hd
         have hl : isLetter c = false := by cases h : isLetter c <;> simp_all
         rw [hl] at hL
         refine Y3 okL5 rfl (by repeat first | with_reducible exact Y2 | refine Y1 (by simp only [Y5, Y4, Y6, evsA, qev, St.ev, St.put, St.with, C.cpy, C.cp, C.dat, Nat.reduceEqDiff, if_true, if_false, Bool.true_or, callP, Yg, argD, argC, settle, settle1, settleC, FsL5, hL, ZA]; rfl) ?_) ?_
         refine Yf rfl (fun h => by cases h) (fun _ => ?_)
         refine seq_cut (fun A' => A'.Le ⟨[.c (.p 0 0 0), .o, .c (.p 1 0 0), .o, .o, .c (.p 2 0 0), .c (.v (.int .u8 c)), .o, .o, .o, .o, .o, .o, .o, .o, .o, .o, .o, .o, .o, .o, .o, .o, .o, .o, .o, .o, .o, .o, .o, .o, .o, .o, .o, .o, .o, .o, .o, .o, .o, .o, .o, .o, .o, .o, .o, .o, dB (isDigit c || decide (c = 45)), .o, .o, .o, .o, .o, .o, .o, .o, .o, .o, .o, .o, .o, .o, .o, .o, .o, .o, .o, .o, .o, .o, .o, .o, .o, .o, .o, .o, .o, .o, .o, .o, .o, .o, .o, .o, .o, .o, .o, .o, .o, .o, .o, .o, .o, .o, .o, .o, .o, .o, .o, .o, .o, .o, .o, .o, .o, .o, .o, .o, .o, .o, .o, .o, .o, .o, .o, .o, .o, .o, .o, .o, .o, .o, .o, .o, .o, .o, .o, .o, .o, .o, .o],
          [some ⟨false, 2, [[.v (.string s), .v (.int .i64 q)]]⟩, some ⟨false, 3, [[.v (.int .i64 0), .v (.string ⟨#[]⟩), .v (.int .i64 0)]]⟩, some ⟨false, 3, [[.v (.int .i64 0), .v (.string ⟨#[]⟩), .v (.int .i64 q)]]⟩]⟩) ?_ ?_
         · intro A' hle
           refine tri_le hle ?_
           refine Yf rfl (fun hdd => ?_) (fun hdd => ?_)
           · -- a number
             have hdc : isDigit c = true ∨ c = 45 := by simpa using hdd
             rw [if_pos hdc] at hd
             have hR := run_eq (k := 56) (f := isDigit) (p := q + 1) rfl hs hqs
             obtain ⟨g1, g2⟩ := runF_le isDigit s (q + 1) hqs
             generalize runF isDigit s (q + 1) = r at hR hd g1 g2
             have hw1 : IntKind.wrap .i64 (((q + 1 : Nat) : Int) - 1) = (q : Int) := by rw [wrap_i64 _ (by omega) (by omega)]; omega
             have hz : ∀ a b : ByteArray, a = s.extract q (q + 1) → b = s.extract (q + 1) r → a.size + b.size ≤ maxStr := by
              rintro _ _ rfl rfl
              simp only [ByteArray.size_extract]
              unfold maxStr; omega
             refine Y3 ok0 rfl (by repeat first | with_reducible exact Y2 | refine Y1 (by simp only [Y5, Y4, Y6, qev, St.ev, St.put, D.cells, qload, Y9, qmk, C.cpy, TK.agg, qnil, Yb, qint, Yc, Ya, qbin, liveR, C.st, C.cp, C.dat, storeA, putCells, Y8, Y7, Nat.reduceAdd, if_true, if_false, ne_eq, reduceCtorEq, Nat.le_refl, implies_true, dB, tk3, tsz3, tk61, hw, ZA]; rfl) ?_) ?_
             refine seq_any mixed ok0 rfl (by kernel_rfl) (by repeat first | with_reducible exact Y2 | refine Y1 (by simp only [Y5, Y4, Y6, qev, St.ev, St.put, D.int, qload, Y9, qmk, C.cpy, TK.agg, qnil, Yb, qint, Yc, Ya, qbin, qbounds, qslice, omap, liveR, C.cp, Y8, Y7, if_true, if_false, reduceCtorEq, Nat.add_zero, tk3, tsz3, tk9, tsz9, tk61, Int.toNat_natCast, Int.natCast_nonneg, qbounds, D.int, hw1, show (q : Int) ≤ ((q + 1 : Nat) : Int) from by omega, show ((q + 1 : Nat) : Int) ≤ (s.size : Int) from by omega, ZA]; rfl) ?_) ?_
             refine Y3 okL5 rfl (by repeat first | with_reducible exact Y2 | refine Y1 (by simp only [Y5, Y4, Y6, evsA, qev, St.ev, St.put, St.with, D.cells, D.cell, Yb, qstr, qbin, liveR, C.st, C.dat, storeA, putCells, Y8, Y7, Bool.and_true, Nat.reduceAdd, Nat.reduceEqDiff, if_true, if_false, ne_eq, reduceCtorEq, Nat.reduceLeDiff, implies_true, Nat.add_zero, beq_self_eq_true, Bool.true_or, tsz3, tsz9, tk33, callP, callO, dedup, rootsD, rootsC, List.flatMap_cons, List.flatMap_nil, List.filterMap_cons, List.filterMap_nil, Yg, argD, argC, List.contains_nil, objsAt, objOf, List.idxOf?, List.findIdx?, List.findIdx?.go, setObjs, settle, settle1, settleC, FsL5, hR, hz _ _ rfl rfl, ZA]; rfl) ?_) ?_
             by_cases hds : strEq (s.extract q (q + 1) ++ s.extract (q + 1) r) ⟨#[45]⟩ = true
             · rw [if_pos (show strEq _ dash = true from hds)] at hd
               cases hd
               refine Y3 ok0 rfl (by repeat first | with_reducible exact Y2 | refine Y1 (by simp only [Y5, Y4, Y6, qev, St.ev, St.put, qload, Y9, qmk, C.cpy, TK.agg, Yb, qstr, qbin, liveR, C.cp, Y8, Y7, if_true, if_false, reduceCtorEq, tk9, tsz9, tk33, hds, ZA]; rfl) ?_) ?_
               refine Yf rfl (fun _ => ?_) (fun h => by cases h)
               refine Y3 ok0 rfl (by repeat first | with_reducible exact Y2 | refine Y1 (by simp only [Y5, Y4, Y6, qev, St.ev, St.put, D.cells, qload, Y9, qmk, C.cpy, TK.agg, Yb, liveR, C.st, C.cp, C.dat, storeA, putCells, Y8, Y7, Nat.reduceAdd, if_true, if_false, ne_eq, reduceCtorEq, Nat.le_refl, Nat.reduceBNe, implies_true, tk3, tsz3, tsz9, tk33, tsz33, tz33, buildA, partsA, fillA, placeSt, ZA]; rfl) ?_) ?_
               refine Yo (Yp (by simp only [outRes, Yi, resD, Yh, outD, outC, outCs, tk33, tsz33, qload, Y9, qmk, C.cpy, TK.agg, C.cp, C.dat, Nat.reduceAdd, if_true, ZA]; rfl) rfl (by simp) (by simp) ?_)
               exact hQ
             · rw [if_neg (show ¬ strEq _ dash = true from hds)] at hd
               cases hd
               have hds : strEq (s.extract q (q + 1) ++ s.extract (q + 1) r) ⟨#[45]⟩ = false := by simpa using hds
               refine Y3 ok0 rfl (by repeat first | with_reducible exact Y2 | refine Y1 (by simp only [Y5, Y4, Y6, qev, St.ev, St.put, qload, Y9, qmk, C.cpy, TK.agg, Yb, qstr, qbin, liveR, C.cp, Y8, Y7, if_true, if_false, reduceCtorEq, tk9, tsz9, tk33, hds, ZA]; rfl) ?_) ?_
               refine Yf rfl (fun h => by cases h) (fun _ => tri_skip ?_)
               show Tri _ _ _ _
               refine Y3 ok0 rfl (by repeat first | with_reducible exact Y2 | refine Y1 (by simp only [Y5, Y4, Y6, qev, St.ev, St.put, D.cells, qload, Y9, qmk, C.cpy, TK.agg, C.st, C.cp, C.dat, storeA, putCells, Y8, Y7, Nat.reduceAdd, if_true, ne_eq, reduceCtorEq, Nat.le_refl, implies_true, tk33, tsz33, ZA]; rfl) ?_) ?_
               refine Yo (Yp (by simp only [outRes, Yi, resD, Yh, outD, outC, outCs, tk33, tsz33, qload, Y9, qmk, C.cpy, TK.agg, C.cp, C.dat, Nat.reduceAdd, if_true, ZA]; rfl) rfl (by simp) (by simp) ?_)
               exact hQ
           · have hdc : ¬ (isDigit c = true ∨ c = 45) := by
              simp only [Bool.or_eq_false_iff, decide_eq_false_iff_not] at hdd
              rintro (h | h)
              · rw [hdd.1] at h; cases h
              · exact hdd.2 h
             rw [if_neg hdc] at hd
             by_cases h34 : c = 34
             · rw [if_pos h34] at hd
               subst h34
               have hQu := quote_at s q hs (by omega)
               obtain ⟨g1, g2⟩ := quoteF_le s q (by omega)
               refine Y3 ok0 rfl (by repeat first | with_reducible exact Y2 | refine Y1 (by simp only [Y5, Y4, Y6, qev, St.ev, St.put, qint, Yc, Ya, qbin, Y8, Y7, if_true, if_false, decide_true, dB, ZA]; rfl) ?_) ?_
               refine Yf rfl (fun _ => ?_) (fun h => by cases h)
               refine Y3 okQ rfl (by repeat first | with_reducible exact Y2 | refine Y1 (by simp only [Y5, Y4, Y6, evsA, qev, St.ev, St.put, St.with, D.cell, qext, C.dat, Bool.and_true, Bool.true_and, if_true, if_false, beq_self_eq_true, Bool.true_or, callP, callO, Fs.none, dedup, rootsD, rootsC, List.flatMap_cons, List.flatMap_nil, List.filterMap_cons, List.filterMap_nil, Yg, argD, argC, List.contains_nil, objsAt, objOf, List.idxOf?, List.findIdx?, List.findIdx?.go, setObjs, settle, settle1, settleC, settleDs, callP, callO, Fs.none, dedup, rootsD, rootsC, List.flatMap_cons, List.flatMap_nil, List.filterMap_cons, List.filterMap_nil, Yg, argD, argC, List.contains_nil, objsAt, objOf, List.idxOf?, List.findIdx?, List.findIdx?.go, setObjs, D.ni, D.ni1, C.ni, settle, settle1, settleC, settleDs, FsQ, hQu, ZA]; rfl) ?_) ?_
               by_cases hok : (quoteF s q).2.1 = true
               · rw [if_pos hok] at hd
                 cases hd
                 refine seq_in (Y3 ok0 rfl (by repeat first | with_reducible exact Y2 | refine Y1 (by simp only [Y5, Y4, Y6, qev, St.ev, St.put, qun, Bool.not_true, hok, ZA]; rfl) ?_) ?_)
                 refine Yf rfl (fun h => by cases h) (fun _ => Ye ?_)
                 refine Yk ok0 rfl (by repeat first | with_reducible exact Y2 | refine Y1 (by simp only [Y5, Y4, Y6, qev, St.ev, St.put, D.cells, Yb, liveR, C.st, C.dat, storeA, putCells, Y8, Y7, Nat.reduceAdd, if_true, if_false, ne_eq, reduceCtorEq, Nat.reduceLeDiff, implies_true, Nat.add_zero, tsz3, tsz9, tk33, ZA]; rfl) ?_) ?_
                 show Tri _ _ _ _
                 refine Y3 ok0 rfl (by repeat first | with_reducible exact Y2 | refine Y1 (by simp only [Y5, Y4, Y6, qev, St.ev, St.put, D.cells, qload, Y9, qmk, C.cpy, TK.agg, C.st, C.cp, C.dat, storeA, putCells, Y8, Y7, Nat.reduceAdd, if_true, ne_eq, reduceCtorEq, Nat.le_refl, implies_true, tk33, tsz33, ZA]; rfl) ?_) ?_
                 refine Yo (Yp (by simp only [outRes, Yi, resD, Yh, outD, outC, outCs, tk33, tsz33, qload, Y9, qmk, C.cpy, TK.agg, C.cp, C.dat, Nat.reduceAdd, if_true, ZA]; rfl) rfl (by simp) (by simp) ?_)
                 exact hQ
               · have hok : (quoteF s q).2.1 = false := by simpa using hok
                 rw [if_neg (by rw [hok]; decide)] at hd
                 cases hd
                 refine seq_in (Y3 ok0 rfl (by repeat first | with_reducible exact Y2 | refine Y1 (by simp only [Y5, Y4, Y6, qev, St.ev, St.put, qun, Bool.not_false, hok, ZA]; rfl) ?_) ?_)
                 refine Yf rfl (fun _ => ?_) (fun h => by cases h)
                 refine Y3 ok0 rfl (by repeat first | with_reducible exact Y2 | refine Y1 (by simp only [Y5, Y4, Y6, qev, St.ev, St.put, D.cells, qload, Y9, qmk, C.cpy, TK.agg, Yb, liveR, C.st, C.cp, C.dat, storeA, putCells, Y8, Y7, Nat.reduceAdd, if_true, if_false, ne_eq, reduceCtorEq, Nat.le_refl, Nat.reduceBNe, implies_true, tk3, tsz3, tsz9, tk33, tsz33, tz33, buildA, partsA, fillA, placeSt, ZA]; rfl) ?_) ?_
                 refine Yo (Yp (by simp only [outRes, Yi, resD, Yh, outD, outC, outCs, tk33, tsz33, qload, Y9, qmk, C.cpy, TK.agg, C.cp, C.dat, Nat.reduceAdd, if_true, ZA]; rfl) rfl (by simp) (by simp) ?_)
                 exact hQ
             · rw [if_neg h34] at hd
               refine Y3 ok0 rfl (by repeat first | with_reducible exact Y2 | refine Y1 (by simp only [Y5, Y4, Y6, qev, St.ev, St.put, qint, Yc, Ya, qbin, Y8, Y7, if_true, if_false, decide_false, dB, eq_false h34, ZA]; rfl) ?_) ?_
               refine Yf rfl (fun h => by cases h) (fun _ => ?_)
               by_cases hmk : 0 ≤ idxB marks c
               · rw [if_pos hmk] at hd
                 cases hd
                 have hw1 : IntKind.wrap .i64 (((q + 1 : Nat) : Int) - 1) = (q : Int) := by rw [wrap_i64 _ (by omega) (by omega)]; omega
                 refine Y3 okL5 rfl (by repeat first | with_reducible exact Y2 | refine Y1 (by simp only [Y5, Y4, Y6, evsA, qev, St.ev, St.put, St.with, C.cpy, qint, Yc, Ya, qbin, C.cp, C.dat, Y8, Y7, Nat.reduceEqDiff, if_true, if_false, decide_true, Bool.true_or, callP, Yg, argD, argC, settle, settle1, settleC, FsL5, hI, eq_true hmk, ZA]; rfl) ?_) ?_
                 refine Yf rfl (fun _ => ?_) (fun h => by cases h)
                 refine Y3 ok0 rfl (by repeat first | with_reducible exact Y2 | refine Y1 (by simp only [Y5, Y4, Y6, qev, St.ev, St.put, D.cells, qload, Y9, qmk, C.cpy, TK.agg, qnil, Yb, qint, Yc, Ya, qbin, liveR, C.st, C.cp, C.dat, storeA, putCells, Y8, Y7, Nat.reduceAdd, if_true, if_false, ne_eq, reduceCtorEq, Nat.le_refl, implies_true, tk3, tsz3, tk61, hw, ZA]; rfl) ?_) ?_
                 refine any_endK [(0, 0), (114, 0), (115, 0), (116, 0), (118, 0), (119, 0), (120, 0), (123, 0), (124, 0), (125, 0), (5, 2), (128, 2), (129, 2)] mixed ok0 rfl (by kernel_rfl) rfl (by repeat first | with_reducible exact Y2 | refine Y1 (by simp only [Y5, Y4, Y6, qev, St.ev, St.put, D.cells, D.int, qload, Y9, qmk, C.cpy, TK.agg, qnil, Yb, qint, Yc, Ya, qbin, qbounds, qslice, omap, liveR, C.st, C.cp, C.dat, storeA, putCells, Y8, Y7, Nat.reduceAdd, if_true, if_false, ne_eq, reduceCtorEq, Nat.reduceLeDiff, implies_true, Nat.add_zero, tk3, tsz3, tk9, tsz9, tk33, tk61, Int.toNat_natCast, Int.natCast_nonneg, qbounds, D.int, hw1, show (q : Int) ≤ ((q + 1 : Nat) : Int) from by omega, show ((q + 1 : Nat) : Int) ≤ (s.size : Int) from by omega, ZA]; rfl) ?_) ?_
                 show Tri _ _ _ _
                 refine Y3 ok0 rfl (by repeat first | with_reducible exact Y2 | refine Y1 (by simp only [Y5, Y4, Y6, qev, St.ev, St.put, D.cells, qload, Y9, qmk, C.cpy, TK.agg, C.st, C.cp, C.dat, storeA, putCells, Y8, Y7, Nat.reduceAdd, if_true, ne_eq, reduceCtorEq, Nat.le_refl, implies_true, tk33, tsz33, ZA]; rfl) ?_) ?_
                 refine Yo (Yp (by simp only [outRes, Yi, resD, Yh, outD, outC, outCs, tk33, tsz33, qload, Y9, qmk, C.cpy, TK.agg, C.cp, C.dat, Nat.reduceAdd, if_true, ZA]; rfl) rfl (by simp) (by simp) ?_)
                 exact hQ
               · rw [if_neg hmk] at hd
                 cases hd
                 refine Y3 okL5 rfl (by repeat first | with_reducible exact Y2 | refine Y1 (by simp only [Y5, Y4, Y6, evsA, qev, St.ev, St.put, St.with, C.cpy, qint, Yc, Ya, qbin, C.cp, C.dat, Y8, Y7, Nat.reduceEqDiff, if_true, if_false, decide_false, Bool.true_or, callP, Yg, argD, argC, settle, settle1, settleC, FsL5, hI, eq_false hmk, ZA]; rfl) ?_) ?_
                 refine Yf rfl (fun h => by cases h) (fun _ => ?_)
                 refine Y3 ok0 rfl (by repeat first | with_reducible exact Y2 | refine Y1 (by simp only [Y5, Y4, Y6, qev, St.ev, St.put, D.cells, qload, Y9, qmk, C.cpy, TK.agg, Yb, liveR, C.st, C.cp, C.dat, storeA, putCells, Y8, Y7, Nat.reduceAdd, if_true, if_false, ne_eq, reduceCtorEq, Nat.le_refl, Nat.reduceBNe, implies_true, tk3, tsz3, tsz9, tk33, tsz33, tz33, buildA, partsA, fillA, placeSt, ZA]; rfl) ?_) ?_
                 refine Yo (Yp (by simp only [outRes, Yi, resD, Yh, outD, outC, outCs, tk33, tsz33, qload, Y9, qmk, C.cpy, TK.agg, C.cp, C.dat, Nat.reduceAdd, if_true, ZA]; rfl) rfl (by simp) (by simp) ?_)
                 exact hQ
         · by_cases hdg : isDigit c = true
           · rw [hdg] at hD
             refine Yk okL5 rfl (by repeat first | with_reducible exact Y2 | refine Y1 (by simp only [Y5, Y4, Y6, evsA, qev, St.ev, St.put, St.with, C.cpy, qpick, isEq, qeq, qbin, C.cp, C.dat, Y8, Y7, Nat.reduceEqDiff, if_true, if_false, cond_true, reduceCtorEq, Bool.true_or, tk5, callP, Yg, argD, argC, settle, settle1, settleC, FsL5, hD, ZA]; rfl) ?_) ?_
             show St.Le _ _
             rw [hdg]
             exact ⟨by repeat (first | exact .nil | refine .same ?_ | refine .o ?_), rfl⟩
           · have hdg : isDigit c = false := by cases h : isDigit c <;> simp_all
             rw [hdg] at hD
             refine Yk okL5 rfl (by repeat first | with_reducible exact Y2 | refine Y1 (by simp only [Y5, Y4, Y6, evsA, qev, St.ev, St.put, St.with, C.cpy, qpick, qint, Yc, Ya, qbin, C.cp, C.dat, Y8, Y7, Nat.reduceEqDiff, if_true, if_false, cond_false, Bool.true_or, callP, Yg, argD, argC, settle, settle1, settleC, FsL5, hD, ZA]; rfl) ?_) ?_
             show St.Le _ _
             rw [hdg]
             exact ⟨by repeat (first | exact .nil | refine .same ?_ | refine .o ?_), rfl⟩
   · cases hd
 · cases hd
end Go.Dl

namespace Go.Dl
open Go.RowKit
open Go.Proofs
set_option linter.unusedSimpArgs false
set_option linter.unusedVariables false
theorem tok_settle (H : List (Option Root)) (t : Tok) : Yl H (tokC t) = (tokC t, H) := rfl
theorem tok_take (t : Tok) : (tokC t).take 3 = tokC t := rfl
theorem tok_cpy (t : Tok) : (tokC t).map C.cpy = tokC t := rfl
theorem tok_cp (t : Tok) : (tokC t).all C.cp = true := rfl
theorem tok_len (t : Tok) : (tokC t).length = 3 := rfl
theorem tok_st (H : List (Option Root)) (t : Tok) : (tokC t).all (C.st H) = true := rfl
theorem tok_dat (t : Tok) : (tokC t).all C.dat = true := rfl
theorem tok_nos (r : Nat) (t : Tok) : C.nos r (tokC t) = true := rfl
theorem toks_cps (l : List Tok) : ((l.map tokC).all fun row => row.all C.cp) = true := by
 rw [List.all_eq_true]
 intro row h
 obtain ⟨x, _, rfl⟩ := List.mem_map.1 h
 rfl
theorem toks_get (l : List Tok) (i : Nat) (x : Tok) (h : l[i]? = some x) : (l.map tokC)[i]? = some (tokC x) := by simp [h]
theorem nextF_le {s : ByteArray} {p : Nat} (hp : p ≤ s.size) {t : Tok} {m : Bool} {e : Int} {r : Nat} (h : nextF s p = some (t, m, e, r)) : r ≤ s.size ∧ (m = true → p < r) := by
 have hq := blkF_le s p hp
 unfold nextF at h
 generalize blkF s p = q at h hq
 split at h
 · cases h; exact ⟨hq.2, fun h => by cases h⟩
 · rename_i hne
   have hqs : q < s.size := by omega
   split at h
   · rename_i hl
     cases h
     have h1 := runF_le isWordC s q hq.2
     have h2 := runF_gt (f := isWordC) hqs (by simp [isWordC, hl])
     exact ⟨h1.2, fun _ => by omega⟩
   · split at h
     · have h1 := runF_le isDigit s (q + 1) hqs
       split at h
       · cases h; exact ⟨h1.2, fun h => by cases h⟩
       · cases h; exact ⟨h1.2, fun _ => by omega⟩
     · split at h
       · obtain ⟨g1, g2⟩ := quoteF_le s q hqs
         split at h
         · cases h; exact ⟨g2, fun _ => by show p < (quoteF s q).2.2; omega⟩
         · cases h; exact ⟨g2, fun h => by cases h⟩
       · split at h
         · cases h; exact ⟨hqs, fun _ => by omega⟩
         · cases h; exact ⟨hq.2, fun h => by cases h⟩
/-- Tokens from a place on; behind those that came already. -/
def toksN : Nat → ByteArray → Nat → List Tok → Option (List Tok × Int × Int)
 | 0, _, _, _ => none
 | n + 1, s, p, acc => (nextF s p).bind fun r => if ¬ r.2.2.1 = 0 then some ([], r.1.2.2, r.2.2.1) else if r.2.1 = false then some (acc, 0, 0) else toksN n s r.2.2.2 (acc ++ [r.1])
def toksF (s : ByteArray) : Option (List Tok × Int × Int) := if 65536 < s.size then some ([], 0, 3) else toksN (s.size + 1) s 0 []
def pToks : List D → Option D
 | [.c (.v (.string s))] => if s.size ≤ 1000000 then (toksF s).map fun r => .t [.c (.s true 3 (r.1.map tokC)), .c (.v (.int .i64 r.2.1)), .c (.v (.int .i64 r.2.2))] else none
 | _ => none
def FsL6 : Fs := { Fs.none with objs := fun k => if k = 28 then some oNext else none }
theorem okL6 : FsOK Try.prog FsL6 := by
 refine ⟨fun _ _ h => (by cases h), fun k f h => ?_⟩
 simp only [FsL6] at h
 split at h
 · rename_i hk; subst hk; cases h; exact ⟨by kernel_rfl, meets28⟩
 · cases h
theorem next_eq {s : ByteArray} {p : Nat} (hs : s.size ≤ 1000000) (hp : p ≤ s.size) {t : Tok} {m : Bool} {e : Int} {r : Nat} (h : nextF s p = some (t, m, e, r)) :
  oNext [.c (.p 0 0 0)] [⟨2, [[.v (.string s), .v (.int .i64 (p : Int))]]⟩] = some (.t [.agg (tokC t), .c (.v (.bool m)), .c (.v (.int .i64 e))], [⟨2, [[.v (.string s), .v (.int .i64 (r : Nat))]]⟩]) := by
 have h' : oNext [.c (.p 0 0 0)] [⟨2, [[.v (.string s), .v (.int .i64 (Int.ofNat p))]]⟩] = some (.t [.agg (tokC t), .c (.v (.bool m)), .c (.v (.int .i64 e))], [⟨2, [[.v (.string s), .v (.int .i64 (r : Nat))]]⟩]) := by
  simp only [oNext, if_pos (And.intro hs hp), h, Z4]
  rfl
 exact h'
theorem meets11 : Meets Try.prog 11 (pureS pToks) := by
 refine meets_of_tri (show Try.prog.funcs[11]? = some Try.f11 by kernel_rfl) rfl (n := 34) rfl (rs := [ResultVar.tmp 2, ResultVar.tmp 3, ResultVar.tmp 4]) rfl ?_
 rintro args objs Q ⟨rfl, d, hd, hQ⟩
 unfold pToks at hd
 split at hd
 · rename_i s
   split at hd
   · rename_i hs
     refine Y3 ok0 rfl (by repeat first | with_reducible exact Y2 | refine Y1 (by simp only [Y5, Y4, Y6, qev, St.ev, St.put, Y8, Y7, List.replicate, Nat.reduceSub, ZA]; rfl) ?_) ?_
     unfold toksF at hd
     by_cases hbig : 65536 < s.size
     · rw [if_pos hbig] at hd
       cases hd
       refine seq_in (Y3 ok0 rfl (by repeat first | with_reducible exact Y2 | refine Y1 (by simp only [Y5, Y4, Y6, qev, St.ev, St.put, qint, Yc, Ya, qbin, qlen, qbuiltin, Y8, Y7, if_true, if_false, decide_true, tk9, show ((65536 : Int) < (s.size : Int)) = True from eq_true (by omega), ZA]; rfl) ?_) ?_)
       refine Yf rfl (fun _ => ?_) (fun h => by cases h)
       refine Y3 ok0 rfl (by repeat first | with_reducible exact Y2 | refine Y1 (by simp only [Y5, Y4, Y6, qev, St.ev, St.put, Y8, Y7, ZA]; rfl) ?_) ?_
       refine tri_nil 2 3 rfl ?_
       refine Yo (Yp (by simp only [outRes, Yi, resD, Yh, outD, outC, C.dat, if_true, ne_eq, reduceCtorEq, ZA]; rfl) rfl (by simp) (by simp) ?_)
       exact hQ
     · rw [if_neg hbig] at hd
       obtain ⟨res, hres⟩ : ∃ res, toksN (s.size + 1) s 0 [] = res := ⟨_, rfl⟩
       rw [hres] at hd
       refine seq_in (Y3 ok0 rfl (by repeat first | with_reducible exact Y2 | refine Y1 (by simp only [Y5, Y4, Y6, qev, St.ev, St.put, qint, Yc, Ya, qbin, qlen, qbuiltin, Y8, Y7, if_true, if_false, decide_false, tk9, show ((65536 : Int) < (s.size : Int)) = False from eq_false (by omega), ZA]; rfl) ?_) ?_)
       refine Yf rfl (fun h => by cases h) (fun _ => Ye ?_)
       refine Y3 ok0 rfl (by repeat first | with_reducible exact Y2 | refine Y1 (by simp only [Y5, Y4, Y6, qev, St.ev, St.put, St.with, D.cells, boxA, C.st, putCells, Nat.reduceAdd, if_true, Nat.reduceLeDiff, Nat.reduceBNe, tsz3, tsz9, tk61, tz61, buildA, partsA, fillA, placeSt, ZA]; rfl) ?_) ?_
       refine Y3 ok0 rfl (by repeat first | with_reducible exact Y2 | refine Y1 (by simp only [Y5, Y4, Y6, qev, St.ev, St.put, Y8, Y7, ZA]; rfl) ?_) ?_
       refine tri_nil 6 3 rfl ?_
       show Tri _ _ _ _
       refine tri_block ?_
       refine tri_loop_le (fun n A => ∃ (p fu : Nat) (acc : List Tok) (T : List (Option Root)), p ≤ s.size ∧ n = s.size - p ∧ acc.length ≤ p ∧ s.size - p < fu ∧ toksN fu s p acc = res ∧
         A = ⟨[.o, .o, .o, .o, .o, .c (.p 0 0 0), .c (.h 1 0 acc.length), .o, .o, .o, .o, .o, .o, .o, .o, .o, .o, .o, .o, .o, .o, .o, .o, .o, .o, .o, .o, .o, .o, .o, .o, .o, .o, .o], some ⟨false, 2, [[.v (.string s), .v (.int .i64 p)]]⟩ :: some ⟨true, 3, acc.map tokC⟩ :: T⟩) s.size
        (B := ⟨[.o, .o, .o, .o, .o, .c (.p 0 0 0), .c (.h 1 0 0), .o, .o, .o, .o, .o, .o, .o, .o, .o, .o, .o, .o, .o, .o, .o, .o, .o, .o, .o, .o, .o, .o, .o, .o, .o, .o, .o], [some ⟨false, 2, [[.v (.string s), .v (.int .i64 (0 : Nat))]]⟩, some ⟨true, 3, []⟩]⟩)
        ⟨by repeat (first | exact .nil | refine .same ?_ | refine .o ?_), rfl⟩ ⟨0, s.size + 1, [], [], by omega, by omega, by simp, by omega, hres, rfl⟩ ?_
       rintro n A ⟨p, fu, acc, T, hp, rfl, hacc, hfu, htk, rfl⟩
       obtain ⟨fu, rfl⟩ : ∃ m, fu = m + 1 := ⟨fu - 1, by omega⟩
       simp only [toksN] at htk
       rw [← htk] at hd
       cases hn : nextF s p with
       | none => rw [hn] at hd; cases hd
       | some r =>
        obtain ⟨t, m, e, r⟩ := r
        rw [hn] at hd htk
        simp only [Z8] at hd htk
        have hN := next_eq hs hp hn
        obtain ⟨g1, g2⟩ := nextF_le hp hn
        refine tri_block ?_
        refine Y3 okL6 rfl (by repeat first | with_reducible exact Y2 | refine Y1 (by simp only [Y5, Y4, Y6, evsA, qev, St.ev, St.put, St.with, D.cells, D.cell, boxA, qext, C.st, C.dat, storeA, putCells, Bool.and_true, Nat.reduceAdd, if_true, if_false, ne_eq, reduceCtorEq, Nat.le_refl, implies_true, beq_self_eq_true, Bool.true_or, tsz33, tz33, callP, callO, Fs.none, dedup, rootsD, rootsC, List.flatMap_cons, List.flatMap_nil, List.filterMap_cons, List.filterMap_nil, Yg, argD, argC, List.contains_nil, objsAt, objOf, List.idxOf?, List.findIdx?, List.findIdx?.go, setObjs, settle, settle1, settleC, settleDs, FsL6, tok_settle, tok_len, tok_st, tok_dat, last_get, last_set, hN, ZA]; rfl) ?_) ?_
        by_cases he : e = 0
        · rw [if_neg (by simp [he])] at hd htk
          refine seq_in (Y3 ok0 rfl (by repeat first | with_reducible exact Y2 | refine Y1 (by simp only [Y5, Y4, Y6, qev, St.ev, St.put, qint, Yc, Ya, qbin, Y8, Y7, if_true, if_false, decide_true, Bool.not_true, eq_true he, ZA]; rfl) ?_) ?_)
          refine Yf rfl (fun h => by cases h) (fun _ => Ye ?_)
          cases m with
          | false =>
           rw [if_pos rfl] at hd
           cases hd
           refine seq_in (Y3 ok0 rfl (by repeat first | with_reducible exact Y2 | refine Y1 (by simp only [Y5, Y4, Y6, qev, St.ev, St.put, qun, Bool.not_false, ZA]; rfl) ?_) ?_)
           refine Yf rfl (fun _ => ?_) (fun h => by cases h)
           refine Y3 ok0 rfl (by repeat first | with_reducible exact Y2 | refine Y1 (by simp only [Y5, Y4, Y6, qev, St.ev, St.put, Y8, Y7, ZA]; rfl) ?_) ?_
           refine Yo (Yp (by simp only [outRes, Yi, resD, Yh, outD, outC, List.length_map, C.dat, if_true, ne_eq, reduceCtorEq, ZA]; rfl) rfl (by simp) (by simp) ?_)
           exact hQ
          | true =>
           rw [if_neg (by simp)] at htk
           have hpr := g2 rfl
           have ht0 : (acc.map tokC).take acc.length = acc.map tokC := List.take_of_length_le (by simp)
           have hne : ∀ k : Nat, (k + 1 + 1 != 1) = true := by intro k; simp
           refine seq_in (Y3 ok0 rfl (by repeat first | with_reducible exact Y2 | refine Y1 (by simp only [Y5, Y4, Y6, qev, St.ev, St.put, qun, Bool.not_true, ZA]; rfl) ?_) ?_)
           refine Yf rfl (fun h => by cases h) (fun _ => Ye ?_)
           refine Yk ok0 rfl (by repeat first | with_reducible exact Y2 | refine Y1 (by simp only [Y5, Y4, Y6, qev, St.ev, St.put, St.with, D.cells, qload, Y9, qmk, C.cpy, TK.agg, C.cp, putCells, Nat.reduceAdd, Nat.reduceMul, if_true, if_false, ne_eq, reduceCtorEq, Nat.reduceLeDiff, Nat.le_refl, Nat.reduceBNe, bne_self_eq_false, tk23, tk33, tsz33, tz33, bo33, tok_take, tok_cpy, tok_cp, tok_len, tok_st, tok_dat, last_get, buildSliceA, partsA, fillA, reps, chop, tkApp, tok_nb, appendA, srcRows, srcOther, D.kill, D.no, C.no, C.kill, killH, Root.kill, tok_nos, D.nos, hne, ht0, show (acc.length + 1) * 32 ≤ 140737488355328 from by omega, ZA]; rfl) ?_) ?_
           refine ⟨s.size - r, by omega, ⟨[.o, .o, .o, .o, .o, .c (.p 0 0 0), .c (.h 1 0 (acc ++ [t]).length), .o, .o, .o, .o, .o, .o, .o, .o, .o, .o, .o, .o, .o, .o, .o, .o, .o, .o, .o, .o, .o, .o, .o, .o, .o, .o, .o], some ⟨false, 2, [[.v (.string s), .v (.int .i64 r)]]⟩ :: some ⟨true, 3, (acc ++ [t]).map tokC⟩ :: killH 1 ((T ++ [some ⟨false, 3, [tokC t]⟩]) ++ [some ⟨true, 3, [tokC t]⟩])⟩, ⟨?_, ?_⟩, r, fu, acc ++ [t], _, g1, rfl, by simp; omega, by omega, htk, rfl⟩
           · rw [show (acc ++ [t]).length = acc.length + 1 from by simp]
             repeat (first | exact .nil | refine .same ?_ | refine .o ?_)
           · rw [show (acc ++ [t]).map tokC = acc.map tokC ++ [tokC t] from List.map_append]
             rfl
        · rw [if_pos he] at hd
          cases hd
          refine seq_in (Y3 ok0 rfl (by repeat first | with_reducible exact Y2 | refine Y1 (by simp only [Y5, Y4, Y6, qev, St.ev, St.put, qint, Yc, Ya, qbin, Y8, Y7, if_true, if_false, decide_false, Bool.not_false, eq_false he, ZA]; rfl) ?_) ?_)
          refine Yf rfl (fun _ => ?_) (fun h => by cases h)
          refine seq_any mixed ok0 rfl (by kernel_rfl) (by repeat first | with_reducible exact Y2 | refine Y1 (by simp only [Y5, Y4, Y6, qev, St.ev, St.put, qload, Y9, qmk, C.cpy, TK.agg, Yb, liveR, C.cp, Y8, Y7, if_true, if_false, reduceCtorEq, tk3, tsz3, tk33, last_get, tokC, ZA]; rfl) ?_) ?_
          refine tri_nil 2 3 rfl ?_
          refine Yo (Yp (by simp only [outRes, Yi, resD, Yh, outD, outC, last_get, C.dat, if_true, ne_eq, reduceCtorEq, ZA]; rfl) rfl (by simp) (by simp) ?_)
          exact hQ
   · cases hd
 · cases hd
end Go.Dl

namespace Go.Dl
open Go.RowKit
open Go.Proofs
set_option linter.unusedSimpArgs false
set_option linter.unusedVariables false
def decToks : List (List C) → Option (List Tok)
 | [] => some []
 | [.v (.int .i64 a), .v (.string b), .v (.int .i64 c)] :: rs => (decToks rs).map fun l => (a, b, c) :: l
 | _ => none
theorem decToks_eq : ∀ {rows : List (List C)} {l : List Tok}, decToks rows = some l → rows = l.map tokC
 | [], l, h => by cases h; rfl
 | r :: rs, l, h => by
  unfold decToks at h
  split at h
  · rename_i hh; cases hh
  · rename_i a b c rs' hh
    cases hh
    cases hd : decToks rs with
    | none => rw [hd] at h; cases h
    | some l' =>
     rw [hd] at h
     cases h
     rw [decToks_eq hd]; rfl
  · cases h
theorem decToks_map : ∀ l : List Tok, decToks (l.map tokC) = some l
 | [] => rfl
 | o :: l => by
  show (decToks (l.map tokC)).map (fun l => o :: l) = _
  rw [decToks_map l]; rfl
/-- A parser. -/
def paObj (l : List Tok) (i : Nat) (e bad : Int) : Obj := ⟨4, [[.s false 3 (l.map tokC), .v (.int .i64 i), .v (.int .i64 e), .v (.int .i64 bad)]]⟩
def decPa : Obj → Option (List Tok × Nat × Int × Int)
 | ⟨4, [[.s false 3 rows, .v (.int .i64 (.ofNat i)), .v (.int .i64 e), .v (.int .i64 bad)]]⟩ => (decToks rows).bind fun l => if l.length ≤ 1000000 ∧ i ≤ 1000000 then some (l, i, e, bad) else none
 | _ => none
theorem decPa_eq {o : Obj} {l : List Tok} {i : Nat} {e bad : Int} (h : decPa o = some (l, i, e, bad)) : o = paObj l i e bad ∧ l.length ≤ 1000000 ∧ i ≤ 1000000 := by
 unfold decPa at h
 split at h
 · rename_i rows i' e' bad'
   cases hr : decToks rows with
   | none => rw [hr] at h; cases h
   | some l' =>
    rw [hr] at h
    simp only [Z8] at h
    split at h
    · rename_i hc
      cases h
      rw [decToks_eq hr]
      exact ⟨rfl, hc⟩
    · cases h
 · cases h
theorem decPa_pa {l : List Tok} {i : Nat} {e bad : Int} (h1 : l.length ≤ 1000000) (h2 : i ≤ 1000000) : decPa (paObj l i e bad) = some (l, i, e, bad) := by
 have h : decPa ⟨4, [[.s false 3 (l.map tokC), .v (.int .i64 (Int.ofNat i)), .v (.int .i64 e), .v (.int .i64 bad)]]⟩ = some (l, i, e, bad) := by
  simp only [decPa, decToks_map, Z8, if_pos (And.intro h1 h2)]
 exact h
def hereF (l : List Tok) (i : Nat) (e : Int) : Int := match l[i]? with
 | some t => t.2.2
 | none => e
def failF (l : List Tok) (i : Nat) (e bad : Int) : Int := if bad < 0 then hereF l i e else bad
def oHere : List D → List Obj → Option (D × List Obj)
 | [.c (.p 0 0 0)], [o] => (decPa o).map fun r => (dI (hereF r.1 r.2.1 r.2.2.1), [o])
 | _, _ => none
theorem meets75 : Meets Try.prog 75 (detS oHere) := by
 refine meets_of_tri (show Try.prog.funcs[75]? = some Try.f75 by kernel_rfl) rfl (n := 28) rfl (rs := [ResultVar.tmp 2]) rfl ?_
 rintro args objs Q ⟨d, os, hd, hQ⟩
 unfold oHere at hd
 split at hd
 · rename_i o
   cases hp : decPa o with
   | none => rw [hp] at hd; cases hd
   | some r =>
    obtain ⟨l, i, e, bad⟩ := r
    rw [hp] at hd
    cases hd
    obtain ⟨rfl, hl, hi⟩ := decPa_eq hp
    have hlm : l.length ≤ maxStr := by unfold maxStr; omega
    simp only [paObj] at hQ ⊢
    refine Y3 ok0 rfl (by repeat first | with_reducible exact Y2 | refine Y1 (by simp only [Y5, Y4, Y6, qev, St.ev, St.put, Y8, Y7, List.replicate, Nat.reduceSub, ZA]; rfl) ?_) ?_
    by_cases hil : i < l.length
    · obtain ⟨x, hx⟩ : ∃ x, l[i]? = some x := ⟨l[i], List.getElem?_eq_getElem hil⟩
      have hlt : ((i : Int) < (l.length : Int)) = True := eq_true (by omega)
      simp only [hereF, hx] at hQ
      refine seq_in (seq_any mixed ok0 rfl (by kernel_rfl) (by repeat first | with_reducible exact Y2 | refine Y1 (by simp only [Y5, Y4, Y6, qev, St.ev, St.put, qload, Y9, qmk, C.cpy, TK.agg, qnil, Yb, qint, Yc, Ya, qbin, qlen, qbuiltin, liveR, C.cp, if_true, if_false, decide_true, reduceCtorEq, Nat.add_zero, tk3, tsz3, tk23, tsz23, tk80, List.length_map, hlm, hlt, ZA]; rfl) ?_) ?_)
      refine Yf rfl (fun _ => ?_) (fun h => by cases h)
      refine seq_any mixed ok0 rfl (by kernel_rfl) (by repeat first | with_reducible exact Y2 | refine Y1 (by simp only [Y5, Y4, Y6, qev, St.ev, St.put, D.int, qload, Y9, qmk, C.cpy, TK.agg, qnil, Yb, qindexAddr, liveR, C.cp, if_true, if_false, ne_eq, reduceCtorEq, Nat.add_zero, tk3, tsz3, tk23, tsz23, tk33, tsz33, tk80, Int.toNat_natCast, Int.natCast_nonneg, List.length_map, tokC, hlt, toks_get l i x hx, ZA]; rfl) ?_) ?_
      refine Yo (Yp (by simp only [outRes, Yi, resD, outD, outC, C.dat, if_true, ZA]; rfl) rfl .nil (by simp) ?_)
      exact hQ
    · have hx : l[i]? = none := List.getElem?_eq_none (by omega)
      simp only [hereF, hx] at hQ
      refine seq_in (seq_any mixed ok0 rfl (by kernel_rfl) (by repeat first | with_reducible exact Y2 | refine Y1 (by simp only [Y5, Y4, Y6, qev, St.ev, St.put, qload, Y9, qmk, C.cpy, TK.agg, qnil, Yb, qint, Yc, Ya, qbin, qlen, qbuiltin, liveR, C.cp, if_true, if_false, decide_false, reduceCtorEq, Nat.add_zero, tk3, tsz3, tk23, tsz23, tk80, List.length_map, hlm, show ((i : Int) < (l.length : Int)) = False from eq_false (by omega), ZA]; rfl) ?_) ?_)
      refine Yf rfl (fun h => by cases h) (fun _ => Ye ?_)
      refine Y3 ok0 rfl (by repeat first | with_reducible exact Y2 | refine Y1 (by simp only [Y5, Y4, Y6, qev, St.ev, St.put, qload, Y9, qmk, C.cpy, TK.agg, qnil, Yb, liveR, C.cp, if_true, if_false, reduceCtorEq, tk3, tsz3, tk80, ZA]; rfl) ?_) ?_
      refine Yo (Yp (by simp only [outRes, Yi, resD, outD, outC, C.dat, if_true, ZA]; rfl) rfl .nil (by simp) ?_)
      exact hQ
 · cases hd
def FsK1 : Fs := { Fs.none with objs := fun k => if k = 75 then some oHere else none }
theorem okK1 : FsOK Try.prog FsK1 := by
 refine ⟨fun _ _ h => (by cases h), fun k f h => ?_⟩
 simp only [FsK1] at h
 split at h
 · rename_i hk; subst hk; cases h; exact ⟨by kernel_rfl, meets75⟩
 · cases h
def oFail : List D → List Obj → Option (D × List Obj)
 | [.c (.p 0 0 0)], [o] => (decPa o).map fun r => (.t [], [paObj r.1 r.2.1 r.2.2.1 (failF r.1 r.2.1 r.2.2.1 r.2.2.2)])
 | _, _ => none
theorem meets62 : Meets Try.prog 62 (detS oFail) := by
 refine meets_of_tri (show Try.prog.funcs[62]? = some Try.f62 by kernel_rfl) rfl (n := 12) rfl (rs := []) rfl ?_
 rintro args objs Q ⟨d, os, hd, hQ⟩
 unfold oFail at hd
 split at hd
 · rename_i o
   cases hp : decPa o with
   | none => rw [hp] at hd; cases hd
   | some r =>
    obtain ⟨l, i, e, bad⟩ := r
    rw [hp] at hd
    cases hd
    obtain ⟨rfl, hl, hi⟩ := decPa_eq hp
    have hlm : l.length ≤ maxStr := by unfold maxStr; omega
    have hH : oHere [.c (.p 0 0 0)] [paObj l i e bad] = some (dI (hereF l i e), [paObj l i e bad]) := by
     simp only [oHere, decPa_pa hl hi, Z4]
    simp only [paObj] at hQ hH ⊢
    by_cases hb : bad < 0
    · simp only [failF, if_pos hb] at hQ
      refine Y3 ok0 rfl (by repeat first | with_reducible exact Y2 | refine Y1 (by simp only [Y5, Y4, Y6, qev, St.ev, St.put, qload, Y9, qmk, C.cpy, TK.agg, qnil, Yb, qint, Yc, Ya, qbin, liveR, C.cp, Y8, Y7, List.replicate, Nat.reduceSub, if_true, if_false, decide_true, reduceCtorEq, tk3, tsz3, tk80, eq_true hb, ZA]; rfl) ?_) ?_
      refine Yf rfl (fun _ => ?_) (fun h => by cases h)
      refine Yk okK1 rfl (by repeat first | with_reducible exact Y2 | refine Y1 (by simp only [Y5, Y4, Y6, evsA, qev, St.ev, St.put, St.with, D.cells, D.cell, qnil, Yb, liveR, C.st, C.dat, storeA, putCells, Bool.and_true, Nat.reduceAdd, if_true, if_false, ne_eq, reduceCtorEq, Nat.le_refl, implies_true, beq_self_eq_true, Bool.true_or, dI, tsz3, tk80, callP, callO, Fs.none, dedup, rootsD, rootsC, List.flatMap_cons, List.flatMap_nil, List.filterMap_cons, List.filterMap_nil, Yg, argD, argC, List.contains_nil, objsAt, objOf, List.idxOf?, List.findIdx?, List.findIdx?.go, setObjs, settle, settle1, settleC, FsK1, hH, ZA]; rfl) ?_) ?_
      refine ends_norm rfl rfl .nil (by simp) ?_
      exact hQ
    · simp only [failF, if_neg hb] at hQ
      refine Y3 ok0 rfl (by repeat first | with_reducible exact Y2 | refine Y1 (by simp only [Y5, Y4, Y6, qev, St.ev, St.put, qload, Y9, qmk, C.cpy, TK.agg, qnil, Yb, qint, Yc, Ya, qbin, liveR, C.cp, Y8, Y7, List.replicate, Nat.reduceSub, if_true, if_false, decide_false, reduceCtorEq, tk3, tsz3, tk80, eq_false hb, ZA]; rfl) ?_) ?_
      refine Yf rfl (fun h => by cases h) (fun _ => tri_skip ?_)
      refine ends_norm rfl rfl .nil (by simp) ?_
      exact hQ
 · cases hd
end Go.Dl
