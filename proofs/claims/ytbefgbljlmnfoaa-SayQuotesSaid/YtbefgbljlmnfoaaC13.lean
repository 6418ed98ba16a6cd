/- The walk of a quote. -/
import Derived.Test.YtbefgbljlmnfoaaC12
import Derived.Test.YtbefgbljlmnfoaaC11
namespace Go.Dl
open Go.RowKit
open Go.Proofs
set_option linter.unusedSimpArgs false
set_option linter.unusedVariables false

def byU (s : ByteArray) (p : Nat) : UInt8 := s.data.toList.getD p 0
def escB (s : ByteArray) : UInt8 := UInt8.ofNat (escF s).1.toNat
/-- A quote's text from a place on; is it whole? where it ends. -/
def quoteN : Nat → ByteArray → Nat → List UInt8 → ByteArray × Bool × Nat
  | 0, _, p, _ => (noText, false, p)
  | n + 1, s, p, acc =>
    if (p : Int) < (s.size : Int) then
      if ((byU s p).toNat : Int) = 34 then (⟨acc.toArray⟩, true, p + 1)
      else if ((byU s p).toNat : Int) = 92 then
        if (s.size : Int) ≤ ((p + 1 : Nat) : Int) then (noText, false, p)
        else if ((byU s (p + 1)).toNat : Int) = 120 then
          if (escF (s.extract (p + 2) s.size)).2 = true then
            if isPlain (escB (s.extract (p + 2) s.size)).toNat = true then (noText, false, p) else quoteN n s (p + 4) (acc ++ [escB (s.extract (p + 2) s.size)])
          else (noText, false, p)
        else (noText, false, p)
      else if isPlain (byU s p).toNat = true then quoteN n s (p + 1) (acc ++ [byU s p]) else (noText, false, p)
    else (noText, false, p)
def quoteF (s : ByteArray) (p : Nat) : ByteArray × Bool × Nat := quoteN (s.size + 1) s (p + 1) []

noncomputable def oQuote := famO (fun x : ByteArray × Nat => x.1.size ≤ 1000000 ∧ x.2 < x.1.size) (fun x => ([.c (.p 0 0 0)], [lxObj x.1 x.2]))
  (fun x => (.t [.c (.v (.string (quoteF x.1 x.2).1)), dB (quoteF x.1 x.2).2.1], [lxObj x.1 (quoteF x.1 x.2).2.2]))

theorem escF_u8 (s : ByteArray) : (escF s).1 = ((escB s).toNat : Int) := by
  have h : 0 ≤ (escF s).1 ∧ (escF s).1 ≤ 255 := by
    unfold escF
    split
    · simp
    · have := wrap_inR .u8 (IntKind.i64.wrap ((BitVec.ofInt IntKind.i64.bits (IntKind.i64.wrap (idxB hexT (s.data.toList.getD 0 0).toNat * 2 ^ min 4 IntKind.i64.bits)) ||| BitVec.ofInt IntKind.i64.bits (idxB hexT (s.data.toList.getD 1 0).toNat)).toNat))
      simp only [inR, Bool.and_eq_true, decide_eq_true_eq] at this
      exact this
  unfold escB
  rw [UInt8.toNat_ofNat']
  omega

theorem esc_at (s : ByteArray) (h : s.size ≤ 1000000) : pEsc [.c (.v (.string s))] = some (.t [.c (.v (.int .u8 (escF s).1)), dB (escF s).2]) :=
  famP_at (by
    intro a b h
    simp only [List.cons.injEq, D.c.injEq, C.v.injEq, Value.string.injEq, and_true] at h
    subst h; rfl) s h rfl
theorem plain_at (c : Int) : pU8 isPlain [.c (.v (.int .u8 c))] = some (dB (isPlain c)) := rfl

noncomputable def FsM1 : Fs := { pure := fun k => if k = 33 then some (pU8 isPlain) else if k = 72 then some pEsc else none, objs := fun k => if k = 32 then some oWB else if k = 35 then some oStr else none }
theorem okM1 : FsOK Try.prog FsM1 := by
  refine ⟨fun k f h => ?_, fun k f h => ?_⟩
  · simp only [FsM1] at h
    split at h
    · rename_i hk; subst hk; cases h; exact ⟨by kernel_rfl, meets33⟩
    split at h
    · rename_i hk; subst hk; cases h; exact ⟨by kernel_rfl, meets72⟩
    · cases h
  · simp only [FsM1] at h
    split at h
    · rename_i hk; subst hk; cases h; exact ⟨by kernel_rfl, meets32⟩
    split at h
    · rename_i hk; subst hk; cases h; exact ⟨by kernel_rfl, meets35⟩
    · cases h

theorem meets57 : Meets Try.prog 57 (detS oQuote) := by
  refine meets_famO (show Try.prog.funcs[57]? = some Try.f57 by kernel_rfl) rfl (n := 114) rfl (rs := [ResultVar.tmp 2, ResultVar.tmp 3]) rfl ?_
  intro x hx Q hQ
  obtain ⟨s, p⟩ := x
  obtain ⟨hs, hp⟩ := hx
  dsimp only at hs hp hQ
  simp only [lxObj] at hQ
  have hsm : s.size ≤ maxStr := by unfold maxStr; omega
  refine seq_run ok0 rfl (by repeat (first | with_reducible exact runf_nil | refine runf_cons (by simp only [xstep, stepf, stepx, qev, St.ev, St.put, constD, constC, List.set_cons_zero, List.set_cons_succ, List.replicate, List.length_cons, List.length_nil, List.cons_append, List.nil_append, List.map_nil, List.map_cons, Option.map_some, Nat.reduceSub, Option.some.injEq, Nat.zero_add, lxObj]; rfl) ?_)) ?_
  refine seq_runR ?_
  refine rr_bld 5 rfl rfl Try.zeroValue69 (rr_nil ?_)
  refine seq_in ?_
  refine seq_run ok0 rfl (by repeat (first | with_reducible exact runf_nil | refine runf_cons (by simp only [xstep, stepf, stepx, qev, St.ev, St.put, St.with, D.cells, qload, cellsAt, qmk, C.cpy, TK.agg, qnil, qfieldAddr, qint, qshift, isShift, qbin, liveR, C.st, C.cp, C.dat, storeA, putCells, constD, constC, List.getElem?_cons_zero, List.getElem?_cons_succ, List.set_cons_zero, List.set_cons_succ, List.length_cons, List.length_nil, List.cons_append, List.nil_append, List.append_nil, List.map_nil, List.map_cons, List.all_cons, List.all_nil, List.take_succ_cons, List.take_zero, List.drop_succ_cons, List.drop_zero, Option.bind_some, Option.map_some, Option.map_none, Nat.reduceAdd, if_true, if_false, and_self, Option.some.injEq, ne_eq, not_false_eq_true, reduceCtorEq, Nat.le_refl, Bool.false_eq_true, implies_true, Nat.zero_add, Bool.and_self, tk3, tsz3, tk61, wrap_succ p s.size hp hsm]; rfl) ?_)) ?_
  refine tri_block ?_
  refine tri_loop_le (fun n A => ∃ (f p : Nat) (acc : List UInt8), p ≤ s.size ∧ acc.length ≤ p ∧ n = s.size - p ∧ n < f ∧
      Q (.t [.c (.v (.string (quoteN f s p acc).1)), dB (quoteN f s p acc).2.1]) [⟨2, [[.v (.string s), .v (.int .i64 (quoteN f s p acc).2.2)]]⟩] ∧
      A = ⟨[.c (.p 0 0 0), .top, .c (.v (.string ⟨#[]⟩)), dB false, .c (.p 1 0 0), .top, .top, .top, .top, .top, .top, .top, .top, .top, .top, .top, .top, .top, .top, .top, .top, .top, .top, .top, .top, .top, .top, .top, .top, .top, .top, .top, .top, .top, .top, .top, .top, .top, .top, .top, .top, .top, .top, .top, .top, .top, .top, .top, .top, .top, .top, .top, .top, .top, .top, .top, .top, .top, .top, .top, .top, .top, .top, .top, .top, .top, .top, .top, .top, .top, .top, .top, .top, .top, .top, .top, .top, .top, .top, .top, .top, .top, .top, .top, .top, .top, .top, .top, .top, .top, .top, .top, .top, .top, .top, .top, .top, .top, .top, .top, .top, .top, .top, .top, .top, .top, .top, .top, .top, .top, .top, .top, .top, .top], [some ⟨false, 2, [[.v (.string s), .v (.int .i64 p)]]⟩, some ⟨false, 2, [[.b 69, .u 5 acc]]⟩]⟩) (s.size - (p + 1))
    (B := ⟨[.c (.p 0 0 0), .top, .c (.v (.string ⟨#[]⟩)), dB false, .c (.p 1 0 0), .top, .top, .top, .top, .top, .top, .top, .top, .top, .top, .top, .top, .top, .top, .top, .top, .top, .top, .top, .top, .top, .top, .top, .top, .top, .top, .top, .top, .top, .top, .top, .top, .top, .top, .top, .top, .top, .top, .top, .top, .top, .top, .top, .top, .top, .top, .top, .top, .top, .top, .top, .top, .top, .top, .top, .top, .top, .top, .top, .top, .top, .top, .top, .top, .top, .top, .top, .top, .top, .top, .top, .top, .top, .top, .top, .top, .top, .top, .top, .top, .top, .top, .top, .top, .top, .top, .top, .top, .top, .top, .top, .top, .top, .top, .top, .top, .top, .top, .top, .top, .top, .top, .top, .top, .top, .top, .top, .top, .top], [some ⟨false, 2, [[.v (.string s), .v (.int .i64 (p + 1 : Nat))]]⟩, some ⟨false, 2, [[.b 69, .u 5 []]]⟩]⟩)
    ⟨by repeat (first | exact .nil | refine .same ?_ | refine .top ?_), rfl⟩ ⟨s.size + 1, p + 1, [], by omega, by simp, rfl, by omega, hQ, rfl⟩ ?_
  rintro n A ⟨f, p, acc, hp, hacc, rfl, hf, hQ, rfl⟩
  obtain ⟨f, rfl⟩ : ∃ f', f = f' + 1 := ⟨f - 1, by omega⟩
  have hW : ∀ x, oWB [.c (.p 0 0 0), .c (.v (.int .u8 x.toNat))] [⟨2, [[.b 69, .u 5 acc]]⟩] = some (.c (.v .nilIface), [⟨2, [[.b 69, .u 5 (acc ++ [x])]]⟩]) := fun x => wb_at acc x (by omega)
  have hS := str_at acc (by omega)
  have hE := esc_at (s.extract (p + 2) s.size) (by simp; omega)
  have hE1 := escF_u8 (s.extract (p + 2) s.size)
  have hb0 : s.data.toList.getD p 0 = byU s p := rfl
  have hb1 : s.data.toList.getD (p + 1) 0 = byU s (p + 1) := rfl
  have hL : (escF (s.extract (p + 2) s.size)).2 = true → p + 4 ≤ s.size := by
    intro h
    unfold escF at h
    split at h
    · cases h
    · rename_i h2
      simp at h2
      omega
  have hq1 : (p : Int) + 1 = ((p + 1 : Nat) : Int) := by omega
  have hq2 : (p : Int) + 2 = ((p + 2 : Nat) : Int) := by omega
  have hq4 : (p : Int) + 4 = ((p + 4 : Nat) : Int) := by omega
  refine seq_in ?_
  refine seq_anyE mixed okM1 rfl (by kernel_rfl) ?_
  refine ⟨_, (by repeat (first | with_reducible exact runf_nil | refine runf_cons (by simp only [xstep, stepf, stepx, qev, St.ev, St.put, qload, cellsAt, qmk, C.cpy, TK.agg, qnil, qfieldAddr, qint, qshift, isShift, qbin, qlen, qbuiltin, liveR, C.cp, List.getElem?_cons_zero, List.getElem?_cons_succ, List.set_cons_zero, List.set_cons_succ, List.length_cons, List.length_nil, List.map_nil, List.map_cons, List.all_cons, List.all_nil, List.take_succ_cons, List.take_zero, List.drop_succ_cons, List.drop_zero, Option.bind_some, Option.map_some, Option.map_none, if_true, if_false, and_self, Option.some.injEq, reduceCtorEq, Bool.false_eq_true, Nat.add_zero, Nat.zero_add, Bool.and_self, dB, tk61, tsz3, tk3, tsz9, tk9]; rfl) ?_)), ?_⟩
  refine tri_cond rfl (fun a0 => ?_) (fun a0 => ?_)
  ·
    simp only [decide_eq_true_eq] at a0
    refine then_skip ?_
    refine tri_block ?_
    refine seq_anyE mixed okM1 rfl (by kernel_rfl) ?_
    refine ⟨_, (by repeat (first | with_reducible exact runf_nil | refine runf_cons (by simp only [xstep, stepf, stepx, qev, St.ev, St.put, D.int, qload, cellsAt, qmk, C.cpy, TK.agg, qnil, qfieldAddr, qindex, liveR, C.cp, List.getElem?_cons_zero, List.getElem?_cons_succ, List.set_cons_zero, List.set_cons_succ, List.length_cons, List.length_nil, List.map_nil, List.map_cons, List.all_cons, List.all_nil, List.take_succ_cons, List.take_zero, List.drop_succ_cons, List.drop_zero, Option.bind_some, Option.map_some, if_true, if_false, and_self, decide_true, Option.some.injEq, reduceCtorEq, Bool.false_eq_true, Nat.add_zero, Nat.zero_add, Bool.and_self, Int.toNat_natCast, Int.natCast_nonneg, hb0, tk61, tsz3, tk3, tsz9, tk9, a0]; rfl) ?_)), ?_⟩
    refine tri_block ?_
    refine seq_run okM1 rfl (by repeat (first | with_reducible exact runf_nil | refine runf_cons (by simp only [xstep, stepf, stepx, qev, St.ev, St.put, qint, qshift, isShift, qbin, constD, constC, List.getElem?_cons_zero, List.getElem?_cons_succ, List.set_cons_zero, List.set_cons_succ, Option.map_some, Option.map_none, if_true, if_false, Option.some.injEq, Bool.false_eq_true]; rfl) ?_)) ?_
    refine tri_cond rfl (fun a1 => ?_) (fun a1 => ?_)
    ·
      simp only [decide_eq_true_eq] at a1
      refine seq_run okM1 rfl (by repeat (first | with_reducible exact runf_nil | refine runf_cons (by simp only [xstep, stepf, stepx, qev, St.ev, St.put, D.cells, qload, cellsAt, qmk, C.cpy, TK.agg, qnil, qfieldAddr, qint, qshift, isShift, qbin, liveR, C.st, C.cp, C.dat, storeA, putCells, constD, constC, List.getElem?_cons_zero, List.getElem?_cons_succ, List.set_cons_zero, List.set_cons_succ, List.length_cons, List.length_nil, List.cons_append, List.nil_append, List.append_nil, List.map_nil, List.map_cons, List.all_cons, List.all_nil, List.take_succ_cons, List.take_zero, List.drop_succ_cons, List.drop_zero, Option.bind_some, Option.map_some, Option.map_none, Nat.reduceAdd, if_true, if_false, and_self, decide_true, Option.some.injEq, ne_eq, not_false_eq_true, reduceCtorEq, Nat.le_refl, Bool.false_eq_true, implies_true, Nat.zero_add, Bool.and_self, hq1, tk61, tsz3, tk3, a1, show IntKind.i64.wrap (↑(p + 1) : Int) = _ from wrap_i64 _ (by omega) (by omega)]; rfl) ?_)) ?_
      refine seq_run okM1 rfl (by repeat (first | with_reducible exact runf_nil | refine runf_cons (by simp only [xstep, stepf, stepx, evsA, qev, St.ev, St.put, St.with, D.cell, C.dat, constD, constC, List.getElem?_cons_zero, List.getElem?_cons_succ, List.set_cons_zero, List.set_cons_succ, List.length_cons, List.length_nil, List.nil_append, List.append_nil, List.map_nil, List.all_cons, List.all_nil, Option.bind_some, Option.map_some, Bool.and_true, Bool.true_and, Nat.reduceEqDiff, if_true, if_false, and_self, Option.some.injEq, Bool.false_eq_true, Nat.zero_add, beq_self_eq_true, Bool.and_self, Bool.true_or, callP, callO, dedup, rootsD, rootsC, List.flatMap_cons, List.flatMap_nil, List.filterMap_cons, List.filterMap_nil, argDs, argD, argC, List.contains_nil, objsAt, objOf, List.idxOf?, List.findIdx?, List.findIdx?.go, setObjs, D.ni, D.ni1, C.ni, settle, settle1, settleC, List.isEmpty_nil, FsM1, hS]; rfl) ?_)) ?_
      refine tri_ret (ends_ret (by simp only [outRes, resDs, resD, outDs, outD, outC, C.dat, List.getElem?_cons_zero, List.getElem?_cons_succ, Option.map_some, if_true, Option.some.injEq]; rfl) rfl (by simp) (by simp) ?_)
      simp only [List.nil_append]
      (simp only [reduceIte, ↓reduceIte, quoteN, dB, a0, a1] at hQ; with_reducible exact hQ)
    ·
      simp only [decide_eq_false_iff_not] at a1
      refine seq_run okM1 rfl (by repeat (first | with_reducible exact runf_nil | refine runf_cons (by simp only [xstep, stepf, stepx, qev, St.ev, St.put, qint, qshift, isShift, qbin, constD, constC, List.getElem?_cons_zero, List.getElem?_cons_succ, List.set_cons_zero, List.set_cons_succ, Option.map_some, Option.map_none, if_true, if_false, decide_false, Option.some.injEq, Bool.false_eq_true, a1]; rfl) ?_)) ?_
      refine tri_cond rfl (fun a2 => ?_) (fun a2 => ?_)
      ·
        simp only [decide_eq_true_eq] at a2
        refine seq_in ?_
        refine seq_anyE mixed okM1 rfl (by kernel_rfl) ?_
        by_cases a3 : ((↑s.size : Int) ≤ (↑(p + 1) : Int))
        ·
          refine ⟨_, (by repeat (first | with_reducible exact runf_nil | refine runf_cons (by simp only [xstep, stepf, stepx, qev, St.ev, St.put, D.int, qload, cellsAt, qmk, C.cpy, TK.agg, qnil, qfieldAddr, qpick, qint, qshift, isEq, qeq, isShift, qbin, qlen, qbuiltin, liveR, C.cp, constD, constC, List.getElem?_cons_zero, List.getElem?_cons_succ, List.set_cons_zero, List.set_cons_succ, List.length_cons, List.length_nil, List.map_nil, List.map_cons, List.all_cons, List.all_nil, List.take_succ_cons, List.take_zero, List.drop_succ_cons, List.drop_zero, Option.bind_some, Option.bind_none, Option.map_some, Option.map_none, if_true, if_false, and_self, decide_true, cond_true, List.getElem?_toArray, Option.some.injEq, reduceCtorEq, Bool.false_eq_true, Nat.add_zero, Nat.zero_add, Bool.and_self, hq1, tk61, tsz3, tk3, tsz9, tk9, a2, show IntKind.i64.wrap (↑(p + 1) : Int) = _ from wrap_i64 _ (by omega) (by omega), eq_true a3]; rfl) ?_)), ?_⟩
          refine tri_cond (b := true) rfl (fun _ => ?_) (fun h => by cases h)
          refine seq_run okM1 rfl (by repeat (first | with_reducible exact runf_nil | refine runf_cons (by simp only [xstep, stepf, stepx, qev, St.ev, St.put, constD, constC, List.set_cons_zero, List.set_cons_succ, Option.map_some, Option.some.injEq]; rfl) ?_)) ?_
          refine tri_ret (ends_ret (by simp only [outRes, resDs, resD, outDs, outD, outC, C.dat, List.getElem?_cons_zero, List.getElem?_cons_succ, Option.map_some, if_true, Option.some.injEq]; rfl) rfl (by simp) (by simp) ?_)
          simp only [List.nil_append]
          (simp only [reduceIte, ↓reduceIte, Int.reduceEq, quoteN, noText, dB, a0, a2, eq_true a3] at hQ; with_reducible exact hQ)
        ·
          refine ⟨_, (by repeat (first | with_reducible exact runf_nil | refine runf_cons (by simp only [xstep, stepf, stepx, qev, St.ev, St.put, D.int, qload, cellsAt, qmk, C.cpy, TK.agg, qnil, qfieldAddr, qindex, qpick, qint, qshift, isShift, qbin, qlen, qbuiltin, liveR, C.cp, constD, constC, List.getElem?_cons_zero, List.getElem?_cons_succ, List.set_cons_zero, List.set_cons_succ, List.length_cons, List.length_nil, List.map_nil, List.map_cons, List.all_cons, List.all_nil, List.take_succ_cons, List.take_zero, List.drop_succ_cons, List.drop_zero, Option.bind_some, Option.map_some, Option.map_none, if_true, if_false, and_self, decide_true, decide_false, cond_false, List.getElem?_toArray, Option.some.injEq, reduceCtorEq, Bool.false_eq_true, Nat.add_zero, Nat.zero_add, Bool.and_self, Int.toNat_natCast, Int.natCast_nonneg, hb1, hq1, tk61, tsz3, tk3, tsz9, tk9, a2, show IntKind.i64.wrap (↑(p + 1) : Int) = _ from wrap_i64 _ (by omega) (by omega), eq_false a3, show ((↑(p + 1) : Int) < (↑s.size : Int)) = True from eq_true (by omega)]; rfl) ?_)), ?_⟩
          refine tri_cond rfl (fun a4 => ?_) (fun a4 => ?_)
          ·
            simp only [decide_eq_false_iff_not, Bool.not_eq_true'] at a4
            refine seq_run okM1 rfl (by repeat (first | with_reducible exact runf_nil | refine runf_cons (by simp only [xstep, stepf, stepx, qev, St.ev, St.put, constD, constC, List.set_cons_zero, List.set_cons_succ, Option.map_some, decide_false, Bool.not_false, Option.some.injEq, a4]; rfl) ?_)) ?_
            refine tri_ret (ends_ret (by simp only [outRes, resDs, resD, outDs, outD, outC, C.dat, List.getElem?_cons_zero, List.getElem?_cons_succ, Option.map_some, if_true, Option.some.injEq]; rfl) rfl (by simp) (by simp) ?_)
            simp only [List.nil_append]
            (simp only [reduceIte, ↓reduceIte, Int.reduceEq, quoteN, noText, dB, a0, a2, eq_false a3, a4] at hQ; with_reducible exact hQ)
          ·
            simp only [decide_eq_true_eq, Bool.not_eq_false'] at a4
            refine then_skip ?_
            refine seq_anyE mixed okM1 rfl (by kernel_rfl) ?_
            refine ⟨_, (by repeat (first | with_reducible exact runf_nil | refine runf_cons (by simp only [xstep, stepf, stepx, evsA, qev, St.ev, St.put, St.with, D.int, qload, cellsAt, qmk, C.cpy, TK.agg, qnil, qfieldAddr, qint, qshift, isShift, qbin, qbounds, qslice, qext, omap, liveR, C.cp, C.dat, constD, constC, List.getElem?_cons_zero, List.getElem?_cons_succ, List.set_cons_zero, List.set_cons_succ, List.length_cons, List.length_nil, List.append_nil, List.map_nil, List.map_cons, List.all_cons, List.all_nil, List.take_succ_cons, List.take_zero, List.drop_succ_cons, List.drop_zero, Option.bind_some, Option.map_some, Option.map_none, Nat.reduceEqDiff, if_true, if_false, and_self, decide_true, Bool.not_true, Option.some.injEq, reduceCtorEq, Bool.false_eq_true, Nat.add_zero, Nat.zero_add, Bool.and_self, Bool.or_true, callP, argDs, argD, argC, D.ni, D.ni1, C.ni, settle, settle1, settleC, settleDs, List.isEmpty_nil, dB, Int.toNat_natCast, Int.natCast_nonneg, FsM1, hE, hE1, hq2, tk61, tsz3, tk3, tsz9, tk9, a4, show IntKind.i64.wrap (↑(p + 2) : Int) = _ from wrap_i64 _ (by omega) (by omega), show ((↑(p + 2) : Int) ≤ (↑s.size : Int)) = True from eq_true (by omega)]; rfl) ?_)), ?_⟩
            refine seq_in ?_
            by_cases a5 : (((escF (s.extract (p + 2) s.size)).snd) = true)
            ·
              refine seq_run okM1 rfl (by repeat (first | with_reducible exact runf_nil | refine runf_cons (by simp only [xstep, stepf, stepx, evsA, qev, St.ev, St.put, St.with, C.cpy, qpick, qun, C.cp, C.dat, constD, constC, List.getElem?_cons_zero, List.getElem?_cons_succ, List.set_cons_zero, List.set_cons_succ, List.append_nil, List.map_nil, Option.bind_some, Option.map_some, Nat.reduceEqDiff, if_true, if_false, Bool.not_true, cond_false, List.getElem?_toArray, Option.some.injEq, Bool.and_self, Bool.or_true, callP, argDs, argD, argC, D.ni, D.ni1, C.ni, settle, settle1, settleC, List.isEmpty_nil, dB, FsM1, plain_at, a5]; rfl) ?_)) ?_
              refine tri_cond rfl (fun a6 => ?_) (fun a6 => ?_)
              ·
                refine seq_run okM1 rfl (by repeat (first | with_reducible exact runf_nil | refine runf_cons (by simp only [xstep, stepf, stepx, qev, St.ev, St.put, constD, constC, List.set_cons_zero, List.set_cons_succ, Option.map_some, Option.some.injEq, a6]; rfl) ?_)) ?_
                refine tri_ret (ends_ret (by simp only [outRes, resDs, resD, outDs, outD, outC, C.dat, List.getElem?_cons_zero, List.getElem?_cons_succ, Option.map_some, if_true, Option.some.injEq]; rfl) rfl (by simp) (by simp) ?_)
                simp only [List.nil_append]
                (simp only [reduceIte, ↓reduceIte, Int.reduceEq, quoteN, noText, dB, a0, a2, eq_false a3, a4, a5, a6] at hQ; with_reducible exact hQ)
              ·
                refine then_skip ?_
                refine seq_run okM1 rfl (by repeat (first | with_reducible exact runf_nil | refine runf_cons (by simp only [xstep, stepf, stepx, evsA, qev, St.ev, St.put, St.with, D.cell, C.cpy, C.cp, C.dat, List.getElem?_cons_zero, List.getElem?_cons_succ, List.set_cons_zero, List.set_cons_succ, List.length_cons, List.length_nil, List.nil_append, List.append_nil, List.map_nil, List.all_cons, List.all_nil, Option.bind_some, Option.map_some, Bool.and_true, Bool.true_and, Nat.reduceEqDiff, if_true, if_false, and_self, Option.some.injEq, Bool.false_eq_true, Nat.zero_add, beq_self_eq_true, Bool.and_self, Bool.true_or, callP, callO, dedup, rootsD, rootsC, List.flatMap_cons, List.flatMap_nil, List.filterMap_cons, List.filterMap_nil, argDs, argD, argC, List.contains_nil, objsAt, objOf, List.idxOf?, List.findIdx?, List.findIdx?.go, setObjs, D.ni, D.ni1, C.ni, settle, settle1, settleC, List.isEmpty_nil, FsM1, hW, a6]; rfl) ?_)) ?_
                refine run_end okM1 rfl (by repeat (first | with_reducible exact runf_nil | refine runf_cons (by simp only [xstep, stepf, stepx, qev, St.ev, St.put, D.cells, qload, cellsAt, qmk, C.cpy, TK.agg, qnil, qfieldAddr, qint, qshift, isShift, qbin, liveR, C.st, C.cp, C.dat, storeA, putCells, constD, constC, List.getElem?_cons_zero, List.getElem?_cons_succ, List.set_cons_zero, List.set_cons_succ, List.length_cons, List.length_nil, List.cons_append, List.nil_append, List.append_nil, List.map_nil, List.map_cons, List.all_cons, List.all_nil, List.take_succ_cons, List.take_zero, List.drop_succ_cons, List.drop_zero, Option.bind_some, Option.map_some, Option.map_none, Nat.reduceAdd, if_true, if_false, and_self, Option.some.injEq, ne_eq, not_false_eq_true, reduceCtorEq, Nat.le_refl, Bool.false_eq_true, implies_true, Nat.zero_add, Bool.and_self, hq4, tk61, tsz3, tk3, show IntKind.i64.wrap (↑(p + 4) : Int) = _ from wrap_i64 _ (by omega) (by omega)]; rfl) ?_)) ?_
                simp only []
                (have hL' := hL (by assumption); simp only [quoteN, dB, a0, a2, eq_false a3, a4, a5, a6, reduceIte, Bool.false_eq_true, ↓reduceIte, Int.reduceEq] at hQ; exact ⟨s.size - (p + 4), by omega, ⟨[.c (.p 0 0 0), .top, .c (.v (.string ⟨#[]⟩)), dB false, .c (.p 1 0 0), .top, .top, .top, .top, .top, .top, .top, .top, .top, .top, .top, .top, .top, .top, .top, .top, .top, .top, .top, .top, .top, .top, .top, .top, .top, .top, .top, .top, .top, .top, .top, .top, .top, .top, .top, .top, .top, .top, .top, .top, .top, .top, .top, .top, .top, .top, .top, .top, .top, .top, .top, .top, .top, .top, .top, .top, .top, .top, .top, .top, .top, .top, .top, .top, .top, .top, .top, .top, .top, .top, .top, .top, .top, .top, .top, .top, .top, .top, .top, .top, .top, .top, .top, .top, .top, .top, .top, .top, .top, .top, .top, .top, .top, .top, .top, .top, .top, .top, .top, .top, .top, .top, .top, .top, .top, .top, .top, .top, .top], [some ⟨false, 2, [[.v (.string s), .v (.int .i64 (p + 4 : Nat))]]⟩, some ⟨false, 2, [[.b 69, .u 5 (acc ++ [escB (s.extract (p + 2) s.size)])]]⟩]⟩, ⟨by repeat (first | exact .nil | refine .same ?_ | refine .top ?_), rfl⟩, f, p + 4, acc ++ [escB (s.extract (p + 2) s.size)], by omega, by simp; omega, rfl, by omega, hQ, rfl⟩)
            ·
              refine seq_run okM1 rfl (by repeat (first | with_reducible exact runf_nil | refine runf_cons (by simp only [xstep, stepf, stepx, evsA, qev, St.ev, St.put, qpick, qun, constD, constC, List.getElem?_cons_zero, List.getElem?_cons_succ, List.set_cons_zero, List.set_cons_succ, List.append_nil, List.map_nil, Option.bind_some, Option.map_some, Option.map_none, Nat.reduceEqDiff, if_true, if_false, Bool.not_false, cond_true, List.getElem?_toArray, Option.some.injEq, reduceCtorEq, callP, callO, argDs, argD, FsM1, eq_false_of_ne_true a5]; rfl) ?_)) ?_
              refine tri_cond (b := true) rfl (fun _ => ?_) (fun h => by cases h)
              refine seq_run okM1 rfl (by repeat (first | with_reducible exact runf_nil | refine runf_cons (by simp only [xstep, stepf, stepx, qev, St.ev, St.put, constD, constC, List.set_cons_zero, List.set_cons_succ, Option.map_some, Option.some.injEq]; rfl) ?_)) ?_
              refine tri_ret (ends_ret (by simp only [outRes, resDs, resD, outDs, outD, outC, C.dat, List.getElem?_cons_zero, List.getElem?_cons_succ, Option.map_some, if_true, Option.some.injEq]; rfl) rfl (by simp) (by simp) ?_)
              simp only [List.nil_append]
              (simp only [reduceIte, Bool.false_eq_true, ↓reduceIte, Int.reduceEq, quoteN, noText, dB, a0, a2, eq_false a3, a4, eq_false_of_ne_true a5] at hQ; with_reducible exact hQ)
      ·
        simp only [decide_eq_false_iff_not] at a2
        refine seq_run okM1 rfl (by repeat (first | with_reducible exact runf_nil | refine runf_cons (by simp only [xstep, stepf, stepx, evsA, qev, St.ev, St.put, St.with, C.cpy, qun, C.cp, C.dat, List.getElem?_cons_zero, List.getElem?_cons_succ, List.set_cons_zero, List.set_cons_succ, List.append_nil, List.map_nil, Option.bind_some, Option.map_some, Nat.reduceEqDiff, if_true, if_false, decide_false, Option.some.injEq, Bool.and_self, Bool.or_true, callP, argDs, argD, argC, D.ni, D.ni1, C.ni, settle, settle1, settleC, List.isEmpty_nil, dB, FsM1, plain_at, a2]; rfl) ?_)) ?_
        refine tri_cond rfl (fun a7 => ?_) (fun a7 => ?_)
        ·
          simp only [Bool.not_eq_true'] at a7
          refine seq_run okM1 rfl (by repeat (first | with_reducible exact runf_nil | refine runf_cons (by simp only [xstep, stepf, stepx, qev, St.ev, St.put, constD, constC, List.set_cons_zero, List.set_cons_succ, Option.map_some, Bool.not_false, Option.some.injEq, a7]; rfl) ?_)) ?_
          refine tri_ret (ends_ret (by simp only [outRes, resDs, resD, outDs, outD, outC, C.dat, List.getElem?_cons_zero, List.getElem?_cons_succ, Option.map_some, if_true, Option.some.injEq]; rfl) rfl (by simp) (by simp) ?_)
          simp only [List.nil_append]
          (simp only [reduceIte, Bool.false_eq_true, ↓reduceIte, quoteN, noText, dB, a0, a1, a2, a7] at hQ; with_reducible exact hQ)
        ·
          simp only [Bool.not_eq_false'] at a7
          refine seq_run okM1 rfl (by repeat (first | with_reducible exact runf_nil | refine runf_cons (by simp only [xstep, stepf, stepx, evsA, qev, St.ev, St.put, St.with, D.cell, C.cpy, C.cp, C.dat, List.getElem?_cons_zero, List.getElem?_cons_succ, List.set_cons_zero, List.set_cons_succ, List.length_cons, List.length_nil, List.nil_append, List.append_nil, List.map_nil, List.all_cons, List.all_nil, Option.bind_some, Option.map_some, Bool.and_true, Bool.true_and, Nat.reduceEqDiff, if_true, if_false, and_self, Bool.not_true, Option.some.injEq, Bool.false_eq_true, Nat.zero_add, beq_self_eq_true, Bool.and_self, Bool.true_or, callP, callO, dedup, rootsD, rootsC, List.flatMap_cons, List.flatMap_nil, List.filterMap_cons, List.filterMap_nil, argDs, argD, argC, List.contains_nil, objsAt, objOf, List.idxOf?, List.findIdx?, List.findIdx?.go, setObjs, D.ni, D.ni1, C.ni, settle, settle1, settleC, List.isEmpty_nil, FsM1, hW, a7]; rfl) ?_)) ?_
          refine run_end okM1 rfl (by repeat (first | with_reducible exact runf_nil | refine runf_cons (by simp only [xstep, stepf, stepx, qev, St.ev, St.put, D.cells, qload, cellsAt, qmk, C.cpy, TK.agg, qnil, qfieldAddr, qint, qshift, isShift, qbin, liveR, C.st, C.cp, C.dat, storeA, putCells, constD, constC, List.getElem?_cons_zero, List.getElem?_cons_succ, List.set_cons_zero, List.set_cons_succ, List.length_cons, List.length_nil, List.cons_append, List.nil_append, List.append_nil, List.map_nil, List.map_cons, List.all_cons, List.all_nil, List.take_succ_cons, List.take_zero, List.drop_succ_cons, List.drop_zero, Option.bind_some, Option.map_some, Option.map_none, Nat.reduceAdd, if_true, if_false, and_self, Option.some.injEq, ne_eq, not_false_eq_true, reduceCtorEq, Nat.le_refl, Bool.false_eq_true, implies_true, Nat.zero_add, Bool.and_self, hq1, tk61, tsz3, tk3, show IntKind.i64.wrap (↑(p + 1) : Int) = _ from wrap_i64 _ (by omega) (by omega)]; rfl) ?_)) ?_
          simp only []
          (simp only [quoteN, dB, a0, a1, a2, a7, reduceIte, ↓reduceIte] at hQ; exact ⟨s.size - (p + 1), by omega, ⟨[.c (.p 0 0 0), .top, .c (.v (.string ⟨#[]⟩)), dB false, .c (.p 1 0 0), .top, .top, .top, .top, .top, .top, .top, .top, .top, .top, .top, .top, .top, .top, .top, .top, .top, .top, .top, .top, .top, .top, .top, .top, .top, .top, .top, .top, .top, .top, .top, .top, .top, .top, .top, .top, .top, .top, .top, .top, .top, .top, .top, .top, .top, .top, .top, .top, .top, .top, .top, .top, .top, .top, .top, .top, .top, .top, .top, .top, .top, .top, .top, .top, .top, .top, .top, .top, .top, .top, .top, .top, .top, .top, .top, .top, .top, .top, .top, .top, .top, .top, .top, .top, .top, .top, .top, .top, .top, .top, .top, .top, .top, .top, .top, .top, .top, .top, .top, .top, .top, .top, .top, .top, .top, .top, .top, .top, .top], [some ⟨false, 2, [[.v (.string s), .v (.int .i64 (p + 1 : Nat))]]⟩, some ⟨false, 2, [[.b 69, .u 5 (acc ++ [byU s p])]]⟩]⟩, ⟨by repeat (first | exact .nil | refine .same ?_ | refine .top ?_), rfl⟩, f, p + 1, acc ++ [byU s p], by omega, by simp; omega, rfl, by omega, hQ, rfl⟩)
  ·
    simp only [decide_eq_false_iff_not] at a0
    refine tri_exit ?_
    show Tri _ _ _ _
    refine seq_run okM1 rfl (by repeat (first | with_reducible exact runf_nil | refine runf_cons (by simp only [xstep, stepf, stepx, qev, St.ev, St.put, constD, constC, List.set_cons_zero, List.set_cons_succ, Option.map_some, decide_false, Option.some.injEq, a0]; rfl) ?_)) ?_
    refine tri_ret (ends_ret (by simp only [outRes, resDs, resD, outDs, outD, outC, C.dat, List.getElem?_cons_zero, List.getElem?_cons_succ, Option.map_some, if_true, Option.some.injEq]; rfl) rfl (by simp) (by simp) ?_)
    simp only [List.nil_append]
    (simp only [reduceIte, ↓reduceIte, quoteN, noText, dB, a0] at hQ; with_reducible exact hQ)
end Go.Dl
