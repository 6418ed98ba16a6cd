/- The walks of the lexer's run and blanks; The walk of the lexer's blanks; The walk of the lexer's next, but for quotes; Results that stay, in tuples; the walk of Tokens; 'Dl', part Zn: a region of open order, its order looked at first; 'Dl', part Zo: contracts over a family of inputs; 'Dl', part Zp: a builder's bytes: appending to them. -/
import Derived.Test.YtbefgbljlmnfoaaC10
import Derived.Laws.CopyRow
namespace Go.Dl
open Go.RowKit
open Go.Proofs
set_option linter.unusedSimpArgs false
set_option linter.unusedVariables false

/-- A text's byte. -/
def byt (s : ByteArray) (p : Nat) : Int := (((s.data.toList.getD p 0).toNat : Nat) : Int)

def lxObj (s : ByteArray) (p : Nat) : Obj := ⟨2, [[.v (.string s), .v (.int .i64 p)]]⟩

/-- How far something holds. -/
def runN (f : Int → Bool) : Nat → ByteArray → Nat → Nat
  | 0, _, p => p
  | n + 1, s, p => if p < s.size ∧ f (byt s p) = true then runN f n s (p + 1) else p
theorem runN_le (f : Int → Bool) : ∀ (n : Nat) (s : ByteArray) (p : Nat), p ≤ s.size → p ≤ runN f n s p ∧ runN f n s p ≤ s.size
  | 0, s, p, h => ⟨Nat.le_refl _, h⟩
  | n + 1, s, p, h => by
    simp only [runN]
    split
    · rename_i hc
      have := runN_le f n s (p + 1) hc.1
      omega
    · exact ⟨Nat.le_refl _, h⟩
def runF (f : Int → Bool) (s : ByteArray) (p : Nat) : Nat := runN f (s.size + 1) s p
theorem runF_le (f : Int → Bool) (s : ByteArray) (p : Nat) (h : p ≤ s.size) : p ≤ runF f s p ∧ runF f s p ≤ s.size := runN_le f _ s p h

def predK (k : Nat) : Option (Int → Bool) := if k = 55 then some isWordC else if k = 56 then some isDigit else if k = 71 then some notNL else none
def FsL3 : Fs := { Fs.none with pure := fun k => (predK k).map pU8 }
theorem okL3 : FsOK Try.prog FsL3 := by
  refine ⟨fun k f h => ?_, fun _ _ h => (by cases h)⟩
  simp only [FsL3, predK] at h
  split at h
  · rename_i hk; subst hk; cases h; exact ⟨by kernel_rfl, meets55⟩
  split at h
  · rename_i hk; subst hk; cases h; exact ⟨by kernel_rfl, meets56⟩
  split at h
  · rename_i hk; subst hk; cases h; exact ⟨by kernel_rfl, meets71⟩
  · cases h

/-- run. -/
def oRun : List D → List Obj → Option (D × List Obj)
  | [.c (.p 0 0 0), .c (.f k [])], [⟨2, [[.v (.string s), .v (.int .i64 (.ofNat p))]]⟩] => (predK k).bind fun f => if s.size ≤ 1000000 ∧ p ≤ s.size then
      some (.c (.v (.string (s.extract p (runF f s p)))), [lxObj s (runF f s p)]) else none
  | _, _ => none

theorem meets54 : Meets Try.prog 54 (detS oRun) := by
  refine meets_of_tri (show Try.prog.funcs[54]? = some Try.f54 by kernel_rfl) rfl (n := 50) rfl (rs := [ResultVar.tmp 4]) rfl ?_
  rintro args objs Q ⟨d, os, hd, hQ⟩
  unfold oRun at hd
  split at hd
  · rename_i k s p
    cases hk : predK k with
    | none => rw [hk] at hd; cases hd
    | some f =>
      rw [hk] at hd
      simp only [Option.bind_some] at hd
      split at hd
      · rename_i hc
        obtain ⟨hs, hp⟩ := hc
        cases hd
        have hFs : FsL3.pure k = some (pU8 f) := by simp only [FsL3, hk, Option.map_some]
        obtain ⟨g1, g2⟩ := runF_le f s p hp
        generalize hr : runF f s p = r at g1 g2 hQ
        refine seq_run ok0 rfl (by repeat (first | with_reducible exact runf_nil | refine runf_cons (by simp only [xstep, stepf, stepx, qev, St.ev, St.put, constD, constC, List.set_cons_zero, List.set_cons_succ, List.replicate, List.length_cons, List.length_nil, List.cons_append, List.nil_append, List.map_nil, List.map_cons, Option.map_some, Nat.reduceAdd, Nat.reduceSub, Option.some.injEq, Nat.zero_add]; rfl) ?_)) ?_
        refine seq_run ok0 rfl (by repeat (first | with_reducible exact runf_nil | refine runf_cons (by simp only [xstep, stepf, stepx, qev, St.ev, St.put, qload, cellsAt, qmk, C.cpy, TK.agg, qnil, qfieldAddr, liveR, C.cp, List.getElem?_cons_zero, List.getElem?_cons_succ, List.set_cons_zero, List.set_cons_succ, List.length_cons, List.length_nil, List.map_nil, List.map_cons, List.all_cons, List.all_nil, List.take_succ_cons, List.take_zero, List.drop_succ_cons, List.drop_zero, Option.bind_some, Option.map_some, if_true, if_false, and_self, Option.some.injEq, reduceCtorEq, Bool.false_eq_true, Nat.zero_add, Bool.and_self, tk3, tsz3, tk61, Int.ofNat_eq_natCast]; rfl) ?_)) ?_
        refine seq_in (tri_block ?_)
        refine tri_loop_le (fun n A => ∃ (q fu : Nat), q ≤ s.size ∧ n = s.size - q ∧ s.size - q < fu ∧ runN f fu s q = r ∧
            A = ⟨[.c (.p 0 0 0), .c (.f k []), .top, .top, .top, dI p, .top, .top, .top, .top, .top, .top, .top, .top, .top, .top, .top, .top, .top, .top, .top, .top, .top, .top, .top, .top, .top, .top, .top, .top, .top, .top, .top, .top, .top, .top, .top, .top, .top, .top, .top, .top, .top, .top, .top, .top, .top, .top, .top, .top], [some ⟨false, 2, [[.v (.string s), .v (.int .i64 q)]]⟩]⟩) (s.size - p)
          (B := ⟨[.c (.p 0 0 0), .c (.f k []), .top, .top, .top, dI p, .top, .top, .top, .top, .top, .top, .top, .top, .top, .top, .top, .top, .top, .top, .top, .top, .top, .top, .top, .top, .top, .top, .top, .top, .top, .top, .top, .top, .top, .top, .top, .top, .top, .top, .top, .top, .top, .top, .top, .top, .top, .top, .top, .top], [some ⟨false, 2, [[.v (.string s), .v (.int .i64 p)]]⟩]⟩)
          ⟨by repeat (first | exact .nil | refine .same ?_ | refine .top ?_), rfl⟩ ⟨p, s.size + 1, hp, rfl, by omega, hr, rfl⟩ ?_
        rintro n A ⟨q, fu, hq, rfl, hfu, hru, rfl⟩
        obtain ⟨fu, rfl⟩ : ∃ m, fu = m + 1 := ⟨fu - 1, by omega⟩
        simp only [runN] at hru
        by_cases hqs : q < s.size
        · have hU : pU8 f [.c (.v (.int .u8 (byt s q)))] = some (dB (f (byt s q))) := rfl
          simp only [byt] at hU
          cases hf : f (byt s q) with
          | true =>
            rw [if_pos ⟨hqs, hf⟩] at hru
            simp only [byt] at hf
            rw [hf] at hU
            refine seq_in (seq_any mixed okL3 rfl (by kernel_rfl) (by repeat (first | with_reducible exact runf_nil | refine runf_cons (by simp only [xstep, stepf, stepx, evsA, qev, St.ev, St.put, St.with, D.int, qload, cellsAt, qmk, C.cpy, TK.agg, qnil, qfieldAddr, qindex, qpick, qint, qshift, isShift, qbin, qlen, qbuiltin, liveR, C.cp, C.dat, constD, constC, List.getElem?_cons_zero, List.getElem?_cons_succ, List.set_cons_zero, List.set_cons_succ, List.length_cons, List.length_nil, List.append_nil, List.map_nil, List.map_cons, List.all_cons, List.all_nil, List.take_succ_cons, List.take_zero, List.drop_succ_cons, List.drop_zero, Option.bind_some, Option.map_some, Option.map_none, if_true, if_false, and_self, decide_true, cond_true, List.getElem?_toArray, Option.some.injEq, reduceCtorEq, Bool.false_eq_true, Nat.add_zero, Nat.zero_add, Bool.and_self, Bool.true_or, dI, dB, tk3, tsz3, tk9, tsz9, tk61, Int.toNat_natCast, Int.natCast_nonneg, callP, argDs, argD, argC, settle, settle1, settleC, List.isEmpty_nil, hFs, hU, show ((q : Int) < (s.size : Int)) = True from eq_true (by omega)]; rfl) ?_)) ?_)
            refine tri_cond rfl (fun _ => then_skip ?_) (fun h => by cases h)
            refine tri_block ?_
            refine run_end ok0 rfl (by repeat (first | with_reducible exact runf_nil | refine runf_cons (by simp only [xstep, stepf, stepx, qev, St.ev, St.put, D.cells, qload, cellsAt, qmk, C.cpy, TK.agg, qnil, qfieldAddr, qint, qshift, isShift, qbin, liveR, C.st, C.cp, C.dat, storeA, putCells, constD, constC, List.getElem?_cons_zero, List.getElem?_cons_succ, List.set_cons_zero, List.set_cons_succ, List.length_cons, List.length_nil, List.cons_append, List.nil_append, List.append_nil, List.map_nil, List.map_cons, List.all_cons, List.all_nil, List.take_succ_cons, List.take_zero, List.drop_succ_cons, List.drop_zero, Option.bind_some, Option.map_some, Option.map_none, Nat.reduceAdd, if_true, if_false, and_self, Option.some.injEq, ne_eq, not_false_eq_true, reduceCtorEq, Nat.le_refl, Bool.false_eq_true, implies_true, Nat.zero_add, Bool.and_self, tk3, tsz3, tk61, wrap_succ q s.size hqs (by unfold maxStr; omega)]; rfl) ?_)) ?_
            exact ⟨s.size - (q + 1), by omega, ⟨[.c (.p 0 0 0), .c (.f k []), .top, .top, .top, dI p, .top, .top, .top, .top, .top, .top, .top, .top, .top, .top, .top, .top, .top, .top, .top, .top, .top, .top, .top, .top, .top, .top, .top, .top, .top, .top, .top, .top, .top, .top, .top, .top, .top, .top, .top, .top, .top, .top, .top, .top, .top, .top, .top, .top], [some ⟨false, 2, [[.v (.string s), .v (.int .i64 (q + 1 : Nat))]]⟩]⟩, ⟨by repeat (first | exact .nil | refine .same ?_ | refine .top ?_), rfl⟩, q + 1, fu, hqs, rfl, by omega, hru, rfl⟩
          | false =>
            rw [if_neg (by rw [hf]; simp)] at hru
            subst hru
            simp only [byt] at hf
            rw [hf] at hU
            refine seq_in (seq_any mixed okL3 rfl (by kernel_rfl) (by repeat (first | with_reducible exact runf_nil | refine runf_cons (by simp only [xstep, stepf, stepx, evsA, qev, St.ev, St.put, St.with, D.int, qload, cellsAt, qmk, C.cpy, TK.agg, qnil, qfieldAddr, qindex, qpick, qint, qshift, isShift, qbin, qlen, qbuiltin, liveR, C.cp, C.dat, constD, constC, List.getElem?_cons_zero, List.getElem?_cons_succ, List.set_cons_zero, List.set_cons_succ, List.length_cons, List.length_nil, List.append_nil, List.map_nil, List.map_cons, List.all_cons, List.all_nil, List.take_succ_cons, List.take_zero, List.drop_succ_cons, List.drop_zero, Option.bind_some, Option.map_some, Option.map_none, if_true, if_false, and_self, decide_true, cond_true, List.getElem?_toArray, Option.some.injEq, reduceCtorEq, Bool.false_eq_true, Nat.add_zero, Nat.zero_add, Bool.and_self, Bool.true_or, dI, dB, tk3, tsz3, tk9, tsz9, tk61, Int.toNat_natCast, Int.natCast_nonneg, callP, argDs, argD, argC, settle, settle1, settleC, List.isEmpty_nil, hFs, hU, show ((q : Int) < (s.size : Int)) = True from eq_true (by omega)]; rfl) ?_)) ?_)
            refine tri_cond rfl (fun h => by cases h) (fun _ => tri_exit ?_)
            show Tri _ _ _ _
            refine seq_any mixed ok0 rfl (by kernel_rfl) (by repeat (first | with_reducible exact runf_nil | refine runf_cons (by simp only [xstep, stepf, stepx, qev, St.ev, St.put, D.int, qload, cellsAt, qmk, C.cpy, TK.agg, qnil, qfieldAddr, qbounds, qslice, omap, liveR, C.cp, List.getElem?_cons_zero, List.getElem?_cons_succ, List.set_cons_zero, List.set_cons_succ, List.length_cons, List.length_nil, List.map_nil, List.map_cons, List.all_cons, List.all_nil, List.take_succ_cons, List.take_zero, List.drop_succ_cons, List.drop_zero, Option.bind_some, Option.map_some, if_true, if_false, and_self, Option.some.injEq, reduceCtorEq, Bool.false_eq_true, Nat.add_zero, Nat.zero_add, Bool.and_self, tk3, tsz3, tk9, tsz9, tk61, qbounds, D.int, Int.toNat_natCast, Int.natCast_nonneg, show ((p : Int) ≤ (q : Int)) = True from eq_true (by omega), show ((q : Int) ≤ (s.size : Int)) = True from eq_true (by omega)]; rfl) ?_)) ?_
            refine tri_ret (ends_ret (by simp only [outRes, resDs, resD, outD, outC, C.dat, List.getElem?_cons_zero, List.getElem?_cons_succ, Option.map_some, if_true, Option.some.injEq]; rfl) rfl .nil (by simp) ?_)
            exact hQ
        · rw [if_neg (fun h => hqs h.1)] at hru
          subst hru
          refine seq_in (seq_any mixed okL3 rfl (by kernel_rfl) (by repeat (first | with_reducible exact runf_nil | refine runf_cons (by simp only [xstep, stepf, stepx, qev, St.ev, St.put, D.int, qload, cellsAt, qmk, C.cpy, TK.agg, qnil, qfieldAddr, qpick, qint, qshift, isShift, qbin, qlen, qbuiltin, liveR, C.cp, constD, constC, List.getElem?_cons_zero, List.getElem?_cons_succ, List.set_cons_zero, List.set_cons_succ, List.length_cons, List.length_nil, List.map_nil, List.map_cons, List.all_cons, List.all_nil, List.take_succ_cons, List.take_zero, List.drop_succ_cons, List.drop_zero, Option.bind_some, Option.bind_none, Option.map_some, Option.map_none, if_true, if_false, and_self, decide_false, cond_false, List.getElem?_toArray, Option.some.injEq, reduceCtorEq, Bool.false_eq_true, Nat.add_zero, Nat.zero_add, Bool.and_self, dI, tk3, tsz3, tk9, tsz9, tk61, callP, callO, show ((q : Int) < (s.size : Int)) = False from eq_false (by omega)]; rfl) ?_)) ?_)
          refine tri_cond rfl (fun h => by cases h) (fun _ => tri_exit ?_)
          show Tri _ _ _ _
          refine seq_any mixed ok0 rfl (by kernel_rfl) (by repeat (first | with_reducible exact runf_nil | refine runf_cons (by simp only [xstep, stepf, stepx, qev, St.ev, St.put, D.int, qload, cellsAt, qmk, C.cpy, TK.agg, qnil, qfieldAddr, qbounds, qslice, omap, liveR, C.cp, List.getElem?_cons_zero, List.getElem?_cons_succ, List.set_cons_zero, List.set_cons_succ, List.length_cons, List.length_nil, List.map_nil, List.map_cons, List.all_cons, List.all_nil, List.take_succ_cons, List.take_zero, List.drop_succ_cons, List.drop_zero, Option.bind_some, Option.map_some, if_true, if_false, and_self, Option.some.injEq, reduceCtorEq, Bool.false_eq_true, Nat.add_zero, Nat.zero_add, Bool.and_self, tk3, tsz3, tk9, tsz9, tk61, qbounds, D.int, Int.toNat_natCast, Int.natCast_nonneg, show ((p : Int) ≤ (q : Int)) = True from eq_true (by omega), show ((q : Int) ≤ (s.size : Int)) = True from eq_true (by omega)]; rfl) ?_)) ?_
          refine tri_ret (ends_ret (by simp only [outRes, resDs, resD, outD, outC, C.dat, List.getElem?_cons_zero, List.getElem?_cons_succ, Option.map_some, if_true, Option.some.injEq]; rfl) rfl .nil (by simp) ?_)
          exact hQ
      · cases hd
  · cases hd

end Go.Dl

namespace Go.Dl
open Go.RowKit
open Go.Proofs
set_option linter.unusedSimpArgs false
set_option linter.unusedVariables false

def isBlank (c : Int) : Bool := decide (c = 32) || decide (c = 10) || decide (c = 9)
def blkN : Nat → ByteArray → Nat → Nat
  | 0, _, p => p
  | n + 1, s, p => if p < s.size then (if isBlank (byt s p) = true then blkN n s (p + 1) else if byt s p = 35 then blkN n s (runF notNL s p) else p) else p
def blkF (s : ByteArray) (p : Nat) : Nat := blkN (s.size + 1) s p

theorem runF_gt {f : Int → Bool} {s : ByteArray} {p : Nat} (hp : p < s.size) (hf : f (byt s p) = true) : p < runF f s p := by
  unfold runF
  simp only [runN]
  rw [if_pos ⟨hp, hf⟩]
  exact (runN_le f s.size s (p + 1) hp).1

theorem blkN_le : ∀ (n : Nat) (s : ByteArray) (p : Nat), p ≤ s.size → p ≤ blkN n s p ∧ blkN n s p ≤ s.size
  | 0, s, p, h => ⟨Nat.le_refl _, h⟩
  | n + 1, s, p, h => by
    simp only [blkN]
    split
    · rename_i hp
      split
      · have := blkN_le n s (p + 1) hp; omega
      · split
        · have h1 := runF_le notNL s p h
          have := blkN_le n s (runF notNL s p) h1.2; omega
        · exact ⟨Nat.le_refl _, h⟩
    · exact ⟨Nat.le_refl _, h⟩
theorem blkF_le (s : ByteArray) (p : Nat) (h : p ≤ s.size) : p ≤ blkF s p ∧ blkF s p ≤ s.size := blkN_le _ s p h

def oBlk : List D → List Obj → Option (D × List Obj)
  | [.c (.p 0 0 0)], [⟨2, [[.v (.string s), .v (.int .i64 (.ofNat p))]]⟩] => if s.size ≤ 1000000 ∧ p ≤ s.size then some (.t [], [lxObj s (blkF s p)]) else none
  | _, _ => none

def FsL4 : Fs := { Fs.none with objs := fun k => if k = 54 then some oRun else none }
theorem okL4 : FsOK Try.prog FsL4 := by
  refine ⟨fun _ _ h => (by cases h), fun k f h => ?_⟩
  simp only [FsL4] at h
  split at h
  · rename_i hk; subst hk; cases h; exact ⟨by kernel_rfl, meets54⟩
  · cases h

theorem meets52 : Meets Try.prog 52 (detS oBlk) := by
  refine meets_of_tri (show Try.prog.funcs[52]? = some Try.f52 by kernel_rfl) rfl (n := 45) rfl (rs := []) rfl ?_
  rintro args objs Q ⟨d, os, hd, hQ⟩
  unfold oBlk at hd
  split at hd
  · rename_i s p
    split at hd
    · rename_i hc
      obtain ⟨hs, hp⟩ := hc
      cases hd
      show Tri _ _ _ _
      refine tri_block ?_
      refine tri_loop_le (fun n A => ∃ (q fu : Nat), q ≤ s.size ∧ n = s.size - q ∧ s.size - q < fu ∧ blkN fu s q = blkF s p ∧
          A = ⟨[.c (.p 0 0 0), .top, .top, .top, .top, .top, .top, .top, .top, .top, .top, .top, .top, .top, .top, .top, .top, .top, .top, .top, .top, .top, .top, .top, .top, .top, .top, .top, .top, .top, .top, .top, .top, .top, .top, .top, .top, .top, .top, .top, .top, .top, .top, .top, .top], [some ⟨false, 2, [[.v (.string s), .v (.int .i64 q)]]⟩]⟩) (s.size - p)
        (B := ⟨[.c (.p 0 0 0), .top, .top, .top, .top, .top, .top, .top, .top, .top, .top, .top, .top, .top, .top, .top, .top, .top, .top, .top, .top, .top, .top, .top, .top, .top, .top, .top, .top, .top, .top, .top, .top, .top, .top, .top, .top, .top, .top, .top, .top, .top, .top, .top, .top], [some ⟨false, 2, [[.v (.string s), .v (.int .i64 p)]]⟩]⟩)
        ⟨by repeat (first | exact .nil | refine .same ?_ | refine .top ?_), rfl⟩ ⟨p, s.size + 1, hp, rfl, by omega, rfl, rfl⟩ ?_
      rintro n A ⟨q, fu, hq, rfl, hfu, hbl, rfl⟩
      obtain ⟨fu, rfl⟩ : ∃ m, fu = m + 1 := ⟨fu - 1, by omega⟩
      simp only [blkN] at hbl
      by_cases hqs : q < s.size
      · rw [if_pos hqs] at hbl
        have hlt : ((q : Int) < (s.size : Int)) = True := eq_true (by omega)
        have hw := wrap_succ q s.size hqs (by unfold maxStr; omega)
        refine seq_in (seq_any mixed ok0 rfl (by kernel_rfl) (by repeat (first | with_reducible exact runf_nil | refine runf_cons (by simp only [xstep, stepf, stepx, qev, St.ev, St.put, qload, cellsAt, qmk, C.cpy, TK.agg, qnil, qfieldAddr, qint, qshift, isShift, qbin, qlen, qbuiltin, liveR, C.cp, List.getElem?_cons_zero, List.getElem?_cons_succ, List.set_cons_zero, List.set_cons_succ, List.length_cons, List.length_nil, List.map_nil, List.map_cons, List.all_cons, List.all_nil, List.take_succ_cons, List.take_zero, List.drop_succ_cons, List.drop_zero, Option.bind_some, Option.map_some, Option.map_none, if_true, if_false, and_self, decide_true, Option.some.injEq, reduceCtorEq, Bool.false_eq_true, Nat.add_zero, Nat.zero_add, Bool.and_self, tk3, tsz3, tk9, tsz9, tk61, hlt]; rfl) ?_)) ?_)
        refine tri_cond rfl (fun _ => then_skip ?_) (fun h => by cases h)
        refine tri_block ?_
        obtain ⟨c, hcb⟩ : ∃ c, (((s.data.toList.getD q 0).toNat : Nat) : Int) = c := ⟨_, rfl⟩
        simp only [byt, hcb] at hbl
        refine seq_any mixed ok0 rfl (by kernel_rfl) (by repeat (first | with_reducible exact runf_nil | refine runf_cons (by simp only [xstep, stepf, stepx, qev, St.ev, St.put, D.int, qload, cellsAt, qmk, C.cpy, TK.agg, qnil, qfieldAddr, qindex, liveR, C.cp, List.getElem?_cons_zero, List.getElem?_cons_succ, List.set_cons_zero, List.set_cons_succ, List.length_cons, List.length_nil, List.map_nil, List.map_cons, List.all_cons, List.all_nil, List.take_succ_cons, List.take_zero, List.drop_succ_cons, List.drop_zero, Option.bind_some, Option.map_some, if_true, if_false, and_self, Option.some.injEq, reduceCtorEq, Bool.false_eq_true, Nat.add_zero, Nat.zero_add, Bool.and_self, tk3, tsz3, tk9, tsz9, tk61, Int.toNat_natCast, Int.natCast_nonneg, hlt, hcb]; rfl) ?_)) ?_
        refine tri_block ?_
        by_cases hb : isBlank c = true
        · rw [if_pos hb] at hbl
          by_cases h32 : c = 32
          · refine seq_run ok0 rfl (by repeat (first | with_reducible exact runf_nil | refine runf_cons (by simp only [xstep, stepf, stepx, qev, St.ev, St.put, qpick, qint, qshift, isEq, qeq, isShift, qbin, constD, constC, List.getElem?_cons_zero, List.getElem?_cons_succ, List.set_cons_zero, List.set_cons_succ, Option.bind_some, Option.map_some, Option.map_none, if_true, if_false, decide_true, cond_true, List.getElem?_toArray, Option.some.injEq, reduceCtorEq, Bool.false_eq_true, tk5, eq_true h32]; rfl) ?_)) ?_
            refine tri_cond rfl (fun _ => ?_) (fun h => by cases h)
            refine run_end ok0 rfl (by repeat (first | with_reducible exact runf_nil | refine runf_cons (by simp only [xstep, stepf, stepx, qev, St.ev, St.put, D.cells, qload, cellsAt, qmk, C.cpy, TK.agg, qnil, qfieldAddr, qint, qshift, isShift, qbin, liveR, C.st, C.cp, C.dat, storeA, putCells, constD, constC, List.getElem?_cons_zero, List.getElem?_cons_succ, List.set_cons_zero, List.set_cons_succ, List.length_cons, List.length_nil, List.cons_append, List.nil_append, List.append_nil, List.map_nil, List.map_cons, List.all_cons, List.all_nil, List.take_succ_cons, List.take_zero, List.drop_succ_cons, List.drop_zero, Option.bind_some, Option.map_some, Option.map_none, Nat.reduceAdd, if_true, if_false, and_self, Option.some.injEq, ne_eq, not_false_eq_true, reduceCtorEq, Nat.le_refl, Bool.false_eq_true, implies_true, Nat.zero_add, Bool.and_self, tk3, tsz3, tk61, hw]; rfl) ?_)) ?_
            exact ⟨s.size - (q + 1), by omega, ⟨[.c (.p 0 0 0), .top, .top, .top, .top, .top, .top, .top, .top, .top, .top, .top, .top, .top, .top, .top, .top, .top, .top, .top, .top, .top, .top, .top, .top, .top, .top, .top, .top, .top, .top, .top, .top, .top, .top, .top, .top, .top, .top, .top, .top, .top, .top, .top, .top], [some ⟨false, 2, [[.v (.string s), .v (.int .i64 (q + 1 : Nat))]]⟩]⟩, ⟨by repeat (first | exact .nil | refine .same ?_ | refine .top ?_), rfl⟩, q + 1, fu, hqs, rfl, by omega, hbl, rfl⟩
          by_cases h10 : c = 10
          · refine seq_run ok0 rfl (by repeat (first | with_reducible exact runf_nil | refine runf_cons (by simp only [xstep, stepf, stepx, qev, St.ev, St.put, qpick, qint, qshift, isEq, qeq, isShift, qbin, constD, constC, List.getElem?_cons_zero, List.getElem?_cons_succ, List.set_cons_zero, List.set_cons_succ, Option.bind_some, Option.map_some, Option.map_none, if_true, if_false, decide_true, decide_false, cond_true, cond_false, List.getElem?_toArray, Option.some.injEq, reduceCtorEq, Bool.false_eq_true, tk5, eq_false h32, eq_true h10]; rfl) ?_)) ?_
            refine tri_cond rfl (fun _ => ?_) (fun h => by cases h)
            refine run_end ok0 rfl (by repeat (first | with_reducible exact runf_nil | refine runf_cons (by simp only [xstep, stepf, stepx, qev, St.ev, St.put, D.cells, qload, cellsAt, qmk, C.cpy, TK.agg, qnil, qfieldAddr, qint, qshift, isShift, qbin, liveR, C.st, C.cp, C.dat, storeA, putCells, constD, constC, List.getElem?_cons_zero, List.getElem?_cons_succ, List.set_cons_zero, List.set_cons_succ, List.length_cons, List.length_nil, List.cons_append, List.nil_append, List.append_nil, List.map_nil, List.map_cons, List.all_cons, List.all_nil, List.take_succ_cons, List.take_zero, List.drop_succ_cons, List.drop_zero, Option.bind_some, Option.map_some, Option.map_none, Nat.reduceAdd, if_true, if_false, and_self, Option.some.injEq, ne_eq, not_false_eq_true, reduceCtorEq, Nat.le_refl, Bool.false_eq_true, implies_true, Nat.zero_add, Bool.and_self, tk3, tsz3, tk61, hw]; rfl) ?_)) ?_
            exact ⟨s.size - (q + 1), by omega, ⟨[.c (.p 0 0 0), .top, .top, .top, .top, .top, .top, .top, .top, .top, .top, .top, .top, .top, .top, .top, .top, .top, .top, .top, .top, .top, .top, .top, .top, .top, .top, .top, .top, .top, .top, .top, .top, .top, .top, .top, .top, .top, .top, .top, .top, .top, .top, .top, .top], [some ⟨false, 2, [[.v (.string s), .v (.int .i64 (q + 1 : Nat))]]⟩]⟩, ⟨by repeat (first | exact .nil | refine .same ?_ | refine .top ?_), rfl⟩, q + 1, fu, hqs, rfl, by omega, hbl, rfl⟩
          have h9 : c = 9 := by
            simp only [isBlank, h32, h10, decide_false, Bool.false_or, decide_eq_true_eq] at hb
            exact hb
          · refine seq_run ok0 rfl (by repeat (first | with_reducible exact runf_nil | refine runf_cons (by simp only [xstep, stepf, stepx, qev, St.ev, St.put, qpick, qint, qshift, isShift, qbin, constD, constC, List.getElem?_cons_zero, List.getElem?_cons_succ, List.set_cons_zero, List.set_cons_succ, Option.bind_some, Option.map_some, Option.map_none, if_true, if_false, decide_true, decide_false, cond_false, List.getElem?_toArray, Option.some.injEq, Bool.false_eq_true, eq_false h32, eq_false h10, eq_true h9]; rfl) ?_)) ?_
            refine tri_cond rfl (fun _ => ?_) (fun h => by cases h)
            refine run_end ok0 rfl (by repeat (first | with_reducible exact runf_nil | refine runf_cons (by simp only [xstep, stepf, stepx, qev, St.ev, St.put, D.cells, qload, cellsAt, qmk, C.cpy, TK.agg, qnil, qfieldAddr, qint, qshift, isShift, qbin, liveR, C.st, C.cp, C.dat, storeA, putCells, constD, constC, List.getElem?_cons_zero, List.getElem?_cons_succ, List.set_cons_zero, List.set_cons_succ, List.length_cons, List.length_nil, List.cons_append, List.nil_append, List.append_nil, List.map_nil, List.map_cons, List.all_cons, List.all_nil, List.take_succ_cons, List.take_zero, List.drop_succ_cons, List.drop_zero, Option.bind_some, Option.map_some, Option.map_none, Nat.reduceAdd, if_true, if_false, and_self, Option.some.injEq, ne_eq, not_false_eq_true, reduceCtorEq, Nat.le_refl, Bool.false_eq_true, implies_true, Nat.zero_add, Bool.and_self, tk3, tsz3, tk61, hw]; rfl) ?_)) ?_
            exact ⟨s.size - (q + 1), by omega, ⟨[.c (.p 0 0 0), .top, .top, .top, .top, .top, .top, .top, .top, .top, .top, .top, .top, .top, .top, .top, .top, .top, .top, .top, .top, .top, .top, .top, .top, .top, .top, .top, .top, .top, .top, .top, .top, .top, .top, .top, .top, .top, .top, .top, .top, .top, .top, .top, .top], [some ⟨false, 2, [[.v (.string s), .v (.int .i64 (q + 1 : Nat))]]⟩]⟩, ⟨by repeat (first | exact .nil | refine .same ?_ | refine .top ?_), rfl⟩, q + 1, fu, hqs, rfl, by omega, hbl, rfl⟩
        · rw [if_neg hb] at hbl
          have hn : c ≠ 32 ∧ c ≠ 10 ∧ c ≠ 9 := by
            simp only [isBlank, Bool.or_eq_true, decide_eq_true_eq] at hb
            refine ⟨fun h => hb (.inl (.inl h)), fun h => hb (.inl (.inr h)), fun h => hb (.inr h)⟩
          refine seq_run ok0 rfl (by repeat (first | with_reducible exact runf_nil | refine runf_cons (by simp only [xstep, stepf, stepx, qev, St.ev, St.put, qpick, qint, qshift, isShift, qbin, constD, constC, List.getElem?_cons_zero, List.getElem?_cons_succ, List.set_cons_zero, List.set_cons_succ, Option.bind_some, Option.map_some, Option.map_none, if_true, if_false, decide_false, cond_false, List.getElem?_toArray, Option.some.injEq, Bool.false_eq_true, eq_false hn.1, eq_false hn.2.1, eq_false hn.2.2]; rfl) ?_)) ?_
          refine tri_cond rfl (fun h => by cases h) (fun _ => ?_)
          by_cases h35 : c = 35
          · rw [if_pos h35] at hbl
            have hnl : notNL (byt s q) = true := by simp only [byt, hcb, h35]; rfl
            have hgt := runF_gt hqs hnl
            have hrl := runF_le notNL s q hq
            have hRun : oRun [.c (.p 0 0 0), .c (.f 71 [])] [⟨2, [[.v (.string s), .v (.int .i64 (q : Int))]]⟩] = some (.c (.v (.string (s.extract q (runF notNL s q)))), [⟨2, [[.v (.string s), .v (.int .i64 (runF notNL s q : Nat))]]⟩]) := by
              have h : oRun [.c (.p 0 0 0), .c (.f 71 [])] [⟨2, [[.v (.string s), .v (.int .i64 (Int.ofNat q))]]⟩] = some (.c (.v (.string (s.extract q (runF notNL s q)))), [⟨2, [[.v (.string s), .v (.int .i64 (runF notNL s q : Nat))]]⟩]) := by
                simp only [oRun, show predK 71 = some notNL from rfl, Option.bind_some, if_pos (And.intro hs hq)]
                rfl
              exact h
            refine seq_run ok0 rfl (by repeat (first | with_reducible exact runf_nil | refine runf_cons (by simp only [xstep, stepf, stepx, qev, St.ev, St.put, qint, qshift, isShift, qbin, constD, constC, List.getElem?_cons_zero, List.getElem?_cons_succ, List.set_cons_zero, List.set_cons_succ, Option.map_some, Option.map_none, if_true, if_false, decide_true, Option.some.injEq, Bool.false_eq_true, eq_true h35]; rfl) ?_)) ?_
            refine tri_cond rfl (fun _ => ?_) (fun h => by cases h)
            refine run_end okL4 rfl (by repeat (first | with_reducible exact runf_nil | refine runf_cons (by simp only [xstep, stepf, stepx, evsA, qev, St.ev, St.put, St.with, D.cell, C.dat, List.getElem?_cons_zero, List.getElem?_cons_succ, List.set_cons_zero, List.set_cons_succ, List.length_cons, List.length_nil, List.nil_append, List.append_nil, List.map_nil, List.all_cons, List.all_nil, Option.bind_some, Option.map_some, Bool.and_true, Bool.true_and, if_true, if_false, and_self, Option.some.injEq, Bool.false_eq_true, Nat.zero_add, beq_self_eq_true, Bool.and_self, Bool.true_or, callP, callO, Fs.none, dedup, rootsD, rootsC, List.flatMap_cons, List.flatMap_nil, List.filterMap_cons, List.filterMap_nil, argDs, argD, argC, List.contains_nil, objsAt, objOf, List.idxOf?, List.findIdx?, List.findIdx?.go, setObjs, D.ni, D.ni1, C.ni, settle, settle1, settleC, List.isEmpty_nil, FsL4, hRun]; rfl) ?_)) ?_
            exact ⟨s.size - runF notNL s q, by omega, ⟨[.c (.p 0 0 0), .top, .top, .top, .top, .top, .top, .top, .top, .top, .top, .top, .top, .top, .top, .top, .top, .top, .top, .top, .top, .top, .top, .top, .top, .top, .top, .top, .top, .top, .top, .top, .top, .top, .top, .top, .top, .top, .top, .top, .top, .top, .top, .top, .top], [some ⟨false, 2, [[.v (.string s), .v (.int .i64 (runF notNL s q : Nat))]]⟩]⟩, ⟨by repeat (first | exact .nil | refine .same ?_ | refine .top ?_), rfl⟩, _, fu, hrl.2, rfl, by omega, hbl, rfl⟩
          · rw [if_neg h35] at hbl
            rw [← hbl] at hQ
            refine seq_run ok0 rfl (by repeat (first | with_reducible exact runf_nil | refine runf_cons (by simp only [xstep, stepf, stepx, qev, St.ev, St.put, qint, qshift, isShift, qbin, constD, constC, List.getElem?_cons_zero, List.getElem?_cons_succ, List.set_cons_zero, List.set_cons_succ, Option.map_some, Option.map_none, if_true, if_false, decide_false, Option.some.injEq, Bool.false_eq_true, eq_false h35]; rfl) ?_)) ?_
            refine tri_cond rfl (fun h => by cases h) (fun _ => ?_)
            refine tri_ret (ends_ret (by simp only [outRes, resDs, outDs, Option.map_some, Option.some.injEq]; rfl) rfl .nil (by simp) ?_)
            exact hQ
      · rw [if_neg hqs] at hbl
        rw [← hbl] at hQ
        refine seq_in (seq_any mixed ok0 rfl (by kernel_rfl) (by repeat (first | with_reducible exact runf_nil | refine runf_cons (by simp only [xstep, stepf, stepx, qev, St.ev, St.put, qload, cellsAt, qmk, C.cpy, TK.agg, qnil, qfieldAddr, qint, qshift, isShift, qbin, qlen, qbuiltin, liveR, C.cp, List.getElem?_cons_zero, List.getElem?_cons_succ, List.set_cons_zero, List.set_cons_succ, List.length_cons, List.length_nil, List.map_nil, List.map_cons, List.all_cons, List.all_nil, List.take_succ_cons, List.take_zero, List.drop_succ_cons, List.drop_zero, Option.bind_some, Option.map_some, Option.map_none, if_true, if_false, and_self, decide_false, Option.some.injEq, reduceCtorEq, Bool.false_eq_true, Nat.add_zero, Nat.zero_add, Bool.and_self, tk3, tsz3, tk9, tsz9, tk61, show ((q : Int) < (s.size : Int)) = False from eq_false (by omega)]; rfl) ?_)) ?_)
        refine tri_cond rfl (fun h => by cases h) (fun _ => tri_exit ?_)
        refine ends_norm rfl rfl .nil (by simp) ?_
        exact hQ
    · cases hd
  · cases hd

end Go.Dl

namespace Go.Dl
open Go.RowKit
open Go.Proofs
set_option linter.unusedSimpArgs false
set_option linter.unusedVariables false

abbrev Tok := Int × ByteArray × Int
def tokC (t : Tok) : List C := [.v (.int .i64 t.1), .v (.string t.2.1), .v (.int .i64 t.2.2)]
theorem tok_nb (l : List Tok) : rowsNB (l.map tokC) = true := nb_map (fun _ => rfl)
def noText : ByteArray := ⟨#[]⟩
def marks : ByteArray := ⟨#[61, 44, 40, 41, 91, 93, 59]⟩
def dash : ByteArray := ⟨#[45]⟩

def FsL5 : Fs := { pure := fun k => if k = 53 then some (pU8 isLetter) else if k = 56 then some (pU8 isDigit) else if k = 58 then some pIdxB else none, objs := fun k => if k = 52 then some oBlk else if k = 54 then some oRun else none }
theorem okL5 : FsOK Try.prog FsL5 := by
  refine ⟨fun k f h => ?_, fun k f h => ?_⟩
  · simp only [FsL5] at h
    split at h
    · rename_i hk; subst hk; cases h; exact ⟨by kernel_rfl, meets53⟩
    split at h
    · rename_i hk; subst hk; cases h; exact ⟨by kernel_rfl, meets56⟩
    split at h
    · rename_i hk; subst hk; cases h; exact ⟨by kernel_rfl, meets58⟩
    · cases h
  · simp only [FsL5] at h
    split at h
    · rename_i hk; subst hk; cases h; exact ⟨by kernel_rfl, meets52⟩
    split at h
    · rename_i hk; subst hk; cases h; exact ⟨by kernel_rfl, meets54⟩
    · cases h

theorem run_eq {k : Nat} {f : Int → Bool} {s : ByteArray} {p : Nat} (hk : predK k = some f) (hs : s.size ≤ 1000000) (hp : p ≤ s.size) :
    oRun [.c (.p 0 0 0), .c (.f k [])] [⟨2, [[.v (.string s), .v (.int .i64 (p : Int))]]⟩] = some (.c (.v (.string (s.extract p (runF f s p)))), [⟨2, [[.v (.string s), .v (.int .i64 (runF f s p : Nat))]]⟩]) := by
  have h : oRun [.c (.p 0 0 0), .c (.f k [])] [⟨2, [[.v (.string s), .v (.int .i64 (Int.ofNat p))]]⟩] = some (.c (.v (.string (s.extract p (runF f s p)))), [⟨2, [[.v (.string s), .v (.int .i64 (runF f s p : Nat))]]⟩]) := by
    simp only [oRun, hk, Option.bind_some, if_pos (And.intro hs hp)]
    rfl
  exact h
theorem blk_eq {s : ByteArray} {p : Nat} (hs : s.size ≤ 1000000) (hp : p ≤ s.size) :
    oBlk [.c (.p 0 0 0)] [⟨2, [[.v (.string s), .v (.int .i64 (p : Int))]]⟩] = some (.t [], [⟨2, [[.v (.string s), .v (.int .i64 (blkF s p : Nat))]]⟩]) := by
  have h : oBlk [.c (.p 0 0 0)] [⟨2, [[.v (.string s), .v (.int .i64 (Int.ofNat p))]]⟩] = some (.t [], [⟨2, [[.v (.string s), .v (.int .i64 (blkF s p : Nat))]]⟩]) := by
    simp only [oBlk, if_pos (And.intro hs hp)]
    rfl
  exact h

end Go.Dl

namespace Go.Dl
open Go.RowKit
open Go.Proofs
set_option linter.unusedSimpArgs false
set_option linter.unusedVariables false

/-- A tuple's parts that nobody will change. -/
def D.frzT : D → D
  | .t ds => .t (ds.map D.frz)
  | d => d

theorem frz1 {w : World} {S : Nat → Prop} {d : D} {v : Value} {f : List Nat} (h : RepO1 w S d v f) : ∃ f0 f1, f = f0 ++ f1 ∧ RepO1 w (fun x => S x ∨ x ∈ f0) d.frz v f1 := by
  unfold D.frz
  split
  · rename_i es rows
    split
    · rename_i hc
      have h' : Rep w S [] (.k false (.s true es rows) v) f := h
      cases h' with
      | nilO => exact ⟨[], [], rfl, .nilI⟩
      | own hz hb hc' hl hr =>
        rename_i b off cap fp
        have hfp := cells_cp hr (rows_cp hc)
        subst hfp
        exact ⟨[b], [], rfl, .imm (.inr (by simp)) hc' hl (hr.mono (fun _ h => .inl h) (.refl _ _) (fun _ _ => rfl))⟩
    · exact ⟨[], f, rfl, h.mono (.inl fun _ h => .inl h)⟩
  · exact ⟨[], f, rfl, h.mono (.inl fun _ h => .inl h)⟩

theorem frz_all {w : World} {S : Nat → Prop} (ds : List D) (g : Nat → Value) : ∀ (n : Nat) (ds : List D) (fps : List (List Nat)), fps.length = ds.length → (∀ (i : Nat) (d' : D) (f : List Nat), ds[i]? = some d' → fps[i]? = some f → RepO1 w S d' (g (n + i)) f) →
    ∃ g0 g1 : List (List Nat), g0.length = ds.length ∧ g1.length = ds.length ∧ (∀ (i : Nat) (a b : List Nat), g0[i]? = some a → g1[i]? = some b → fps[i]? = some (a ++ b)) ∧
      ∀ (i : Nat) (d' : D) (a b : List Nat), ds[i]? = some d' → g0[i]? = some a → g1[i]? = some b → RepO1 w (fun x => S x ∨ x ∈ a) d'.frz (g (n + i)) b
  | n, [], fps, hl, h => ⟨[], [], rfl, rfl, by simp, by simp⟩
  | n, d :: ds', fps, hl, h => by
    cases fps with
    | nil => simp at hl
    | cons f fps =>
      obtain ⟨f0, f1, e1, e2⟩ := frz1 (h 0 d f rfl rfl)
      obtain ⟨g0, g1, k1, k2, k3, k4⟩ := frz_all ds g (n + 1) ds' fps (by simpa using hl) (fun i d' f hd hf => by have := h (i + 1) d' f (by simpa using hd) (by simpa using hf); rwa [show n + (i + 1) = n + 1 + i by omega] at this)
      refine ⟨f0 :: g0, f1 :: g1, by simp [k1], by simp [k2], ?_, ?_⟩
      · intro i a b ha hb
        cases i with
        | zero => simp at ha hb; subst ha; subst hb; simp [e1]
        | succ i => simpa using k3 i a b (by simpa using ha) (by simpa using hb)
      · intro i d' a b hd ha hb
        cases i with
        | zero => simp at ha hb hd; subst ha; subst hb; subst hd; exact e2
        | succ i =>
          have := k4 i d' a b (by simpa using hd) (by simpa using ha) (by simpa using hb)
          rwa [show n + 1 + i = n + (i + 1) by omega] at this

theorem flat_get2 {L : List (List Nat)} {i : Nat} {a : List Nat} (h : L[i]? = some a) {x : Nat} (hx : x ∈ a) : x ∈ L.flatten := List.mem_flatten.2 ⟨a, List.mem_of_getElem? h, hx⟩

theorem left_frzT {w w' : World} {S : Nat → Prop} {pls : List Pl} {fps : List (List Nat)} {d : D} {v : Value} {objs' : List Obj} (h : Left w w' S pls fps d v objs') : Left w w' S pls fps d.frzT v objs' := by
  unfold D.frzT
  split
  · rename_i ds
    refine ⟨h.size, h.keep, h.os, h.tape, h.output, ?_⟩
    obtain ⟨S', pls', fps', fpd, l1, l2, l3, l4, l5, l6, l7⟩ := h.rest
    obtain ⟨arr, fs, q0, q1, q2, q3, q4⟩ := l3
    obtain ⟨g0, g1, k1, k2, k3, k4⟩ := frz_all ds (fun i => arr.getD i undef) 0 ds fs q2 (fun i d' f hd hf => by have := q4 i d' f hd hf; rwa [Nat.zero_add])
    have in0 : ∀ x, x ∈ g0.flatten → x ∈ fpd := by
      intro x hx
      obtain ⟨a, ha, hxa⟩ := List.mem_flatten.1 hx
      obtain ⟨i, hi⟩ := List.getElem?_of_mem ha
      have hi' := lt_len hi
      have := k3 i a (g1[i]'(by omega)) hi (List.getElem?_eq_getElem _)
      rw [q3]; exact flat_get2 this (List.mem_append_left _ hxa)
    have in1 : ∀ x, x ∈ g1.flatten → x ∈ fpd ∧ x ∉ g0.flatten := by
      intro x hx
      obtain ⟨b, hb, hxb⟩ := List.mem_flatten.1 hx
      obtain ⟨i, hi⟩ := List.getElem?_of_mem hb
      have hi' := lt_len hi
      have hf := k3 i (g0[i]'(by omega)) b (List.getElem?_eq_getElem _) hi
      refine ⟨by rw [q3]; exact flat_get2 hf (List.mem_append_right _ hxb), fun h0 => ?_⟩
      obtain ⟨a, ha, hxa⟩ := List.mem_flatten.1 h0
      obtain ⟨j, hj⟩ := List.getElem?_of_mem ha
      have hj' := lt_len hj
      have hfj := k3 j a (g1[j]'(by omega)) hj (List.getElem?_eq_getElem _)
      have hn : fs.flatten.Nodup := by rw [← q3]; exact (List.nodup_append.1 l5).1
      have := apart_flat hn hf hfj (List.mem_append_right _ hxb) (List.mem_append_left _ hxa)
      subst this
      have hnd := nodup_at hn hf
      rw [List.nodup_append] at hnd
      have hae : g0[i]'(by omega) = a := by rw [List.getElem?_eq_getElem (by omega)] at hj; cases hj; rfl
      rw [hae] at hnd
      exact hnd.2.2 x hxa x hxb rfl
    have nd1 : g1.flatten.Nodup := by
      refine nodup_flat ?_ ?_
      · intro b hb
        obtain ⟨i, hi⟩ := List.getElem?_of_mem hb
        have hi' := lt_len hi
        have hf := k3 i (g0[i]'(by omega)) b (List.getElem?_eq_getElem _) hi
        have hn : fs.flatten.Nodup := by rw [← q3]; exact (List.nodup_append.1 l5).1
        exact (List.nodup_append.1 (nodup_at hn hf)).2.1
      · intro i j f f' x hi hj hx hx'
        have hi' := lt_len hi
        have hj' := lt_len hj
        have hf := k3 i (g0[i]'(by omega)) f (List.getElem?_eq_getElem _) hi
        have hf' := k3 j (g0[j]'(by omega)) f' (List.getElem?_eq_getElem _) hj
        have hn : fs.flatten.Nodup := by rw [← q3]; exact (List.nodup_append.1 l5).1
        exact apart_flat hn hf hf' (List.mem_append_right _ hx) (List.mem_append_right _ hx')
    refine ⟨fun x => S' x ∨ x ∈ g0.flatten, pls', fps', g1.flatten, fun x hx => .inl (l1 x hx), fun x hx => ?_, ?_, ?_, ?_, ?_, l7⟩
    · rcases hx with hx | hx
      · exact l2 x hx
      · have := l6 x (List.mem_append_left _ (in0 x hx))
        exact ⟨this.2.1, .inr this.2.2⟩
    · refine ⟨arr, g1, q0, by rw [List.length_map]; exact q1, by rw [List.length_map]; exact k2, rfl, fun i d' f hd hf => ?_⟩
      rw [List.getElem?_map, Option.map_eq_some_iff] at hd
      obtain ⟨d0, hd0, rfl⟩ := hd
      have hi' := lt_len hf
      have := k4 i d0 (g0[i]'(by omega)) f hd0 (List.getElem?_eq_getElem _) hf
      rw [Nat.zero_add] at this
      refine this.mono (.inl fun x hx => hx.imp id fun h => ?_)
      exact flat_get2 (List.getElem?_eq_getElem (by omega)) h
    · obtain ⟨m1, m2, m3⟩ := l4
      refine ⟨m1, m2, fun i ob hob => ?_⟩
      obtain ⟨p, f, r1, r2, r3⟩ := m3 i ob hob
      exact ⟨p, f, r1, r2, r3.mono (fun _ h => .inl h) (.refl _ _) (fun _ _ => rfl)⟩
    · have l5' := List.nodup_append.1 l5
      exact List.nodup_append.2 ⟨nd1, l5'.2.1, fun x hx y hy hxy => l5'.2.2 x (in1 x hx).1 y hy hxy⟩
    · intro x hx
      rcases List.mem_append.1 hx with h | h
      · obtain ⟨r1, r2, r3⟩ := l6 x (List.mem_append_left _ (in1 x h).1)
        refine ⟨?_, r2, r3⟩
        rintro (h' | h')
        · exact r1 h'
        · exact (in1 x h).2 h'
      · obtain ⟨r1, r2, r3⟩ := l6 x (List.mem_append_right _ h)
        refine ⟨?_, r2, r3⟩
        rintro (h' | h')
        · exact r1 h'
        · exact (List.nodup_append.1 l5).2.2 x (in0 x h') x h rfl
  · exact h

theorem meets_frzT {P : Program} {k : FuncId} {spec : Spec} (h : Meets P k spec) : Meets P k (fun args objs Q => spec args objs (fun d os => Q d.frzT os)) := by
  intro args objs Q hs w S vs pls fps h1 h2 h3 h4 h5 h6
  refine (h args objs _ hs w S vs pls fps h1 h2 h3 h4 h5 h6).mono ?_
  rintro e w' ⟨v, d, os, e1, hq, hl, left⟩
  exact ⟨v, d.frzT, os, e1, hq, hl, left_frzT left⟩

theorem meets_frzTP {P : Program} {k : FuncId} {f : List D → Option D} (h : Meets P k (pureS f)) : Meets P k (pureS fun a => (f a).map D.frzT) := by
  intro args objs Q hs
  refine meets_frzT h args objs Q ?_
  obtain ⟨h1, d, h2, h3⟩ := hs
  cases hf : f args with
  | none => simp only [hf] at h2; cases h2
  | some d0 => simp only [hf] at h2; cases h2; exact ⟨h1, d0, hf, h3⟩

end Go.Dl

namespace Go.Dl
open Go.RowKit

section
variable {P : Program} {Φ : Fs} {A : St} {Q : Exit → St → Prop}

theorem seq_anyE (hm : P.follows .mixedOrders = true) (hΦ : FsOK P Φ) {id : Nat} {l : List Oper} {y : Code} (hok : opsOK l.toArray = true) (hsw : anyOK P Φ l.toArray = true)
    (h : ∃ A', runf P Φ l.toArray l A = some A' ∧ Tri P y A' Q) : Tri P (.seq (.region id l.toArray true) y) A Q := by
  obtain ⟨A', h1, h2⟩ := h
  exact seq_any hm hΦ hok hsw h1 h2

theorem any_endE (hm : P.follows .mixedOrders = true) (hΦ : FsOK P Φ) {id : Nat} {l : List Oper} (hok : opsOK l.toArray = true) (hsw : anyOK P Φ l.toArray = true)
    (h : ∃ A', runf P Φ l.toArray l A = some A' ∧ Q .normal A') : Tri P (.region id l.toArray true) A Q := by
  obtain ⟨A', h1, h2⟩ := h
  exact any_end hm hΦ hok hsw h1 h2

end
end Go.Dl

namespace Go.Dl
open Go.RowKit

section
variable {P : Program}

/-- What is said of a family of inputs: those that 'enc' names, where 'pre' holds; 'out' comes. -/
noncomputable def famO {ι : Type} (pre : ι → Prop) (enc : ι → List D × List Obj) (out : ι → D × List Obj) : List D → List Obj → Option (D × List Obj) := by
  classical exact fun a o => if h : ∃ x, pre x ∧ enc x = (a, o) then some (out h.choose) else none

theorem famO_inv {ι : Type} {pre : ι → Prop} {enc : ι → List D × List Obj} {out : ι → D × List Obj} {a : List D} {o : List Obj} {r : D × List Obj} (h : famO pre enc out a o = some r) :
    ∃ x, pre x ∧ enc x = (a, o) ∧ r = out x := by
  unfold famO at h
  split at h
  · rename_i hh
    cases h
    exact ⟨hh.choose, hh.choose_spec.1, hh.choose_spec.2, rfl⟩
  · cases h

theorem famO_at {ι : Type} {pre : ι → Prop} {enc : ι → List D × List Obj} {out : ι → D × List Obj} (inj : ∀ x y, enc x = enc y → out x = out y) (x : ι) (h : pre x) {a : List D} {o : List Obj}
    (he : enc x = (a, o)) : famO pre enc out a o = some (out x) := by
  unfold famO
  have hx : ∃ x, pre x ∧ enc x = (a, o) := ⟨x, h, he⟩
  rw [dif_pos hx, inj _ x (hx.choose_spec.2.trans he.symm)]

theorem meets_famO {ι : Type} {pre : ι → Prop} {enc : ι → List D × List Obj} {out : ι → D × List Obj} {k : FuncId} {fn : Func} {c : Code} {n : Nat} {rs : List ResultVar} (hf : P.funcs[k]? = some fn) (hb : fn.body = some c) (hnt : fn.ntmps = n) (hrs : fn.results.toList = rs)
    (h : ∀ x, pre x → ∀ Q : D → List Obj → Prop, Q (out x).1 (out x).2 →
      Tri P c ⟨(enc x).1 ++ List.replicate (n - (enc x).1.length) .top, (enc x).2.map fun o => some ⟨false, o.es, o.rows⟩⟩ (Ends P rs (enc x).2.length Q)) : Meets P k (detS (famO pre enc out)) := by
  refine meets_of_tri hf hb hnt hrs ?_
  rintro args objs Q ⟨d, os, hd, hQ⟩
  obtain ⟨x, h1, h2, h3⟩ := famO_inv hd
  have := h x h1 Q (by rw [← h3]; exact hQ)
  rw [h2] at this
  exact this

noncomputable def famP {ι : Type} (pre : ι → Prop) (enc : ι → List D) (out : ι → D) : List D → Option D := by
  classical exact fun a => if h : ∃ x, pre x ∧ enc x = a then some (out h.choose) else none

theorem famP_inv {ι : Type} {pre : ι → Prop} {enc : ι → List D} {out : ι → D} {a : List D} {r : D} (h : famP pre enc out a = some r) : ∃ x, pre x ∧ enc x = a ∧ r = out x := by
  unfold famP at h
  split at h
  · rename_i hh
    cases h
    exact ⟨hh.choose, hh.choose_spec.1, hh.choose_spec.2, rfl⟩
  · cases h

theorem famP_at {ι : Type} {pre : ι → Prop} {enc : ι → List D} {out : ι → D} (inj : ∀ x y, enc x = enc y → out x = out y) (x : ι) (h : pre x) {a : List D} (he : enc x = a) : famP pre enc out a = some (out x) := by
  unfold famP
  have hx : ∃ x, pre x ∧ enc x = a := ⟨x, h, he⟩
  rw [dif_pos hx, inj _ x (hx.choose_spec.2.trans he.symm)]

theorem meets_famP {ι : Type} {pre : ι → Prop} {enc : ι → List D} {out : ι → D} {k : FuncId} {fn : Func} {c : Code} {n : Nat} {rs : List ResultVar} (hf : P.funcs[k]? = some fn) (hb : fn.body = some c) (hnt : fn.ntmps = n) (hrs : fn.results.toList = rs)
    (h : ∀ x, pre x → ∀ Q : D → List Obj → Prop, Q (out x) [] → Tri P c ⟨enc x ++ List.replicate (n - (enc x).length) .top, []⟩ (Ends P rs 0 Q)) : Meets P k (pureS (famP pre enc out)) := by
  refine meets_of_tri hf hb hnt hrs ?_
  rintro args objs Q ⟨rfl, d, hd, hQ⟩
  obtain ⟨x, h1, h2, h3⟩ := famP_inv hd
  have := h x h1 Q (by rw [← h3]; exact hQ)
  rw [h2] at this
  exact this

end
end Go.Dl

namespace Go.Dl
open Go.RowKit

def byteVals (l : List UInt8) : List Value := l.map fun b => .int .u8 b.toNat

/-- What a call on a builder may change. -/
structure UFrame (w w' : World) (fp fp' : List Nat) : Prop where
  os : w'.os = w.os
  tape : w'.tape = w.tape
  out : OutLe w w'
  size : w.heap.size ≤ w'.heap.size
  keep : ∀ k, k < w.heap.size → k ∉ fp → w'.heap[k]? = w.heap[k]?
  new : ∀ k ∈ fp', (k ∈ fp ∨ w.heap.size ≤ k) ∧ k < w'.heap.size

theorem byteVals_len (l : List UInt8) : (byteVals l).length = l.length := by simp [byteVals]
theorem byteVals_app (a b : List UInt8) : byteVals (a ++ b) = byteVals a ++ byteVals b := by simp [byteVals]
theorem byteVals_one {l : List UInt8} : ∀ v ∈ byteVals l, v.oneCell' = true := by
  intro v hv
  obtain ⟨b, _, rfl⟩ := List.mem_map.1 hv
  rfl

section
variable {P : Program} {w : World} {S : Nat → Prop} {E : Env}

theorem run_appU {t xt ty e : TypeId} {i : TypeInfo} (ht : P.underlying t = some (.slice e)) (hi : P.info? e = some i) (hz : i.zero = some (.int .u8 0)) (hs : i.size = 1) (hb : i.bytes = 1) {xd : TypeDesc}
    (hxt : P.underlying xt = some xd) (hxd : xd = .string ∨ ∃ e', xd = .slice e') {bs new : List UInt8} {v vx : Value} {fp : List Nat} (hv : Rep w S E (.k true (.u e bs) v) fp)
    (hlen : ∀ n, (Builtin.lenOf vx).run P { w with drawn := n } = .ok new.length { w with drawn := n }) (hnew : ∀ n, (Builtin.firstCells 1 new.length vx).run P { w with drawn := n } = .ok (byteVals new).toArray { w with drawn := n })
    (hbd : bs.length + new.length ≤ 140737488355328) :
    ∃ v' w' fp', (Builtin.append_ #[t, xt] ty #[v, vx]).run P w = .ok v' w' ∧ Rep w' S E (.k true (.u e (bs ++ new)) v') fp' ∧ UFrame w w' fp fp' := by
  have hsz : ∀ w, (sizeOf e).run P w = .ok 1 w := fun w => by rw [run_sizeOf w hi, show P.cellsOf e = 1 by simp [Program.cellsOf, hi, hs]]
  have hlen0 : (Builtin.lenOf vx).run P w = .ok new.length w := hlen w.drawn
  have hnew0 : (Builtin.firstCells 1 new.length vx).run P w = .ok (byteVals new).toArray w := hnew w.drawn
  obtain ⟨base, cap, rfl, hcap, hcells⟩ : ∃ base cap, v = .slice base bs.length cap ∧ bs.length ≤ cap ∧
      ((base = none ∧ cap = 0 ∧ fp = []) ∨ ∃ g cur, base = some ⟨g, 0, none⟩ ∧ fp = [g] ∧ 0 < cap ∧ cap ≤ 9223372036854775807 ∧ w.heap[g]? = some (.cells cur e (0, 0)) ∧ cur.size = cap ∧ cur.toList.take bs.length = byteVals bs) := by
    cases hv with
    | un => exact ⟨none, 0, rfl, Nat.le_refl _, .inl ⟨rfl, rfl, rfl⟩⟩
    | uo h0 hg hc hm hz ht => exact ⟨_, _, rfl, hc, .inr ⟨_, _, rfl, rfl, h0, hm, hg, hz, ht⟩⟩
  by_cases hfit : bs.length + new.length ≤ cap
  · have hrun : ∀ w', (∀ ad, base = some ad → (storeCells (ad.add bs.length) (byteVals new)).run P w = .ok () w') → (base = none → w' = w) →
        (Builtin.append_ #[t, xt] ty #[.slice base bs.length cap, vx]).run P w = .ok (.slice base (bs.length + new.length) cap) w' := by
      intro w' hst hn
      rcases hxd with rfl | ⟨e', rfl⟩ <;>
      · simp only [Builtin.append_, List.getElem?_toArray, List.getElem?_cons_zero, List.getElem?_cons_succ, Sem.run_bind, run_underlying ht, Result.andThen_ok, hsz, run_underlying hxt, Sem.run_pure,
          Bool.false_eq_true, if_false, hlen0, Sem.run_ite, if_pos hfit, Bool.not_false, if_true, hnew0, Nat.mul_one]
        cases base with
        | none => simp [hn rfl]
        | some ad => simp [hst ad rfl]
    rcases hcells with ⟨rfl, rfl, rfl⟩ | ⟨g, cur, rfl, rfl, hc0, hm, hg, hcs, hct⟩
    · have h1 : bs = [] := List.eq_nil_of_length_eq_zero (by omega)
      have h2 : new = [] := List.eq_nil_of_length_eq_zero (by omega)
      subst h1 h2
      exact ⟨_, w, [], hrun w (fun _ h => by cases h) (fun _ => rfl), .un, rfl, rfl, .rf _, Nat.le_refl _, fun _ _ _ => rfl, fun _ h => by cases h⟩
    · have hst0 := run_storeCells_at (P := P) g bs.length e (byteVals new) 0 cur w hg (by rw [byteVals_len]; omega) byteVals_one
      have hst : (storeCells ⟨g, bs.length, none⟩ (byteVals new)).run P w = .ok () (w.setRow g (cur.toList.take bs.length ++ byteVals new ++ cur.toList.drop (bs.length + (byteVals new).length)).toArray) := hst0
      generalize harr : (cur.toList.take bs.length ++ byteVals new ++ cur.toList.drop (bs.length + (byteVals new).length)).toArray = arr at hst
      have hasz : arr.size = cap := by
        rw [← harr]; simp [byteVals_len]; omega
      refine ⟨_, w.setRow g arr, [g], hrun _ (fun ad had => ?_) (fun h => by cases h), ?_, ?_⟩
      · cases had
        rw [addr_add, Nat.zero_add]; exact hst
      · rw [← List.length_append]
        refine .uo hc0 (setRow_heap w g cur arr e _ hg) (by simp; omega) hm hasz ?_
        rw [← harr, hct]
        show List.take (bs ++ new).length (byteVals bs ++ byteVals new ++ _) = byteVals (bs ++ new)
        rw [byteVals_app, List.take_left' (by simp [byteVals_len])]
      · refine ⟨rfl, rfl, ⟨rfl, Nat.le_refl _⟩, by simp [World.setRow], fun k hk hkg => setRow_other w g k arr (fun h => hkg (by simp [h])), fun k hk => ?_⟩
        simp at hk; subst hk
        have : k < w.heap.size := by
          rcases Nat.lt_or_ge k w.heap.size with h | h
          · exact h
          · rw [Array.getElem?_eq_none h] at hg; cases hg
        exact ⟨.inl (by simp), by simpa [World.setRow] using this⟩
  · -- it grows
    have hlt : cap < bs.length + new.length := by omega
    have hgrow : ¬ (Builtin.nextslicecap (bs.length + new.length) cap * i.bytes > 2 ^ 48) := by
      have := growslice_fits (bytes := i.bytes) hlt (by rw [hb]; omega)
      omega
    have hbz : ¬ (((bs.length + new.length : Nat) : Int) > IntKind.i64.max ∧ (False ∨ i.bytes = 0)) := by
      intro hh
      rcases hh.2 with hh | hh
      · exact hh
      · omega
    have holds : (Builtin.firstCells 1 bs.length (.slice base bs.length cap)).run P { w with drawn := w.drawn + 1 } = .ok (byteVals bs).toArray { w with drawn := w.drawn + 1 } := by
      rcases hcells with ⟨rfl, rfl, rfl⟩ | ⟨g, cur, rfl, rfl, hc0, hm, hg, hcs, hct⟩
      · have h1 : bs = [] := List.eq_nil_of_length_eq_zero (by omega)
        subst h1
        simp [Builtin.firstCells, byteVals]
      · refine run_firstCells_some _ 1 bs.length ⟨g, 0, none⟩ bs.length cap (byteVals bs) (by simp [byteVals_len]) (fun j v hj => ?_)
        rw [addr_add, Nat.zero_add]
        have hjl := lt_len hj
        rw [byteVals_len] at hjl
        rw [← hct, List.getElem?_take, if_pos hjl] at hj
        simpa [World.cell?, hg] using hj
    have hneed := Nat.le_add_right (bs.length + new.length) (w.tape w.drawn (.appendCap (bs.length + new.length) cap e) % (2 ^ 63 - (bs.length + new.length)))
    have hmax : (bs.length + new.length) + w.tape w.drawn (.appendCap (bs.length + new.length) cap e) % (2 ^ 63 - (bs.length + new.length)) ≤ 9223372036854775807 := by
      have := Nat.mod_lt (w.tape w.drawn (.appendCap (bs.length + new.length) cap e)) (show 2 ^ 63 - (bs.length + new.length) > 0 by omega)
      omega
    generalize hcapdef : (bs.length + new.length) + w.tape w.drawn (.appendCap (bs.length + new.length) cap e) % (2 ^ 63 - (bs.length + new.length)) = newCap at hneed hmax
    have hroom : ∀ n (w0 : World), (askRoom n).run P w0 = .ok () w0 := by
      intro n w0
      unfold askRoom; split
      · simp [mark, Sem.run]
      · rfl
    have hchoose : (choose (.appendCap (bs.length + new.length) cap e)).run P w = .ok newCap { w with drawn := w.drawn + 1 } := by
      simp [choose, Sem.run, Question.forced, Question.cut, hcapdef]
    have hz1 : ∀ w0 : World, (zeroValue e).run P w0 = .ok (.int .u8 0) w0 := fun w0 => by simp [zeroValue, run_typeInfo w0 hi, hz, Sem.run_bind]
    have t3 := hnew (w.drawn + 1)
    have hzc : (Builtin.zeroCells (Value.int .u8 0).cells (newCap - (bs.length + new.length))).size = newCap - (bs.length + new.length) := by
      rw [zeroCells_len]; simp [Value.cells]
    refine ⟨.slice (some ⟨w.heap.size, 0, none⟩) (bs.length + new.length) newCap, ({ w with drawn := w.drawn + 1 } : World).alloc (.cells ((byteVals bs).toArray ++ (byteVals new).toArray ++ Builtin.zeroCells (Value.int .u8 0).cells (newCap - (bs.length + new.length))) e), [w.heap.size], ?_, ?_, ?_⟩
    · rcases hxd with rfl | ⟨e', rfl⟩ <;>
      · simp only [Builtin.append_, List.getElem?_toArray, List.getElem?_cons_zero, List.getElem?_cons_succ, Sem.run_bind, run_underlying ht, Result.andThen_ok, hsz, run_underlying hxt, Sem.run_pure,
          Bool.false_eq_true, if_false, hlen0, Sem.run_ite, if_neg hfit, run_typeInfo w hi]
        rw [if_neg hbz]
        simp only [Result.andThen_ok, if_neg hgrow, hchoose, run_typeInfo _ hi, hroom, holds, Bool.not_false, if_true, t3, hz1, run_newRow]
    · have hl : (bs ++ new).length = bs.length + new.length := List.length_append
      have key := Rep.uo (S := S) (E := E) (dat := true) (T := e) (bs := bs ++ new) (cap := newCap) (w := ({ w with drawn := w.drawn + 1 } : World).alloc (.cells ((byteVals bs).toArray ++ (byteVals new).toArray ++ Builtin.zeroCells (Value.int .u8 0).cells (newCap - (bs.length + new.length))) e)) (g := w.heap.size) (cur := ((byteVals bs).toArray ++ (byteVals new).toArray ++ Builtin.zeroCells (Value.int .u8 0).cells (newCap - (bs.length + new.length)))) (by omega) (heap_alloc_new _ _) (by rw [hl]; exact hneed) hmax (by rw [Array.size_append, hzc]; simp [byteVals_len]; omega)
        (by
          show List.take (bs ++ new).length _ = byteVals (bs ++ new)
          rw [byteVals_app, Array.toList_append, Array.toList_append, List.take_left' (by simp [byteVals_len])])
      rw [hl] at key
      exact key
    · refine ⟨rfl, rfl, ⟨rfl, Nat.le_succ _⟩, ?_, fun k hk hkg => ?_, fun k hk => ?_⟩
      · show w.heap.size ≤ (w.heap.push _).size
        simp
      · show (w.heap.push _)[k]? = _
        rw [Array.getElem?_push, if_neg (by omega)]
      · simp at hk; subst hk
        refine ⟨.inr (Nat.le_refl _), ?_⟩
        show _ < (w.heap.push _).size
        simp

/-- A builder that is made. -/
theorem step_bld {o : Oper} {A : St} {t e : TypeId} (ho : o.op = .alloc t) (hz : ∀ w, (zeroValue t).run P w = .ok (.agg #[.pointer none, .slice none 0 0]) w) :
    Step P o A (fun A' => A' = A.with o.dst (.c (.p A.H.length 0 0), A.H ++ [some ⟨false, 2, [[.b t, .u e []]]⟩])) := by
  intro g a w ⟨S, E, F, hr⟩ next Q hn
  have hv : Rep w S E (.vs [.v (.pointer none), .s true 0 []] [.pointer none, .slice none 0 0]) [] := .vcons (f1 := []) (.v trivial) (.vcons (f1 := []) (.nilO) .vnil)
  have hnew := hr.newRoot (R := ⟨false, 2, [[.v (.pointer none), .s true 0 []]]⟩) (vs := [.pointer none, .slice none 0 0]) (extra := []) (el := t) (m := 1) (by simpa using hv) (by simp) (by simp) (by simp) (by simp)
  rw [List.append_nil] at hnew
  have hb : (w.alloc (.cells #[.pointer none, .slice none 0 0] t)).heap[w.heap.size]? = some (.cells #[.pointer none, .slice none 0 0] t (0, 0)) := heap_alloc_new _ _
  have hlE := hr.lE
  have hlF := hr.lF
  have hroot : RootAt (w.alloc (.cells #[.pointer none, .slice none 0 0] t)) S (E ++ [some ⟨some (w.heap.size, 0), 2, 1, 1⟩]) ⟨false, 2, [[.b t, .u e []]]⟩ ⟨some (w.heap.size, 0), 2, 1, 1⟩ [w.heap.size] := by
    refine ⟨rfl, rfl, Nat.le_refl _, by simp, [], rfl, ⟨_, _, _, hb, Nat.le_refl _, fun o ho => (by simp only [World.frozen?, hb]; simp)⟩, ?_⟩
    have h0 : Rep (w.alloc (.cells #[.pointer none, .slice none 0 0] t)) S (E ++ [some ⟨some (w.heap.size, 0), 2, 1, 1⟩]) (.l false [] w.heap.size 2) [] := .lnil
    have h1 : Rep (w.alloc (.cells #[.pointer none, .slice none 0 0] t)) S (E ++ [some ⟨some (w.heap.size, 0), 2, 1, 1⟩]) (.l false [.u e []] w.heap.size 1) ([] ++ []) := .lcons (v := .slice none 0 0) (by simp only [World.cell?, hb]; rfl) .un h0
    exact .lb hb rfl rfl (.inl rfl) h1
  have hfin := hnew.refoot (r := A.H.length) (R := ⟨false, 2, [[.v (.pointer none), .s true 0 []]]⟩) (R' := ⟨false, 2, [[.b t, .u e []]]⟩) (p := ⟨some (w.heap.size, 0), 2, 1, 1⟩) (f := [w.heap.size]) (f' := [w.heap.size])
    (by simp) (by rw [← hlE]; simp) (by rw [← hlF]; simp) hroot (by simp) (fun b hb => .inl hb) rfl
  have hset : (A.H ++ [some (⟨false, 2, [[.v (.pointer none), .s true 0 []]]⟩ : Root)]).set A.H.length (some ⟨false, 2, [[.b t, .u e []]]⟩) = A.H ++ [some ⟨false, 2, [[.b t, .u e []]]⟩] := by simp
  unfold Oper.wp
  have hrun : (execOp a.eval o).run P w = .ok (.value (.pointer (some ⟨w.heap.size, 0, none⟩))) (w.alloc (.cells #[.pointer none, .slice none 0 0] t)) := by
    simp [execOp, ho, Instr.alloc, hz, newVar, run_newRow]
    rfl
  rw [hrun]
  refine hn _ _ _ rfl ⟨S, _, _, Rel.put (A := { A with H := A.H ++ [some ⟨false, 2, [[.b t, .u e []]]⟩] }) (by simpa only [hset] using hfin) (.c (.p ?_ ?_))⟩
  · rw [List.length_append, hlE]; simp
  · intro pl hpl
    rw [← hlE, List.getElem?_append_right (Nat.le_refl _)] at hpl
    simp at hpl
    subst hpl
    exact ⟨w.heap.size, 0, rfl, by simp⟩

theorem rr_bld {ops : Array Oper} {o : Oper} {os : List Oper} {A : St} {K : St → Prop} {t : TypeId} (e : TypeId) (hg : o.guard = none) (ho : o.op = .alloc t) (hz : ∀ w, (zeroValue t).run P w = .ok (.agg #[.pointer none, .slice none 0 0]) w)
    (h : RunR P ops os (A.with o.dst (.c (.p A.H.length 0 0), A.H ++ [some ⟨false, 2, [[.b t, .u e []]]⟩])) K) : RunR P ops (o :: os) A K :=
  rr_step hg (step_bld ho hz) (by rintro _ rfl; exact h)

end
end Go.Dl
