/- The walk of the lexer's blanks; The walk of the lexer's next, but for quotes; Results that stay, in tuples; the walk of Tokens; 'Dl', part Zn: a region of open order, its order looked at first; 'Dl', part Zo: contracts over a family of inputs; 'Dl', part Zp: a builder's bytes: appending to them; The walks of strings.Builder's WriteByte, WriteString, String: which blocks they change; strings.Builder's methods as contracts over plain data; The walks of a quote's parts: plain, escape. -/
import Derived.Test.YtbefgbljlmnfoaaU06
set_option linter.all false
namespace Go.Dl
open Go.RowKit
open Go.Proofs
set_option linter.unusedSimpArgs false
set_option linter.unusedVariables false
def isBlank (c : Int) : Bool := decide (c = 32) || decide (c = 10) || decide (c = 9)
def blkN : Nat → ByteArray → Nat → Nat
 | 0, _, p => p
 | n + 1, s, p => if p < s.size then (if isBlank (byt s p) = true then blkN n s (p + 1) else if byt s p = 35 then blkN n s (runF notNL s p) else p) else p
def blkF (s : ByteArray) (p : Nat) : Nat := blkN (s.size + 1) s p
theorem runF_gt {f : Int → Bool} {s : ByteArray} {p : Nat} (hp : p < s.size) (hf : f (byt s p) = true) : p < runF f s p := by
 unfold runF
 simp only [runN]
 rw [if_pos ⟨hp, hf⟩]
 exact (runN_le f s.size s (p + 1) hp).1
theorem blkN_le : ∀ (n : Nat) (s : ByteArray) (p : Nat), p ≤ s.size → p ≤ blkN n s p ∧ blkN n s p ≤ s.size
 | 0, s, p, h => ⟨Nat.le_refl _, h⟩
 | n + 1, s, p, h => by
  simp only [blkN]
  split
  · rename_i hp
    split
    · have := blkN_le n s (p + 1) hp; omega
    · split
      · have h1 := runF_le notNL s p h
        have := blkN_le n s (runF notNL s p) h1.2; omega
      · exact ⟨Nat.le_refl _, h⟩
  · exact ⟨Nat.le_refl _, h⟩
theorem blkF_le (s : ByteArray) (p : Nat) (h : p ≤ s.size) : p ≤ blkF s p ∧ blkF s p ≤ s.size := blkN_le _ s p h
def oBlk : List D → List Obj → Option (D × List Obj)
 | [.c (.p 0 0 0)], [⟨2, [[.v (.string s), .v (.int .i64 (.ofNat p))]]⟩] => if s.size ≤ 1000000 ∧ p ≤ s.size then some (.t [], [lxObj s (blkF s p)]) else none
 | _, _ => none
def FsL4 : Fs := { Fs.none with objs := fun k => if k = 54 then some oRun else none }
theorem okL4 : FsOK Try.prog FsL4 := by
 refine ⟨fun _ _ h => (by cases h), fun k f h => ?_⟩
 simp only [FsL4] at h
 split at h
 · rename_i hk; subst hk; cases h; exact ⟨by kernel_rfl, meets54⟩
 · cases h
theorem meets52 : Meets Try.prog 52 (detS oBlk) := by
 refine meets_of_tri (show Try.prog.funcs[52]? = some Try.f52 by kernel_rfl) rfl (n := 45) rfl (rs := []) rfl ?_
 rintro args objs Q ⟨d, os, hd, hQ⟩
 unfold oBlk at hd
 split at hd
 · rename_i s p
   split at hd
   · rename_i hc
     obtain ⟨hs, hp⟩ := hc
     cases hd
     show Tri _ _ _ _
     refine tri_block ?_
     refine tri_loop_le (fun n A => ∃ (q fu : Nat), q ≤ s.size ∧ n = s.size - q ∧ s.size - q < fu ∧ blkN fu s q = blkF s p ∧
       A = ⟨[.c (.p 0 0 0), .o, .o, .o, .o, .o, .o, .o, .o, .o, .o, .o, .o, .o, .o, .o, .o, .o, .o, .o, .o, .o, .o, .o, .o, .o, .o, .o, .o, .o, .o, .o, .o, .o, .o, .o, .o, .o, .o, .o, .o, .o, .o, .o, .o], [some ⟨false, 2, [[.v (.string s), .v (.int .i64 q)]]⟩]⟩) (s.size - p)
      (B := ⟨[.c (.p 0 0 0), .o, .o, .o, .o, .o, .o, .o, .o, .o, .o, .o, .o, .o, .o, .o, .o, .o, .o, .o, .o, .o, .o, .o, .o, .o, .o, .o, .o, .o, .o, .o, .o, .o, .o, .o, .o, .o, .o, .o, .o, .o, .o, .o, .o], [some ⟨false, 2, [[.v (.string s), .v (.int .i64 p)]]⟩]⟩)
      ⟨by repeat (first | exact .nil | refine .same ?_ | refine .o ?_), rfl⟩ ⟨p, s.size + 1, hp, rfl, by omega, rfl, rfl⟩ ?_
     rintro n A ⟨q, fu, hq, rfl, hfu, hbl, rfl⟩
     obtain ⟨fu, rfl⟩ : ∃ m, fu = m + 1 := ⟨fu - 1, by omega⟩
     simp only [blkN] at hbl
     by_cases hqs : q < s.size
     · rw [if_pos hqs] at hbl
       have hlt : ((q : Int) < (s.size : Int)) = True := eq_true (by omega)
       have hw := wrap_succ q s.size hqs (by unfold maxStr; omega)
       refine seq_in (seq_any mixed ok0 rfl (by kernel_rfl) (by repeat first | with_reducible exact Y2 | refine Y1 (by simp only [Y5, Y4, Y6, qev, St.ev, St.put, qload, Y9, qmk, C.cpy, TK.agg, qnil, Yb, qint, Yc, Ya, qbin, qlen, qbuiltin, liveR, C.cp, if_true, if_false, decide_true, reduceCtorEq, Nat.add_zero, tk3, tsz3, tk9, tsz9, tk61, hlt, ZA]; rfl) ?_) ?_)
       refine Yf rfl (fun _ => Ye ?_) (fun h => by cases h)
       refine tri_block ?_
       obtain ⟨c, hcb⟩ : ∃ c, (((s.data.toList.getD q 0).toNat : Nat) : Int) = c := ⟨_, rfl⟩
       simp only [byt, hcb] at hbl
       refine seq_any mixed ok0 rfl (by kernel_rfl) (by repeat first | with_reducible exact Y2 | refine Y1 (by simp only [Y5, Y4, Y6, qev, St.ev, St.put, D.int, qload, Y9, qmk, C.cpy, TK.agg, qnil, Yb, qindex, liveR, C.cp, if_true, if_false, reduceCtorEq, Nat.add_zero, tk3, tsz3, tk9, tsz9, tk61, Int.toNat_natCast, Int.natCast_nonneg, hlt, hcb, ZA]; rfl) ?_) ?_
       refine tri_block ?_
       by_cases hb : isBlank c = true
       · rw [if_pos hb] at hbl
         by_cases h32 : c = 32
         · refine Y3 ok0 rfl (by repeat first | with_reducible exact Y2 | refine Y1 (by simp only [Y5, Y4, Y6, qev, St.ev, St.put, qpick, qint, Yc, isEq, qeq, Ya, qbin, Y8, Y7, if_true, if_false, decide_true, cond_true, reduceCtorEq, tk5, eq_true h32, ZA]; rfl) ?_) ?_
           refine Yf rfl (fun _ => ?_) (fun h => by cases h)
           refine Yk ok0 rfl (by repeat first | with_reducible exact Y2 | refine Y1 (by simp only [Y5, Y4, Y6, qev, St.ev, St.put, D.cells, qload, Y9, qmk, C.cpy, TK.agg, qnil, Yb, qint, Yc, Ya, qbin, liveR, C.st, C.cp, C.dat, storeA, putCells, Y8, Y7, Nat.reduceAdd, if_true, if_false, ne_eq, reduceCtorEq, Nat.le_refl, implies_true, tk3, tsz3, tk61, hw, ZA]; rfl) ?_) ?_
           exact ⟨s.size - (q + 1), by omega, ⟨[.c (.p 0 0 0), .o, .o, .o, .o, .o, .o, .o, .o, .o, .o, .o, .o, .o, .o, .o, .o, .o, .o, .o, .o, .o, .o, .o, .o, .o, .o, .o, .o, .o, .o, .o, .o, .o, .o, .o, .o, .o, .o, .o, .o, .o, .o, .o, .o], [some ⟨false, 2, [[.v (.string s), .v (.int .i64 (q + 1 : Nat))]]⟩]⟩, ⟨by repeat (first | exact .nil | refine .same ?_ | refine .o ?_), rfl⟩, q + 1, fu, hqs, rfl, by omega, hbl, rfl⟩
         by_cases h10 : c = 10
         · refine Y3 ok0 rfl (by repeat first | with_reducible exact Y2 | refine Y1 (by simp only [Y5, Y4, Y6, qev, St.ev, St.put, qpick, qint, Yc, isEq, qeq, Ya, qbin, Y8, Y7, if_true, if_false, decide_true, decide_false, cond_true, cond_false, reduceCtorEq, tk5, eq_false h32, eq_true h10, ZA]; rfl) ?_) ?_
           refine Yf rfl (fun _ => ?_) (fun h => by cases h)
           refine Yk ok0 rfl (by repeat first | with_reducible exact Y2 | refine Y1 (by simp only [Y5, Y4, Y6, qev, St.ev, St.put, D.cells, qload, Y9, qmk, C.cpy, TK.agg, qnil, Yb, qint, Yc, Ya, qbin, liveR, C.st, C.cp, C.dat, storeA, putCells, Y8, Y7, Nat.reduceAdd, if_true, if_false, ne_eq, reduceCtorEq, Nat.le_refl, implies_true, tk3, tsz3, tk61, hw, ZA]; rfl) ?_) ?_
           exact ⟨s.size - (q + 1), by omega, ⟨[.c (.p 0 0 0), .o, .o, .o, .o, .o, .o, .o, .o, .o, .o, .o, .o, .o, .o, .o, .o, .o, .o, .o, .o, .o, .o, .o, .o, .o, .o, .o, .o, .o, .o, .o, .o, .o, .o, .o, .o, .o, .o, .o, .o, .o, .o, .o, .o], [some ⟨false, 2, [[.v (.string s), .v (.int .i64 (q + 1 : Nat))]]⟩]⟩, ⟨by repeat (first | exact .nil | refine .same ?_ | refine .o ?_), rfl⟩, q + 1, fu, hqs, rfl, by omega, hbl, rfl⟩
         have h9 : c = 9 := by
          simp only [isBlank, h32, h10, decide_false, Bool.false_or, decide_eq_true_eq] at hb
          exact hb
         · refine Y3 ok0 rfl (by repeat first | with_reducible exact Y2 | refine Y1 (by simp only [Y5, Y4, Y6, qev, St.ev, St.put, qpick, qint, Yc, Ya, qbin, Y8, Y7, if_true, if_false, decide_true, decide_false, cond_false, eq_false h32, eq_false h10, eq_true h9, ZA]; rfl) ?_) ?_
           refine Yf rfl (fun _ => ?_) (fun h => by cases h)
           refine Yk ok0 rfl (by repeat first | with_reducible exact Y2 | refine Y1 (by simp only [Y5, Y4, Y6, qev, St.ev, St.put, D.cells, qload, Y9, qmk, C.cpy, TK.agg, qnil, Yb, qint, Yc, Ya, qbin, liveR, C.st, C.cp, C.dat, storeA, putCells, Y8, Y7, Nat.reduceAdd, if_true, if_false, ne_eq, reduceCtorEq, Nat.le_refl, implies_true, tk3, tsz3, tk61, hw, ZA]; rfl) ?_) ?_
           exact ⟨s.size - (q + 1), by omega, ⟨[.c (.p 0 0 0), .o, .o, .o, .o, .o, .o, .o, .o, .o, .o, .o, .o, .o, .o, .o, .o, .o, .o, .o, .o, .o, .o, .o, .o, .o, .o, .o, .o, .o, .o, .o, .o, .o, .o, .o, .o, .o, .o, .o, .o, .o, .o, .o, .o], [some ⟨false, 2, [[.v (.string s), .v (.int .i64 (q + 1 : Nat))]]⟩]⟩, ⟨by repeat (first | exact .nil | refine .same ?_ | refine .o ?_), rfl⟩, q + 1, fu, hqs, rfl, by omega, hbl, rfl⟩
       · rw [if_neg hb] at hbl
         have hn : c ≠ 32 ∧ c ≠ 10 ∧ c ≠ 9 := by
          simp only [isBlank, Bool.or_eq_true, decide_eq_true_eq] at hb
          refine ⟨fun h => hb (.inl (.inl h)), fun h => hb (.inl (.inr h)), fun h => hb (.inr h)⟩
         refine Y3 ok0 rfl (by repeat first | with_reducible exact Y2 | refine Y1 (by simp only [Y5, Y4, Y6, qev, St.ev, St.put, qpick, qint, Yc, Ya, qbin, Y8, Y7, if_true, if_false, decide_false, cond_false, eq_false hn.1, eq_false hn.2.1, eq_false hn.2.2, ZA]; rfl) ?_) ?_
         refine Yf rfl (fun h => by cases h) (fun _ => ?_)
         by_cases h35 : c = 35
         · rw [if_pos h35] at hbl
           have hnl : notNL (byt s q) = true := by simp only [byt, hcb, h35]; rfl
           have hgt := runF_gt hqs hnl
           have hrl := runF_le notNL s q hq
           have hRun : oRun [.c (.p 0 0 0), .c (.f 71 [])] [⟨2, [[.v (.string s), .v (.int .i64 (q : Int))]]⟩] = some (.c (.v (.string (s.extract q (runF notNL s q)))), [⟨2, [[.v (.string s), .v (.int .i64 (runF notNL s q : Nat))]]⟩]) := by
            have h : oRun [.c (.p 0 0 0), .c (.f 71 [])] [⟨2, [[.v (.string s), .v (.int .i64 (Int.ofNat q))]]⟩] = some (.c (.v (.string (s.extract q (runF notNL s q)))), [⟨2, [[.v (.string s), .v (.int .i64 (runF notNL s q : Nat))]]⟩]) := by
             simp only [oRun, show predK 71 = some notNL from rfl, Z8, if_pos (And.intro hs hq)]
             rfl
            exact h
           refine Y3 ok0 rfl (by repeat first | with_reducible exact Y2 | refine Y1 (by simp only [Y5, Y4, Y6, qev, St.ev, St.put, qint, Yc, Ya, qbin, Y8, Y7, if_true, if_false, decide_true, eq_true h35, ZA]; rfl) ?_) ?_
           refine Yf rfl (fun _ => ?_) (fun h => by cases h)
           refine Yk okL4 rfl (by repeat first | with_reducible exact Y2 | refine Y1 (by simp only [Y5, Y4, Y6, evsA, qev, St.ev, St.put, St.with, D.cell, C.dat, Bool.and_true, Bool.true_and, if_true, if_false, beq_self_eq_true, Bool.true_or, callP, callO, Fs.none, dedup, rootsD, rootsC, List.flatMap_cons, List.flatMap_nil, List.filterMap_cons, List.filterMap_nil, Yg, argD, argC, List.contains_nil, objsAt, objOf, List.idxOf?, List.findIdx?, List.findIdx?.go, setObjs, D.ni, D.ni1, C.ni, settle, settle1, settleC, FsL4, hRun, ZA]; rfl) ?_) ?_
           exact ⟨s.size - runF notNL s q, by omega, ⟨[.c (.p 0 0 0), .o, .o, .o, .o, .o, .o, .o, .o, .o, .o, .o, .o, .o, .o, .o, .o, .o, .o, .o, .o, .o, .o, .o, .o, .o, .o, .o, .o, .o, .o, .o, .o, .o, .o, .o, .o, .o, .o, .o, .o, .o, .o, .o, .o], [some ⟨false, 2, [[.v (.string s), .v (.int .i64 (runF notNL s q : Nat))]]⟩]⟩, ⟨by repeat (first | exact .nil | refine .same ?_ | refine .o ?_), rfl⟩, _, fu, hrl.2, rfl, by omega, hbl, rfl⟩
         · rw [if_neg h35] at hbl
           rw [← hbl] at hQ
           refine Y3 ok0 rfl (by repeat first | with_reducible exact Y2 | refine Y1 (by simp only [Y5, Y4, Y6, qev, St.ev, St.put, qint, Yc, Ya, qbin, Y8, Y7, if_true, if_false, decide_false, eq_false h35, ZA]; rfl) ?_) ?_
           refine Yf rfl (fun h => by cases h) (fun _ => ?_)
           refine Yo (Yp (by simp only [outRes, Yi, Yh, ZA]; rfl) rfl .nil (by simp) ?_)
           exact hQ
     · rw [if_neg hqs] at hbl
       rw [← hbl] at hQ
       refine seq_in (seq_any mixed ok0 rfl (by kernel_rfl) (by repeat first | with_reducible exact Y2 | refine Y1 (by simp only [Y5, Y4, Y6, qev, St.ev, St.put, qload, Y9, qmk, C.cpy, TK.agg, qnil, Yb, qint, Yc, Ya, qbin, qlen, qbuiltin, liveR, C.cp, if_true, if_false, decide_false, reduceCtorEq, Nat.add_zero, tk3, tsz3, tk9, tsz9, tk61, show ((q : Int) < (s.size : Int)) = False from eq_false (by omega), ZA]; rfl) ?_) ?_)
       refine Yf rfl (fun h => by cases h) (fun _ => tri_exit ?_)
       refine ends_norm rfl rfl .nil (by simp) ?_
       exact hQ
   · cases hd
 · cases hd
end Go.Dl

namespace Go.Dl
open Go.RowKit
open Go.Proofs
set_option linter.unusedSimpArgs false
set_option linter.unusedVariables false
abbrev Tok := Int × ByteArray × Int
def tokC (t : Tok) : List C := [.v (.int .i64 t.1), .v (.string t.2.1), .v (.int .i64 t.2.2)]
theorem tok_nb (l : List Tok) : rowsNB (l.map tokC) = true := nb_map (fun _ => rfl)
def noText : ByteArray := ⟨#[]⟩
def marks : ByteArray := ⟨#[61, 44, 40, 41, 91, 93, 59]⟩
def dash : ByteArray := ⟨#[45]⟩
def FsL5 : Fs := { pure := fun k => if k = 53 then some (pU8 isLetter) else if k = 56 then some (pU8 isDigit) else if k = 58 then some pIdxB else none, objs := fun k => if k = 52 then some oBlk else if k = 54 then some oRun else none }
theorem okL5 : FsOK Try.prog FsL5 := by
 refine ⟨fun k f h => ?_, fun k f h => ?_⟩
 · simp only [FsL5] at h
   split at h
   · rename_i hk; subst hk; cases h; exact ⟨by kernel_rfl, meets53⟩
   split at h
   · rename_i hk; subst hk; cases h; exact ⟨by kernel_rfl, meets56⟩
   split at h
   · rename_i hk; subst hk; cases h; exact ⟨by kernel_rfl, meets58⟩
   · cases h
 · simp only [FsL5] at h
   split at h
   · rename_i hk; subst hk; cases h; exact ⟨by kernel_rfl, meets52⟩
   split at h
   · rename_i hk; subst hk; cases h; exact ⟨by kernel_rfl, meets54⟩
   · cases h
theorem run_eq {k : Nat} {f : Int → Bool} {s : ByteArray} {p : Nat} (hk : predK k = some f) (hs : s.size ≤ 1000000) (hp : p ≤ s.size) :
  oRun [.c (.p 0 0 0), .c (.f k [])] [⟨2, [[.v (.string s), .v (.int .i64 (p : Int))]]⟩] = some (.c (.v (.string (s.extract p (runF f s p)))), [⟨2, [[.v (.string s), .v (.int .i64 (runF f s p : Nat))]]⟩]) := by
 have h : oRun [.c (.p 0 0 0), .c (.f k [])] [⟨2, [[.v (.string s), .v (.int .i64 (Int.ofNat p))]]⟩] = some (.c (.v (.string (s.extract p (runF f s p)))), [⟨2, [[.v (.string s), .v (.int .i64 (runF f s p : Nat))]]⟩]) := by
  simp only [oRun, hk, Option.bind_some, if_pos (And.intro hs hp)]
  rfl
 exact h
theorem blk_eq {s : ByteArray} {p : Nat} (hs : s.size ≤ 1000000) (hp : p ≤ s.size) :
  oBlk [.c (.p 0 0 0)] [⟨2, [[.v (.string s), .v (.int .i64 (p : Int))]]⟩] = some (.t [], [⟨2, [[.v (.string s), .v (.int .i64 (blkF s p : Nat))]]⟩]) := by
 have h : oBlk [.c (.p 0 0 0)] [⟨2, [[.v (.string s), .v (.int .i64 (Int.ofNat p))]]⟩] = some (.t [], [⟨2, [[.v (.string s), .v (.int .i64 (blkF s p : Nat))]]⟩]) := by
  simp only [oBlk, if_pos (And.intro hs hp)]
  rfl
 exact h
end Go.Dl

namespace Go.Dl
open Go.RowKit
open Go.Proofs
set_option linter.unusedSimpArgs false
set_option linter.unusedVariables false
/-- A tuple's parts that nobody will change. -/
def D.frzT : D → D
 | .t ds => .t (ds.map D.frz)
 | d => d
theorem frz1 {w : World} {S : Nat → Prop} {d : D} {v : Value} {f : List Nat} (h : RepO1 w S d v f) : ∃ f0 f1, f = f0 ++ f1 ∧ RepO1 w (fun x => S x ∨ x ∈ f0) d.frz v f1 := by
 unfold D.frz
 split
 · rename_i es rows
   split
   · rename_i hc
     have h' : Rep w S [] (.k false (.s true es rows) v) f := h
     cases h' with
     | nilO => exact ⟨[], [], rfl, .nilI⟩
     | own hz hb hc' hl hr =>
      rename_i b off cap fp
      have hfp := cells_cp hr (rows_cp hc)
      subst hfp
      exact ⟨[b], [], rfl, .imm (.inr (by simp)) hc' hl (hr.mono (fun _ h => .inl h) (.refl _ _) (fun _ _ => rfl))⟩
   · exact ⟨[], f, rfl, h.mono (.inl fun _ h => .inl h)⟩
 · exact ⟨[], f, rfl, h.mono (.inl fun _ h => .inl h)⟩
theorem frz_all {w : World} {S : Nat → Prop} (ds : List D) (g : Nat → Value) : ∀ (n : Nat) (ds : List D) (fps : List (List Nat)), fps.length = ds.length → (∀ (i : Nat) (d' : D) (f : List Nat), ds[i]? = some d' → fps[i]? = some f → RepO1 w S d' (g (n + i)) f) →
  ∃ g0 g1 : List (List Nat), g0.length = ds.length ∧ g1.length = ds.length ∧ (∀ (i : Nat) (a b : List Nat), g0[i]? = some a → g1[i]? = some b → fps[i]? = some (a ++ b)) ∧
   ∀ (i : Nat) (d' : D) (a b : List Nat), ds[i]? = some d' → g0[i]? = some a → g1[i]? = some b → RepO1 w (fun x => S x ∨ x ∈ a) d'.frz (g (n + i)) b
 | n, [], fps, hl, h => ⟨[], [], rfl, rfl, by simp, by simp⟩
 | n, d :: ds', fps, hl, h => by
  cases fps with
  | nil => simp at hl
  | cons f fps =>
   obtain ⟨f0, f1, e1, e2⟩ := frz1 (h 0 d f rfl rfl)
   obtain ⟨g0, g1, k1, k2, k3, k4⟩ := frz_all ds g (n + 1) ds' fps (by simpa using hl) (fun i d' f hd hf => by have := h (i + 1) d' f (by simpa using hd) (by simpa using hf); rwa [show n + (i + 1) = n + 1 + i by omega] at this)
   refine ⟨f0 :: g0, f1 :: g1, by simp [k1], by simp [k2], ?_, ?_⟩
   · intro i a b ha hb
     cases i with
     | zero => simp at ha hb; subst ha; subst hb; simp [e1]
     | succ i => simpa using k3 i a b (by simpa using ha) (by simpa using hb)
   · intro i d' a b hd ha hb
     cases i with
     | zero => simp at ha hb hd; subst ha; subst hb; subst hd; exact e2
     | succ i =>
      have := k4 i d' a b (by simpa using hd) (by simpa using ha) (by simpa using hb)
      rwa [show n + 1 + i = n + (i + 1) by omega] at this
theorem flat_get2 {L : List (List Nat)} {i : Nat} {a : List Nat} (h : L[i]? = some a) {x : Nat} (hx : x ∈ a) : x ∈ L.flatten := List.mem_flatten.2 ⟨a, List.mem_of_getElem? h, hx⟩
theorem left_frzT {w w' : World} {S : Nat → Prop} {pls : List Pl} {fps : List (List Nat)} {d : D} {v : Value} {objs' : List Obj} (h : Left w w' S pls fps d v objs') : Left w w' S pls fps d.frzT v objs' := by
 unfold D.frzT
 split
 · rename_i ds
   refine ⟨h.size, h.keep, h.os, h.tape, h.output, ?_⟩
   obtain ⟨S', pls', fps', fpd, l1, l2, l3, l4, l5, l6, l7⟩ := h.rest
   obtain ⟨arr, fs, q0, q1, q2, q3, q4⟩ := l3
   obtain ⟨g0, g1, k1, k2, k3, k4⟩ := frz_all ds (fun i => arr.getD i undef) 0 ds fs q2 (fun i d' f hd hf => by have := q4 i d' f hd hf; rwa [Nat.zero_add])
   have in0 : ∀ x, x ∈ g0.flatten → x ∈ fpd := by
    intro x hx
    obtain ⟨a, ha, hxa⟩ := List.mem_flatten.1 hx
    obtain ⟨i, hi⟩ := List.getElem?_of_mem ha
    have hi' := lt_len hi
    have := k3 i a (g1[i]'(by omega)) hi (List.getElem?_eq_getElem _)
    rw [q3]; exact flat_get2 this (List.mem_append_left _ hxa)
   have in1 : ∀ x, x ∈ g1.flatten → x ∈ fpd ∧ x ∉ g0.flatten := by
    intro x hx
    obtain ⟨b, hb, hxb⟩ := List.mem_flatten.1 hx
    obtain ⟨i, hi⟩ := List.getElem?_of_mem hb
    have hi' := lt_len hi
    have hf := k3 i (g0[i]'(by omega)) b (List.getElem?_eq_getElem _) hi
    refine ⟨by rw [q3]; exact flat_get2 hf (List.mem_append_right _ hxb), fun h0 => ?_⟩
    obtain ⟨a, ha, hxa⟩ := List.mem_flatten.1 h0
    obtain ⟨j, hj⟩ := List.getElem?_of_mem ha
    have hj' := lt_len hj
    have hfj := k3 j a (g1[j]'(by omega)) hj (List.getElem?_eq_getElem _)
    have hn : fs.flatten.Nodup := by rw [← q3]; exact (List.nodup_append.1 l5).1
    have := apart_flat hn hf hfj (List.mem_append_right _ hxb) (List.mem_append_left _ hxa)
    subst this
    have hnd := nodup_at hn hf
    rw [List.nodup_append] at hnd
    have hae : g0[i]'(by omega) = a := by rw [List.getElem?_eq_getElem (by omega)] at hj; cases hj; rfl
    rw [hae] at hnd
    exact hnd.2.2 x hxa x hxb rfl
   have nd1 : g1.flatten.Nodup := by
    refine nodup_flat ?_ ?_
    · intro b hb
      obtain ⟨i, hi⟩ := List.getElem?_of_mem hb
      have hi' := lt_len hi
      have hf := k3 i (g0[i]'(by omega)) b (List.getElem?_eq_getElem _) hi
      have hn : fs.flatten.Nodup := by rw [← q3]; exact (List.nodup_append.1 l5).1
      exact (List.nodup_append.1 (nodup_at hn hf)).2.1
    · intro i j f f' x hi hj hx hx'
      have hi' := lt_len hi
      have hj' := lt_len hj
      have hf := k3 i (g0[i]'(by omega)) f (List.getElem?_eq_getElem _) hi
      have hf' := k3 j (g0[j]'(by omega)) f' (List.getElem?_eq_getElem _) hj
      have hn : fs.flatten.Nodup := by rw [← q3]; exact (List.nodup_append.1 l5).1
      exact apart_flat hn hf hf' (List.mem_append_right _ hx) (List.mem_append_right _ hx')
   refine ⟨fun x => S' x ∨ x ∈ g0.flatten, pls', fps', g1.flatten, fun x hx => .inl (l1 x hx), fun x hx => ?_, ?_, ?_, ?_, ?_, l7⟩
   · rcases hx with hx | hx
     · exact l2 x hx
     · have := l6 x (List.mem_append_left _ (in0 x hx))
       exact ⟨this.2.1, .inr this.2.2⟩
   · refine ⟨arr, g1, q0, by rw [List.length_map]; exact q1, by rw [List.length_map]; exact k2, rfl, fun i d' f hd hf => ?_⟩
     rw [List.getElem?_map, Option.map_eq_some_iff] at hd
     obtain ⟨d0, hd0, rfl⟩ := hd
     have hi' := lt_len hf
     have := k4 i d0 (g0[i]'(by omega)) f hd0 (List.getElem?_eq_getElem _) hf
     rw [Nat.zero_add] at this
     refine this.mono (.inl fun x hx => hx.imp id fun h => ?_)
     exact flat_get2 (List.getElem?_eq_getElem (by omega)) h
   · obtain ⟨m1, m2, m3⟩ := l4
     refine ⟨m1, m2, fun i ob hob => ?_⟩
     obtain ⟨p, f, r1, r2, r3⟩ := m3 i ob hob
     exact ⟨p, f, r1, r2, r3.mono (fun _ h => .inl h) (.refl _ _) (fun _ _ => rfl)⟩
   · have l5' := List.nodup_append.1 l5
     exact List.nodup_append.2 ⟨nd1, l5'.2.1, fun x hx y hy hxy => l5'.2.2 x (in1 x hx).1 y hy hxy⟩
   · intro x hx
     rcases List.mem_append.1 hx with h | h
     · obtain ⟨r1, r2, r3⟩ := l6 x (List.mem_append_left _ (in1 x h).1)
       refine ⟨?_, r2, r3⟩
       rintro (h' | h')
       · exact r1 h'
       · exact (in1 x h).2 h'
     · obtain ⟨r1, r2, r3⟩ := l6 x (List.mem_append_right _ h)
       refine ⟨?_, r2, r3⟩
       rintro (h' | h')
       · exact r1 h'
       · exact (List.nodup_append.1 l5).2.2 x (in0 x h') x h rfl
 · exact h
theorem meets_frzT {P : Program} {k : FuncId} {spec : Spec} (h : Meets P k spec) : Meets P k (fun args objs Q => spec args objs (fun d os => Q d.frzT os)) := by
 intro args objs Q hs w S vs pls fps h1 h2 h3 h4 h5 h6
 refine (h args objs _ hs w S vs pls fps h1 h2 h3 h4 h5 h6).mono ?_
 rintro e w' ⟨v, d, os, e1, hq, hl, left⟩
 exact ⟨v, d.frzT, os, e1, hq, hl, left_frzT left⟩
theorem meets_frzTP {P : Program} {k : FuncId} {f : List D → Option D} (h : Meets P k (pureS f)) : Meets P k (pureS fun a => (f a).map D.frzT) := by
 intro args objs Q hs
 refine meets_frzT h args objs Q ?_
 obtain ⟨h1, d, h2, h3⟩ := hs
 cases hf : f args with
 | none => simp only [hf] at h2; cases h2
 | some d0 => simp only [hf] at h2; cases h2; exact ⟨h1, d0, hf, h3⟩
end Go.Dl

namespace Go.Dl
open Go.RowKit
section
variable {P : Program} {Φ : Fs} {A : St} {Q : Exit → St → Prop}
theorem Yj (hm : P.follows .mixedOrders = true) (hΦ : FsOK P Φ) {id : Nat} {l : List Oper} {y : Code} (hok : opsOK l.toArray = true) (hsw : anyOK P Φ l.toArray = true)
  (h : ∃ A', runf P Φ l.toArray l A = some A' ∧ Tri P y A' Q) : Tri P (.seq (.region id l.toArray true) y) A Q := by
 obtain ⟨A', h1, h2⟩ := h
 exact seq_any hm hΦ hok hsw h1 h2
theorem any_endE (hm : P.follows .mixedOrders = true) (hΦ : FsOK P Φ) {id : Nat} {l : List Oper} (hok : opsOK l.toArray = true) (hsw : anyOK P Φ l.toArray = true)
  (h : ∃ A', runf P Φ l.toArray l A = some A' ∧ Q .normal A') : Tri P (.region id l.toArray true) A Q := by
 obtain ⟨A', h1, h2⟩ := h
 exact any_end hm hΦ hok hsw h1 h2
end
end Go.Dl

namespace Go.Dl
open Go.RowKit
section
variable {P : Program}
/-- What is said of a family of inputs: those that 'enc' names, where 'pre' holds; 'out' comes. -/
noncomputable def famO {ι : Type} (pre : ι → Prop) (enc : ι → List D × List Obj) (out : ι → D × List Obj) : List D → List Obj → Option (D × List Obj) := by
 classical exact fun a o => if h : ∃ x, pre x ∧ enc x = (a, o) then some (out h.choose) else none
theorem famO_inv {ι : Type} {pre : ι → Prop} {enc : ι → List D × List Obj} {out : ι → D × List Obj} {a : List D} {o : List Obj} {r : D × List Obj} (h : famO pre enc out a o = some r) :
  ∃ x, pre x ∧ enc x = (a, o) ∧ r = out x := by
 unfold famO at h
 split at h
 · rename_i hh
   cases h
   exact ⟨hh.choose, hh.choose_spec.1, hh.choose_spec.2, rfl⟩
 · cases h
theorem famO_at {ι : Type} {pre : ι → Prop} {enc : ι → List D × List Obj} {out : ι → D × List Obj} (inj : ∀ x y, enc x = enc y → out x = out y) (x : ι) (h : pre x) {a : List D} {o : List Obj}
  (he : enc x = (a, o)) : famO pre enc out a o = some (out x) := by
 unfold famO
 have hx : ∃ x, pre x ∧ enc x = (a, o) := ⟨x, h, he⟩
 rw [dif_pos hx, inj _ x (hx.choose_spec.2.trans he.symm)]
theorem meets_famO {ι : Type} {pre : ι → Prop} {enc : ι → List D × List Obj} {out : ι → D × List Obj} {k : FuncId} {fn : Func} {c : Code} {n : Nat} {rs : List ResultVar} (hf : P.funcs[k]? = some fn) (hb : fn.body = some c) (hnt : fn.ntmps = n) (hrs : fn.results.toList = rs)
  (h : ∀ x, pre x → ∀ Q : D → List Obj → Prop, Q (out x).1 (out x).2 →
   Tri P c ⟨(enc x).1 ++ List.replicate (n - (enc x).1.length) .o, (enc x).2.map fun o => some ⟨false, o.es, o.rows⟩⟩ (Ends P rs (enc x).2.length Q)) : Meets P k (detS (famO pre enc out)) := by
 refine meets_of_tri hf hb hnt hrs ?_
 rintro args objs Q ⟨d, os, hd, hQ⟩
 obtain ⟨x, h1, h2, h3⟩ := famO_inv hd
 have := h x h1 Q (by rw [← h3]; exact hQ)
 rw [h2] at this
 exact this
noncomputable def famP {ι : Type} (pre : ι → Prop) (enc : ι → List D) (out : ι → D) : List D → Option D := by
 classical exact fun a => if h : ∃ x, pre x ∧ enc x = a then some (out h.choose) else none
theorem famP_inv {ι : Type} {pre : ι → Prop} {enc : ι → List D} {out : ι → D} {a : List D} {r : D} (h : famP pre enc out a = some r) : ∃ x, pre x ∧ enc x = a ∧ r = out x := by
 unfold famP at h
 split at h
 · rename_i hh
   cases h
   exact ⟨hh.choose, hh.choose_spec.1, hh.choose_spec.2, rfl⟩
 · cases h
theorem Ym {ι : Type} {pre : ι → Prop} {enc : ι → List D} {out : ι → D} (inj : ∀ x y, enc x = enc y → out x = out y) (x : ι) (h : pre x) {a : List D} (he : enc x = a) : famP pre enc out a = some (out x) := by
 unfold famP
 have hx : ∃ x, pre x ∧ enc x = a := ⟨x, h, he⟩
 rw [dif_pos hx, inj _ x (hx.choose_spec.2.trans he.symm)]
theorem Yn {ι : Type} {pre : ι → Prop} {enc : ι → List D} {out : ι → D} {k : FuncId} {fn : Func} {c : Code} {n : Nat} {rs : List ResultVar} (hf : P.funcs[k]? = some fn) (hb : fn.body = some c) (hnt : fn.ntmps = n) (hrs : fn.results.toList = rs)
  (h : ∀ x, pre x → ∀ Q : D → List Obj → Prop, Q (out x) [] → Tri P c ⟨enc x ++ List.replicate (n - (enc x).length) .o, []⟩ (Ends P rs 0 Q)) : Meets P k (pureS (famP pre enc out)) := by
 refine meets_of_tri hf hb hnt hrs ?_
 rintro args objs Q ⟨rfl, d, hd, hQ⟩
 obtain ⟨x, h1, h2, h3⟩ := famP_inv hd
 have := h x h1 Q (by rw [← h3]; exact hQ)
 rw [h2] at this
 exact this
end
end Go.Dl

namespace Go.Dl
open Go.RowKit
def byteVals (l : List UInt8) : List Value := l.map fun b => .int .u8 b.toNat
/-- What a call on a builder may change. -/
structure UFrame (w w' : World) (fp fp' : List Nat) : Prop where
 os : w'.os = w.os
 tape : w'.tape = w.tape
 out : OutLe w w'
 size : w.heap.size ≤ w'.heap.size
 keep : ∀ k, k < w.heap.size → k ∉ fp → w'.heap[k]? = w.heap[k]?
 new : ∀ k ∈ fp', (k ∈ fp ∨ w.heap.size ≤ k) ∧ k < w'.heap.size
theorem byteVals_len (l : List UInt8) : (byteVals l).length = l.length := by simp [byteVals]
theorem byteVals_app (a b : List UInt8) : byteVals (a ++ b) = byteVals a ++ byteVals b := by simp [byteVals]
theorem byteVals_one {l : List UInt8} : ∀ v ∈ byteVals l, v.oneCell' = true := by
 intro v hv
 obtain ⟨b, _, rfl⟩ := List.mem_map.1 hv
 rfl
section
variable {P : Program} {w : World} {S : Nat → Prop} {E : Env}
theorem run_appU {t xt ty e : TypeId} {i : TypeInfo} (ht : P.underlying t = some (.slice e)) (hi : P.info? e = some i) (hz : i.zero = some (.int .u8 0)) (hs : i.size = 1) (hb : i.bytes = 1) {xd : TypeDesc}
  (hxt : P.underlying xt = some xd) (hxd : xd = .string ∨ ∃ e', xd = .slice e') {bs new : List UInt8} {v vx : Value} {fp : List Nat} (hv : Rep w S E (.k true (.u e bs) v) fp)
  (hlen : ∀ n, (Builtin.lenOf vx).run P { w with drawn := n } = .ok new.length { w with drawn := n }) (hnew : ∀ n, (Builtin.firstCells 1 new.length vx).run P { w with drawn := n } = .ok (byteVals new).toArray { w with drawn := n })
  (hbd : bs.length + new.length ≤ 140737488355328) :
  ∃ v' w' fp', (Builtin.append_ #[t, xt] ty #[v, vx]).run P w = .ok v' w' ∧ Rep w' S E (.k true (.u e (bs ++ new)) v') fp' ∧ UFrame w w' fp fp' := by
 have hsz : ∀ w, (sizeOf e).run P w = .ok 1 w := fun w => by rw [run_sizeOf w hi, show P.cellsOf e = 1 by simp [Program.cellsOf, hi, hs]]
 have hlen0 : (Builtin.lenOf vx).run P w = .ok new.length w := hlen w.drawn
 have hnew0 : (Builtin.firstCells 1 new.length vx).run P w = .ok (byteVals new).toArray w := hnew w.drawn
 obtain ⟨base, cap, rfl, hcap, hcells⟩ : ∃ base cap, v = .slice base bs.length cap ∧ bs.length ≤ cap ∧
   ((base = none ∧ cap = 0 ∧ fp = []) ∨ ∃ g cur, base = some ⟨g, 0, none⟩ ∧ fp = [g] ∧ 0 < cap ∧ cap ≤ 9223372036854775807 ∧ w.heap[g]? = some (.cells cur e (0, 0)) ∧ cur.size = cap ∧ cur.toList.take bs.length = byteVals bs) := by
  cases hv with
  | un => exact ⟨none, 0, rfl, Nat.le_refl _, .inl ⟨rfl, rfl, rfl⟩⟩
  | uo h0 hg hc hm hz ht => exact ⟨_, _, rfl, hc, .inr ⟨_, _, rfl, rfl, h0, hm, hg, hz, ht⟩⟩
 by_cases hfit : bs.length + new.length ≤ cap
 · have hrun : ∀ w', (∀ ad, base = some ad → (storeCells (ad.add bs.length) (byteVals new)).run P w = .ok () w') → (base = none → w' = w) →
     (Builtin.append_ #[t, xt] ty #[.slice base bs.length cap, vx]).run P w = .ok (.slice base (bs.length + new.length) cap) w' := by
    intro w' hst hn
    rcases hxd with rfl | ⟨e', rfl⟩ <;>
    · simp only [Builtin.append_, Z22, Z1, Z2, Sem.run_bind, run_underlying ht, Result.andThen_ok, hsz, run_underlying hxt, Sem.run_pure,
       Bool.false_eq_true, if_false, hlen0, Sem.run_ite, if_pos hfit, Bool.not_false, if_true, hnew0, Nat.mul_one]
      cases base with
      | none => simp [hn rfl]
      | some ad => simp [hst ad rfl]
   rcases hcells with ⟨rfl, rfl, rfl⟩ | ⟨g, cur, rfl, rfl, hc0, hm, hg, hcs, hct⟩
   · have h1 : bs = [] := List.eq_nil_of_length_eq_zero (by omega)
     have h2 : new = [] := List.eq_nil_of_length_eq_zero (by omega)
     subst h1 h2
     exact ⟨_, w, [], hrun w (fun _ h => by cases h) (fun _ => rfl), .un, rfl, rfl, .rf _, Nat.le_refl _, fun _ _ _ => rfl, fun _ h => by cases h⟩
   · have hst0 := run_storeCells_at (P := P) g bs.length e (byteVals new) 0 cur w hg (by rw [byteVals_len]; omega) byteVals_one
     have hst : (storeCells ⟨g, bs.length, none⟩ (byteVals new)).run P w = .ok () (w.setRow g (cur.toList.take bs.length ++ byteVals new ++ cur.toList.drop (bs.length + (byteVals new).length)).toArray) := hst0
     generalize harr : (cur.toList.take bs.length ++ byteVals new ++ cur.toList.drop (bs.length + (byteVals new).length)).toArray = arr at hst
     have hasz : arr.size = cap := by
      rw [← harr]; simp [byteVals_len]; omega
     refine ⟨_, w.setRow g arr, [g], hrun _ (fun ad had => ?_) (fun h => by cases h), ?_, ?_⟩
     · cases had
       rw [addr_add, Nat.zero_add]; exact hst
     · rw [← List.length_append]
       refine .uo hc0 (setRow_heap w g cur arr e _ hg) (by simp; omega) hm hasz ?_
       rw [← harr, hct]
       show List.take (bs ++ new).length (byteVals bs ++ byteVals new ++ _) = byteVals (bs ++ new)
       rw [byteVals_app, List.take_left' (by simp [byteVals_len])]
     · refine ⟨rfl, rfl, ⟨rfl, Nat.le_refl _⟩, by simp [World.setRow], fun k hk hkg => setRow_other w g k arr (fun h => hkg (by simp [h])), fun k hk => ?_⟩
       simp at hk; subst hk
       have : k < w.heap.size := by
        rcases Nat.lt_or_ge k w.heap.size with h | h
        · exact h
        · rw [Array.getElem?_eq_none h] at hg; cases hg
       exact ⟨.inl (by simp), by simpa [World.setRow] using this⟩
 · -- it grows
   have hlt : cap < bs.length + new.length := by omega
   have hgrow : ¬ (Builtin.nextslicecap (bs.length + new.length) cap * i.bytes > 2 ^ 48) := by
    have := growslice_fits (bytes := i.bytes) hlt (by rw [hb]; omega)
    omega
   have hbz : ¬ (((bs.length + new.length : Nat) : Int) > IntKind.i64.max ∧ (False ∨ i.bytes = 0)) := by
    intro hh
    rcases hh.2 with hh | hh
    · exact hh
    · omega
   have holds : (Builtin.firstCells 1 bs.length (.slice base bs.length cap)).run P { w with drawn := w.drawn + 1 } = .ok (byteVals bs).toArray { w with drawn := w.drawn + 1 } := by
    rcases hcells with ⟨rfl, rfl, rfl⟩ | ⟨g, cur, rfl, rfl, hc0, hm, hg, hcs, hct⟩
    · have h1 : bs = [] := List.eq_nil_of_length_eq_zero (by omega)
      subst h1
      simp [Builtin.firstCells, byteVals]
    · refine run_firstCells_some _ 1 bs.length ⟨g, 0, none⟩ bs.length cap (byteVals bs) (by simp [byteVals_len]) (fun j v hj => ?_)
      rw [addr_add, Nat.zero_add]
      have hjl := lt_len hj
      rw [byteVals_len] at hjl
      rw [← hct, List.getElem?_take, if_pos hjl] at hj
      simpa [World.cell?, hg] using hj
   have hneed := Nat.le_add_right (bs.length + new.length) (w.tape w.drawn (.appendCap (bs.length + new.length) cap e) % (2 ^ 63 - (bs.length + new.length)))
   have hmax : (bs.length + new.length) + w.tape w.drawn (.appendCap (bs.length + new.length) cap e) % (2 ^ 63 - (bs.length + new.length)) ≤ 9223372036854775807 := by
    have := Nat.mod_lt (w.tape w.drawn (.appendCap (bs.length + new.length) cap e)) (show 2 ^ 63 - (bs.length + new.length) > 0 by omega)
    omega
   generalize hcapdef : (bs.length + new.length) + w.tape w.drawn (.appendCap (bs.length + new.length) cap e) % (2 ^ 63 - (bs.length + new.length)) = newCap at hneed hmax
   have hroom : ∀ n (w0 : World), (askRoom n).run P w0 = .ok () w0 := by
    intro n w0
    unfold askRoom; split
    · simp [mark, Sem.run]
    · rfl
   have hchoose : (choose (.appendCap (bs.length + new.length) cap e)).run P w = .ok newCap { w with drawn := w.drawn + 1 } := by
    simp [choose, Sem.run, Question.forced, Question.cut, hcapdef]
   have hz1 : ∀ w0 : World, (zeroValue e).run P w0 = .ok (.int .u8 0) w0 := fun w0 => by simp [zeroValue, run_typeInfo w0 hi, hz, Sem.run_bind]
   have t3 := hnew (w.drawn + 1)
   have hzc : (Builtin.zeroCells (Value.int .u8 0).cells (newCap - (bs.length + new.length))).size = newCap - (bs.length + new.length) := by
    rw [zeroCells_len]; simp [Value.cells]
   refine ⟨.slice (some ⟨w.heap.size, 0, none⟩) (bs.length + new.length) newCap, ({ w with drawn := w.drawn + 1 } : World).alloc (.cells ((byteVals bs).toArray ++ (byteVals new).toArray ++ Builtin.zeroCells (Value.int .u8 0).cells (newCap - (bs.length + new.length))) e), [w.heap.size], ?_, ?_, ?_⟩
   · rcases hxd with rfl | ⟨e', rfl⟩ <;>
     · simp only [Builtin.append_, Z22, Z1, Z2, Sem.run_bind, run_underlying ht, Result.andThen_ok, hsz, run_underlying hxt, Sem.run_pure,
        Bool.false_eq_true, if_false, hlen0, Sem.run_ite, if_neg hfit, run_typeInfo w hi]
       rw [if_neg hbz]
       simp only [Result.andThen_ok, if_neg hgrow, hchoose, run_typeInfo _ hi, hroom, holds, Bool.not_false, if_true, t3, hz1, run_newRow]
   · have hl : (bs ++ new).length = bs.length + new.length := List.length_append
     have key := Rep.uo (S := S) (E := E) (dat := true) (T := e) (bs := bs ++ new) (cap := newCap) (w := ({ w with drawn := w.drawn + 1 } : World).alloc (.cells ((byteVals bs).toArray ++ (byteVals new).toArray ++ Builtin.zeroCells (Value.int .u8 0).cells (newCap - (bs.length + new.length))) e)) (g := w.heap.size) (cur := ((byteVals bs).toArray ++ (byteVals new).toArray ++ Builtin.zeroCells (Value.int .u8 0).cells (newCap - (bs.length + new.length)))) (by omega) (heap_alloc_new _ _) (by rw [hl]; exact hneed) hmax (by rw [Array.size_append, hzc]; simp [byteVals_len]; omega)
      (by
       show List.take (bs ++ new).length _ = byteVals (bs ++ new)
       rw [byteVals_app, Array.toList_append, Array.toList_append, List.take_left' (by simp [byteVals_len])])
     rw [hl] at key
     exact key
   · refine ⟨rfl, rfl, ⟨rfl, Nat.le_succ _⟩, ?_, fun k hk hkg => ?_, fun k hk => ?_⟩
     · show w.heap.size ≤ (w.heap.push _).size
       simp
     · show (w.heap.push _)[k]? = _
       rw [Array.getElem?_push, if_neg (by omega)]
     · simp at hk; subst hk
       refine ⟨.inr (Nat.le_refl _), ?_⟩
       show _ < (w.heap.push _).size
       simp
/-- A builder that is made. -/
theorem step_bld {o : Oper} {A : St} {t e : TypeId} (ho : o.op = .alloc t) (hz : ∀ w, (zeroValue t).run P w = .ok (.agg #[.pointer none, .slice none 0 0]) w) :
  Step P o A (fun A' => A' = A.with o.dst (.c (.p A.H.length 0 0), A.H ++ [some ⟨false, 2, [[.b t, .u e []]]⟩])) := by
 intro g a w ⟨S, E, F, hr⟩ next Q hn
 have hv : Rep w S E (.vs [.v (.pointer none), .s true 0 []] [.pointer none, .slice none 0 0]) [] := .vcons (f1 := []) (.v trivial) (.vcons (f1 := []) (.nilO) .vnil)
 have hnew := hr.newRoot (R := ⟨false, 2, [[.v (.pointer none), .s true 0 []]]⟩) (vs := [.pointer none, .slice none 0 0]) (extra := []) (el := t) (m := 1) (by simpa using hv) (by simp) (by simp) (by simp) (by simp)
 rw [List.append_nil] at hnew
 have hb : (w.alloc (.cells #[.pointer none, .slice none 0 0] t)).heap[w.heap.size]? = some (.cells #[.pointer none, .slice none 0 0] t (0, 0)) := heap_alloc_new _ _
 have hlE := hr.lE
 have hlF := hr.lF
 have hroot : RootAt (w.alloc (.cells #[.pointer none, .slice none 0 0] t)) S (E ++ [some ⟨some (w.heap.size, 0), 2, 1, 1⟩]) ⟨false, 2, [[.b t, .u e []]]⟩ ⟨some (w.heap.size, 0), 2, 1, 1⟩ [w.heap.size] := by
  refine ⟨rfl, rfl, Nat.le_refl _, by simp, [], rfl, ⟨_, _, _, hb, Nat.le_refl _, fun o ho => (by simp only [World.frozen?, hb]; simp)⟩, ?_⟩
  have h0 : Rep (w.alloc (.cells #[.pointer none, .slice none 0 0] t)) S (E ++ [some ⟨some (w.heap.size, 0), 2, 1, 1⟩]) (.l false [] w.heap.size 2) [] := .lnil
  have h1 : Rep (w.alloc (.cells #[.pointer none, .slice none 0 0] t)) S (E ++ [some ⟨some (w.heap.size, 0), 2, 1, 1⟩]) (.l false [.u e []] w.heap.size 1) ([] ++ []) := .lcons (v := .slice none 0 0) (by simp only [World.cell?, hb]; rfl) .un h0
  exact .lb hb rfl rfl (.inl rfl) h1
 have hfin := hnew.refoot (r := A.H.length) (R := ⟨false, 2, [[.v (.pointer none), .s true 0 []]]⟩) (R' := ⟨false, 2, [[.b t, .u e []]]⟩) (p := ⟨some (w.heap.size, 0), 2, 1, 1⟩) (f := [w.heap.size]) (f' := [w.heap.size])
  (by simp) (by rw [← hlE]; simp) (by rw [← hlF]; simp) hroot (by simp) (fun b hb => .inl hb) rfl
 have hset : (A.H ++ [some (⟨false, 2, [[.v (.pointer none), .s true 0 []]]⟩ : Root)]).set A.H.length (some ⟨false, 2, [[.b t, .u e []]]⟩) = A.H ++ [some ⟨false, 2, [[.b t, .u e []]]⟩] := by simp
 unfold Oper.wp
 have hrun : (execOp a.eval o).run P w = .ok (.value (.pointer (some ⟨w.heap.size, 0, none⟩))) (w.alloc (.cells #[.pointer none, .slice none 0 0] t)) := by
  simp [execOp, ho, Instr.alloc, hz, newVar, run_newRow]
  rfl
 rw [hrun]
 refine hn _ _ _ rfl ⟨S, _, _, Rel.put (A := { A with H := A.H ++ [some ⟨false, 2, [[.b t, .u e []]]⟩] }) (by simpa only [hset] using hfin) (.c (.p ?_ ?_))⟩
 · rw [List.length_append, hlE]; simp
 · intro pl hpl
   rw [← hlE, List.getElem?_append_right (Nat.le_refl _)] at hpl
   simp at hpl
   subst hpl
   exact ⟨w.heap.size, 0, rfl, by simp⟩
theorem rr_bld {ops : Array Oper} {o : Oper} {os : List Oper} {A : St} {K : St → Prop} {t : TypeId} (e : TypeId) (hg : o.guard = none) (ho : o.op = .alloc t) (hz : ∀ w, (zeroValue t).run P w = .ok (.agg #[.pointer none, .slice none 0 0]) w)
  (h : RunR P ops os (A.with o.dst (.c (.p A.H.length 0 0), A.H ++ [some ⟨false, 2, [[.b t, .u e []]]⟩])) K) : RunR P ops (o :: os) A K :=
 rr_step hg (step_bld ho hz) (by rintro _ rfl; exact h)
end
end Go.Dl

namespace Go.Dl
open Go.RowKit Go.Proofs
set_option linter.unusedSimpArgs false
set_option linter.unusedVariables false
set_option maxHeartbeats 1000000
set_option maxRecDepth 100000
/-- A builder as it lies: its block, its bytes, the blocks of these. -/
structure BdAt (w : World) (b : Nat) (p v : Value) (bs : List UInt8) (fp : List Nat) : Prop where
 blk : w.heap[b]? = some (.cells #[p, v] 69 (0, 0))
 ptr : p = .pointer none ∨ p = .pointer (some ⟨b, 0, none⟩)
 rep : Rep w (fun _ => False) [] (.k true (.u 5 bs) v) fp
 out : b ∉ fp
theorem cc_used (b : Nat) (w : World) (h0 : w.cell? ⟨b, 0, none⟩ = some (.pointer (some ⟨b, 0, none⟩))) :
  Calls Try.prog 60 #[.pointer (some ⟨b, 0, none⟩)] w fun e w' => e = .returned (.tuple #[]) ∧ w' = w := by
 obtain ⟨j, hj, hjs⟩ := Option.map_eq_some_iff.1 (show (Try.prog.info? 69).map (·.size) = some 2 by kernel_rfl)
 have mixed : Try.prog.follows .mixedOrders = true := by kernel_rfl
 have t69 := Try.underlying69; have a69 := Try.isAgg69; have z69 := Try.sizeOf69; have v69 := Try.zeroValue69; have u69 := run_underlying Try.underlying69
 have t67 := Try.underlying67; have a67 := Try.isAgg67; have z67 := Try.sizeOf67; have v67 := Try.zeroValue67; have u67 := run_underlying Try.underlying67
 have t9 := Try.underlying9; have a9 := Try.isAgg9; have z9 := Try.sizeOf9
 have t4 := Try.underlying4; have a4 := Try.isAgg4; have z4 := Try.sizeOf4
 have t110 := Try.underlying110; have a110 := Try.isAgg110; have z110 := Try.sizeOf110
 go_enter Try.func60, Try.ntmps60
 go_wp2
 rw [Lib.run_neq_ptr_same w _ Try.underlying67 hj]
 go_wp2
 go_end0
 exact ⟨rfl, rfl⟩
theorem cc_fresh (b : Nat) (w : World) (h0 : w.cell? ⟨b, 0, none⟩ = some (.pointer none)) (hsh : w.shape? b = some (69, 2)) (hfz : w.frozen? ⟨b, 0, none⟩ = false) :
  Calls Try.prog 60 #[.pointer (some ⟨b, 0, none⟩)] w fun e w' => e = .returned (.tuple #[]) ∧ w' = w.setCell ⟨b, 0, none⟩ (.pointer (some ⟨b, 0, none⟩)) := by
 obtain ⟨j, hj, hjs⟩ := Option.map_eq_some_iff.1 (show (Try.prog.info? 69).map (·.size) = some 2 by kernel_rfl)
 have mixed : Try.prog.follows .mixedOrders = true := by kernel_rfl
 have t69 := Try.underlying69; have a69 := Try.isAgg69; have z69 := Try.sizeOf69; have v69 := Try.zeroValue69; have u69 := run_underlying Try.underlying69
 have t67 := Try.underlying67; have a67 := Try.isAgg67; have z67 := Try.sizeOf67; have v67 := Try.zeroValue67; have u67 := run_underlying Try.underlying67
 have t9 := Try.underlying9; have a9 := Try.isAgg9; have z9 := Try.sizeOf9
 have t4 := Try.underlying4; have a4 := Try.isAgg4; have z4 := Try.sizeOf4
 have t110 := Try.underlying110; have a110 := Try.isAgg110; have z110 := Try.sizeOf110
 go_enter Try.func60, Try.ntmps60
 go_wp2
 rw [Lib.run_to_unsafe w ⟨b, 0, none⟩ Try.underlying67 Try.underlying110 hj (by rw [hjs]; decide) hsh (Nat.zero_lt_succ 1)]
 simp only [Result.andThen]
 rw [Oper.upon_value]
 go_wp2
 rw [run_callFunc_extern Try.func74 (by kernel_rfl) (by kernel_rfl) (by kernel_rfl) (e := Extern.AbiNoEscape.same) (by kernel_rfl)]
 rw [Lib.run_noEscape]
 simp only [Result.andThen]
 rw [Oper.upon_value]
 go_wp2
 rw [Lib.run_from_unsafe w ⟨b, 0, none⟩ Try.underlying110 Try.underlying67 hj hsh (by kernel_rfl)]
 simp only [Result.andThen]
 rw [Oper.upon_value]
 go_wp2
 go_end0
 exact ⟨rfl, rfl⟩
theorem lt_of_heap {w : World} {b : Nat} {o : Go.Obj} (h : w.heap[b]? = some o) : b < w.heap.size := by
 rcases Nat.lt_or_ge b w.heap.size with h' | h'
 · exact h'
 · rw [Array.getElem?_eq_none h'] at h; cases h
theorem BdAt.cc {w : World} {b : Nat} {p v : Value} {bs : List UInt8} {fp : List Nat} (h : BdAt w b p v bs fp) :
  Calls Try.prog 60 #[.pointer (some ⟨b, 0, none⟩)] w fun e w' => e = .returned (.tuple #[]) ∧ BdAt w' b (.pointer (some ⟨b, 0, none⟩)) v bs fp ∧
   w'.os = w.os ∧ w'.tape = w.tape ∧ w'.output = w.output ∧ w'.drawn = w.drawn ∧ w'.heap.size = w.heap.size ∧ ∀ k, k ≠ b → w'.heap[k]? = w.heap[k]? := by
 obtain ⟨hb, hp, hr, ho⟩ := h
 rcases hp with rfl | rfl
 · refine (cc_fresh b w (by simp [World.cell?, hb]) (by simp [World.shape?, hb]) (by simp [World.frozen?, hb])).mono ?_
   rintro e w' ⟨rfl, rfl⟩
   have hlt : b < w.heap.size := lt_of_heap hb
   have hk : ∀ k, k ≠ b → (w.setCell ⟨b, 0, none⟩ (.pointer (some ⟨b, 0, none⟩))).heap[k]? = w.heap[k]? := fun k hk => Below.heap_setCell _ _ _ _ hk
   refine ⟨rfl, ⟨?_, .inr rfl, ?_, ho⟩, rfl, rfl, rfl, rfl, by simp [World.setCell], hk⟩
   · have h' : w.heap[b] = .cells #[.pointer none, v] 69 (0, 0) := by simpa [Array.getElem?_eq_getElem hlt] using hb
     show (w.heap.modify b _)[b]? = _
     rw [Array.getElem?_eq_getElem (by simpa using hlt), Array.getElem_modify_self, h']
     rfl
   · refine hr.mono (fun _ h => h) (.refl _ _) fun k hk' => hk k ?_
     rcases hk' with h | h | h
     · cases h
     · exact fun e => ho (e ▸ h)
     · cases h
 · refine (cc_used b w (by simp [World.cell?, hb])).mono ?_
   rintro e w' ⟨rfl, rfl⟩
   exact ⟨rfl, ⟨hb, .inr rfl, hr, ho⟩, rfl, rfl, rfl, rfl, rfl, fun _ _ => rfl⟩
theorem wpList_appX {P : Program} {ops : Array Oper} {rest : List Oper} {o : Oper} {a : Act} {w : World} {Q : Exit → Act → World → Prop} {v vx : Value} (hgd : o.guard = none) (s x : Operand) (t xt : TypeId)
  (ho : o.op = .call { callee := .builtin .append, args := #[s, x], argTypes := #[t, xt] }) {e : TypeId} {i : TypeInfo} (ht : P.underlying t = some (.slice e)) (hi : P.info? e = some i) (hz : i.zero = some (.int .u8 0)) (hsz : i.size = 1) (hb : i.bytes = 1) {xd : TypeDesc}
  (hxt : P.underlying xt = some xd) (hxd : xd = .string ∨ ∃ e', xd = .slice e') (bs new : List UInt8) (fp : List Nat) (hs : a.eval s = v) (hx : a.eval x = vx) (hv : Rep w (fun _ => False) [] (.k true (.u e bs) v) fp)
  (hlen : ∀ n, (Builtin.lenOf vx).run P { w with drawn := n } = .ok new.length { w with drawn := n }) (hnew : ∀ n, (Builtin.firstCells 1 new.length vx).run P { w with drawn := n } = .ok (byteVals new).toArray { w with drawn := n })
  (hbd : bs.length + new.length ≤ 140737488355328)
  (h : ∀ v' w' fp', Rep w' (fun _ => False) [] (.k true (.u e (bs ++ new)) v') fp' → UFrame w w' fp fp' → wpList P ops Q rest (a.put o.dst v') w') : wpList P ops Q (o :: rest) a w := by
 obtain ⟨v', w', fp', hr, h1, h2⟩ := run_appU (ty := o.type) ht hi hz hsz hb hxt hxd hv hlen hnew hbd
 refine wpList_plain hgd fun K hK => ?_
 unfold Oper.wp execOp
 simp only [ho, resolve, invoke, builtin, Sem.run_bind, Sem.run_pure, Result.andThen_ok, List.map_toArray, Z24, Z13, hs, hx, hr]
 exact hK _ _ (h v' w' fp' h1 h2)
/-- The builder's bytes are put into its second cell. -/
theorem BdAt.put {w : World} {b : Nat} {p v v' : Value} {bs : List UInt8} {fp : List Nat} (hb : w.heap[b]? = some (.cells #[p, v] 69 (0, 0))) (hp : p = .pointer none ∨ p = .pointer (some ⟨b, 0, none⟩))
  (hr : Rep w (fun _ => False) [] (.k true (.u 5 bs) v') fp) (ho : b ∉ fp) : BdAt (w.setCell ⟨b, 1, none⟩ v') b p v' bs fp ∧ ∀ k, k ≠ b → (w.setCell ⟨b, 1, none⟩ v').heap[k]? = w.heap[k]? := by
 have hlt : b < w.heap.size := lt_of_heap hb
 have hk : ∀ k, k ≠ b → (w.setCell ⟨b, 1, none⟩ v').heap[k]? = w.heap[k]? := fun k hk => Below.heap_setCell _ _ _ _ hk
 refine ⟨⟨?_, hp, ?_, ho⟩, hk⟩
 · have h' : w.heap[b] = .cells #[p, v] 69 (0, 0) := by simpa [Array.getElem?_eq_getElem hlt] using hb
   show (w.heap.modify b _)[b]? = _
   rw [Array.getElem?_eq_getElem (by simpa using hlt), Array.getElem_modify_self, h']
   rfl
 · refine hr.mono (fun _ h => h) (.refl _ _) fun k hk' => hk k ?_
   rcases hk' with h | h | h
   · cases h
   · exact fun e => ho (e ▸ h)
   · cases h
theorem u_slice {w : World} {S : Nat → Prop} {E : Env} {d : Bool} {e : TypeId} {l : List UInt8} {v : Value} {fp : List Nat} (h : Rep w S E (.k d (.u e l) v) fp) : ∃ ao n cap, v = .slice ao n cap := by
 cases h <;> exact ⟨_, _, _, rfl⟩
theorem wb_raw {w : World} {b : Nat} {p v : Value} {bs : List UInt8} {fp : List Nat} (h : BdAt w b p v bs fp) (x : UInt8) (hbd : bs.length + 1 ≤ 140737488355328) (hfl : ∀ k ∈ fp, k < w.heap.size) :
  Calls Try.prog 32 #[.pointer (some ⟨b, 0, none⟩), .int .u8 x.toNat] w fun e w' => e = .returned .nilIface ∧ ∃ v' fp', BdAt w' b (.pointer (some ⟨b, 0, none⟩)) v' (bs ++ [x]) fp' ∧ UFrame w w' (b :: fp) fp' := by
 obtain ⟨i0, hi, hz0, hz1, hz2⟩ := info_parts (show (Try.prog.info? 5).map (fun i => (i.zero, i.size, i.bytes)) = some (some (.int .u8 0), 1, 1) by kernel_rfl)
 have mixed : Try.prog.follows .mixedOrders = true := by kernel_rfl
 have t69 := Try.underlying69; have a69 := Try.isAgg69; have z69 := Try.sizeOf69; have v69 := Try.zeroValue69; have u69 := run_underlying Try.underlying69
 have t67 := Try.underlying67; have a67 := Try.isAgg67; have z67 := Try.sizeOf67; have v67 := Try.zeroValue67; have u67 := run_underlying Try.underlying67
 have t5 := Try.underlying5; have a5 := Try.isAgg5; have z5 := Try.sizeOf5; have v5 := Try.zeroValue5; have u5 := run_underlying Try.underlying5
 have t35 := Try.underlying35; have a35 := Try.isAgg35; have z35 := Try.sizeOf35; have v35 := Try.zeroValue35; have u35 := run_underlying Try.underlying35
 have e60 : ∀ args w, (callFunc 60 args).run Try.prog w = .ok (.enter 60 args) w := enters_of Try.func60 (by kernel_rfl) rfl
 have hlt0 : b < w.heap.size := lt_of_heap h.blk
 go_enter Try.func32, Try.ntmps32
 go_wp2_with (go_at_fn 60; refine h.cc.mono ?_)
 rintro e w1 ⟨rfl, h1, c1, c2, c3, c4, c5, c6⟩
 obtain ⟨hb1, hp1, hr1, ho1⟩ := h1
 have hfl1 : ∀ k ∈ fp, k < w1.heap.size := fun k hk => by rw [c5]; exact hfl k hk
 have g0 : w1.cell? ⟨b, 0, none⟩ = some (.pointer (some ⟨b, 0, none⟩)) := by simp [World.cell?, hb1]
 have g1 : w1.cell? ⟨b, 1, none⟩ = some v := by simp [World.cell?, hb1]
 go_wp2_with (at_builtin; refine wpList_appX (v := v) (vx := .slice (some ⟨w.heap.size, 0, none⟩) 1 1) rfl _ _ 35 35 rfl Try.underlying35 hi hz0 hz1 hz2 Try.underlying35 (.inr ⟨_, rfl⟩) bs [x] fp rfl rfl ?c1 ?c2 ?c3 hbd ?_)
 case c1 =>
  refine hr1.mono (fun _ h => h) (.refl _ _) fun k hk' => heap_alloc_lt _ _ ?_
  rcases hk' with h | h | h
  · cases h
  · exact hfl1 k h
  · cases h
 case c2 => intro n; simp [Builtin.lenOf]
 case c3 =>
  intro n
  rw [← c5]
  refine run_firstCells_some _ 1 1 ⟨w1.heap.size, 0, none⟩ 1 1 (byteVals [x]) (by simp [byteVals_len]) (fun j u hj => ?_)
  rw [addr_add, Nat.zero_add]
  have hjl := lt_len hj
  rw [byteVals_len] at hjl
  have : j = 0 := by simp at hjl; omega
  subst this
  have hh := heap_alloc_new w1 (.cells #[.int .u8 x.toNat] 5)
  simp [byteVals] at hj
  subst hj
  simp only [World.cell?]
  rw [show (({ w1.alloc (.cells #[.int .u8 x.toNat] 5) with drawn := n } : World).heap)[w1.heap.size]? = _ from hh]
  rfl
 intro v' w2 fp' hrep hfr
 have hlt1 : b < w1.heap.size := by rw [c5]; exact hlt0
 have hb2 : w2.heap[b]? = some (.cells #[.pointer (some ⟨b, 0, none⟩), v] 69 (0, 0)) := by
  rw [hfr.keep b (by simp; omega) ho1, heap_alloc_lt _ _ hlt1]; exact hb1
 have d0 : w2.cell? ⟨b, 0, none⟩ = some (.pointer (some ⟨b, 0, none⟩)) := by simp [World.cell?, hb2]
 have d1 : w2.cell? ⟨b, 1, none⟩ = some v := by simp [World.cell?, hb2]
 have f1 : w2.frozen? ⟨b, 1, none⟩ = false := by simp [World.frozen?, hb2]
 obtain ⟨ao, n', cap, rfl⟩ := u_slice hrep
 go_wp2
 go_ret
 refine ⟨rfl, ?_⟩
 have hbf : b ∉ fp' := fun hb' => by
  rcases (hfr.new b hb').1 with h | h
  · exact ho1 h
  · simp at h; omega
 obtain ⟨q1, q2⟩ := BdAt.put hb2 (.inr rfl) hrep hbf
 refine ⟨_, fp', q1, hfr.os.trans c1, hfr.tape.trans c2, ⟨hfr.out.1.trans c3, Nat.le_trans (Nat.le_of_eq c4.symm) hfr.out.2⟩, ?_, fun k hk hkf => ?_, fun k hk => ?_⟩
 · have := hfr.size
   simp [World.setCell] at this ⊢
   omega
 · simp only [List.mem_cons, not_or] at hkf
   rw [q2 k hkf.1, hfr.keep k (by simp; omega) hkf.2, heap_alloc_lt _ _ (by omega), c6 k hkf.1]
 · obtain ⟨k1, k2⟩ := hfr.new k hk
   refine ⟨?_, by simpa [World.setCell] using k2⟩
   rcases k1 with h | h
   · exact .inl (List.mem_cons_of_mem _ h)
   · simp at h; exact .inr (by omega)
theorem ws_raw {w : World} {b : Nat} {p v : Value} {bs : List UInt8} {fp : List Nat} (h : BdAt w b p v bs fp) (s : ByteArray) (hbd : bs.length + s.size ≤ 140737488355328) (hfl : ∀ k ∈ fp, k < w.heap.size) :
  Calls Try.prog 34 #[.pointer (some ⟨b, 0, none⟩), .string s] w fun e w' => e = .returned (.tuple #[.int .i64 s.size, .nilIface]) ∧ ∃ v' fp', BdAt w' b (.pointer (some ⟨b, 0, none⟩)) v' (bs ++ s.data.toList) fp' ∧ UFrame w w' (b :: fp) fp' := by
 obtain ⟨i0, hi, hz0, hz1, hz2⟩ := info_parts (show (Try.prog.info? 5).map (fun i => (i.zero, i.size, i.bytes)) = some (some (.int .u8 0), 1, 1) by kernel_rfl)
 have mixed : Try.prog.follows .mixedOrders = true := by kernel_rfl
 have t69 := Try.underlying69; have a69 := Try.isAgg69; have z69 := Try.sizeOf69; have v69 := Try.zeroValue69; have u69 := run_underlying Try.underlying69
 have t67 := Try.underlying67; have a67 := Try.isAgg67; have z67 := Try.sizeOf67; have v67 := Try.zeroValue67; have u67 := run_underlying Try.underlying67
 have t5 := Try.underlying5; have a5 := Try.isAgg5; have z5 := Try.sizeOf5; have v5 := Try.zeroValue5; have u5 := run_underlying Try.underlying5
 have t35 := Try.underlying35; have a35 := Try.isAgg35; have z35 := Try.sizeOf35; have v35 := Try.zeroValue35; have u35 := run_underlying Try.underlying35
 have t9 := Try.underlying9; have a9 := Try.isAgg9; have z9 := Try.sizeOf9; have v9 := Try.zeroValue9; have u9 := run_underlying Try.underlying9
 have t3 := Try.underlying3; have a3 := Try.isAgg3; have z3 := Try.sizeOf3; have v3 := Try.zeroValue3; have u3 := run_underlying Try.underlying3
 have e60 : ∀ args w, (callFunc 60 args).run Try.prog w = .ok (.enter 60 args) w := enters_of Try.func60 (by kernel_rfl) rfl
 have hlt0 : b < w.heap.size := lt_of_heap h.blk
 go_enter Try.func34, Try.ntmps34
 go_wp2_with (go_at_fn 60; refine h.cc.mono ?_)
 rintro e w1 ⟨rfl, h1, c1, c2, c3, c4, c5, c6⟩
 obtain ⟨hb1, hp1, hr1, ho1⟩ := h1
 have hfl1 : ∀ k ∈ fp, k < w1.heap.size := fun k hk => by rw [c5]; exact hfl k hk
 have g0 : w1.cell? ⟨b, 0, none⟩ = some (.pointer (some ⟨b, 0, none⟩)) := by simp [World.cell?, hb1]
 have g1 : w1.cell? ⟨b, 1, none⟩ = some v := by simp [World.cell?, hb1]
 have hl : s.data.toList.length = s.size := by simp
 go_wp2_with (at_builtin; refine wpList_appX (v := v) (vx := .string s) rfl _ _ 35 9 rfl Try.underlying35 hi hz0 hz1 hz2 Try.underlying9 (.inl rfl) bs s.data.toList fp rfl rfl hr1 ?c2 ?c3 (by rw [hl]; exact hbd) ?_)
 case c2 => intro n; simp [Builtin.lenOf]
 case c3 =>
  intro n
  rw [hl]
  simp only [Builtin.firstCells, Sem.run_pure]
  congr 1
  apply Array.toList_inj.1
  have : (s.extract 0 s.size).data = s.data := by rw [ByteArray.extract_zero_size]
  rw [Array.toList_map, this]
  rfl
 intro v' w2 fp' hrep hfr
 have hlt1 : b < w1.heap.size := by rw [c5]; exact hlt0
 have hb2 : w2.heap[b]? = some (.cells #[.pointer (some ⟨b, 0, none⟩), v] 69 (0, 0)) := by
  rw [hfr.keep b hlt1 ho1]; exact hb1
 have d0 : w2.cell? ⟨b, 0, none⟩ = some (.pointer (some ⟨b, 0, none⟩)) := by simp [World.cell?, hb2]
 have d1 : w2.cell? ⟨b, 1, none⟩ = some v := by simp [World.cell?, hb2]
 have f1 : w2.frozen? ⟨b, 1, none⟩ = false := by simp [World.frozen?, hb2]
 obtain ⟨ao, n', cap, rfl⟩ := u_slice hrep
 go_wp2
 go_ret2
 refine ⟨rfl, ?_⟩
 have hbf : b ∉ fp' := fun hb' => by
  rcases (hfr.new b hb').1 with h | h
  · exact ho1 h
  · omega
 obtain ⟨q1, q2⟩ := BdAt.put hb2 (.inr rfl) hrep hbf
 refine ⟨_, fp', q1, hfr.os.trans c1, hfr.tape.trans c2, ⟨hfr.out.1.trans c3, Nat.le_trans (Nat.le_of_eq c4.symm) hfr.out.2⟩, ?_, fun k hk hkf => ?_, fun k hk => ?_⟩
 · have := hfr.size
   simp [World.setCell] at this ⊢
   omega
 · simp only [List.mem_cons, not_or] at hkf
   rw [q2 k hkf.1, hfr.keep k (by omega) hkf.2, c6 k hkf.1]
 · obtain ⟨k1, k2⟩ := hfr.new k hk
   refine ⟨?_, by simpa [World.setCell] using k2⟩
   rcases k1 with h | h
   · exact .inl (List.mem_cons_of_mem _ h)
   · exact .inr (by omega)
/-- What String leaves: the bytes stay as they are from then on. -/
structure StrLeft (w w' : World) (b : Nat) (p v : Value) (bs : List UInt8) (fp : List Nat) : Prop where
 os : w'.os = w.os
 tape : w'.tape = w.tape
 out : OutLe w w'
 size : w.heap.size ≤ w'.heap.size
 keep : ∀ k, k < w.heap.size → k ∉ fp → w'.heap[k]? = w.heap[k]?
 rep : ∀ S : Nat → Prop, (∀ k ∈ fp, S k) → Rep w' S [] (.k true (.s false 1 (bs.map byteRow)) v) []
theorem bytes_l {w : World} {S : Nat → Prop} {g : Nat} {cur : Array Value} {T : TypeId} {z : Nat × Nat} (hg : w.heap[g]? = some (.cells cur T z)) : ∀ (bs : List UInt8) (off : Nat), (∀ (j : Nat) (x : UInt8), bs[j]? = some x → cur[off + j]? = some (.int .u8 x.toNat)) →
  Rep w S [] (.l true (bs.map byteRow).flatten g off) []
 | [], _, _ => .lnil
 | x :: bs, off, h => by
  show Rep w S [] (.l true (C.v (.int .u8 x.toNat) :: (bs.map byteRow).flatten) g off) ([] ++ [])
  refine .lcons (v := .int .u8 x.toNat) ?_ (.v ?_) (bytes_l hg bs (off + 1) fun j y hj => ?_)
  · simp only [World.cell?, hg]; exact h 0 x rfl
  · have := x.toNat_lt
    show (decide (0 ≤ (x.toNat : Int)) && decide ((x.toNat : Int) ≤ 255)) = true
    rw [Bool.and_eq_true, decide_eq_true_eq, decide_eq_true_eq]; omega
  · rw [show off + 1 + j = off + (j + 1) by omega]; exact h (j + 1) y (by simpa using hj)
theorem str_raw {w : World} {b : Nat} {p v : Value} {bs : List UInt8} {fp : List Nat} (h : BdAt w b p v bs fp) :
  Calls Try.prog 35 #[.pointer (some ⟨b, 0, none⟩)] w fun e w' => e = .returned (.string ⟨bs.toArray⟩) ∧ StrLeft w w' b p v bs fp := by
 have mixed : Try.prog.follows .mixedOrders = true := by kernel_rfl
 have t69 := Try.underlying69; have a69 := Try.isAgg69; have z69 := Try.sizeOf69; have v69 := Try.zeroValue69; have u69 := run_underlying Try.underlying69
 have t67 := Try.underlying67; have a67 := Try.isAgg67; have z67 := Try.sizeOf67; have v67 := Try.zeroValue67; have u67 := run_underlying Try.underlying67
 have t5 := Try.underlying5; have a5 := Try.isAgg5; have z5 := Try.sizeOf5; have v5 := Try.zeroValue5; have u5 := run_underlying Try.underlying5
 have t35 := Try.underlying35; have a35 := Try.isAgg35; have z35 := Try.sizeOf35; have v35 := Try.zeroValue35; have u35 := run_underlying Try.underlying35
 have t101 := Try.underlying101; have a101 := Try.isAgg101; have z101 := Try.sizeOf101; have v101 := Try.zeroValue101; have u101 := run_underlying Try.underlying101
 have t9 := Try.underlying9; have a9 := Try.isAgg9; have z9 := Try.sizeOf9; have v9 := Try.zeroValue9; have u9 := run_underlying Try.underlying9
 have t3 := Try.underlying3; have a3 := Try.isAgg3; have z3 := Try.sizeOf3; have v3 := Try.zeroValue3; have u3 := run_underlying Try.underlying3
 obtain ⟨hb, hp, hr, ho⟩ := h
 cases hr with
 | un =>
  have hUS := fun (W : World) (q : Option Addr) => Lib.run_unsafeString_none (P := Try.prog) W 101 3 9 q
  have c1 : w.drew.cell? ⟨b, 1, none⟩ = some (.slice none 0 0) := by
   have : w.drew.heap[b]? = some (.cells #[p, .slice none 0 0] 69 (0, 0)) := hb
   simp [World.cell?, this]
  have hSD : (Builtin.unsafeSliceData_ #[35] 101 #[.slice none 0 0]).run Try.prog w.drew = .ok (.pointer none) w.drew := rfl
  go_enter Try.func35, Try.ntmps35
  go_wp2
  go_region_o
  all_goals (go_wp2; go_ret; exact ⟨rfl, rfl, rfl, ⟨rfl, Nat.le_succ _⟩, Nat.le_refl _, fun _ _ _ => rfl, fun S _ => .nilI⟩)
 | uo h0 hg hc hm hz ht =>
  rename_i g cap cur
  have hcells : ∀ (j : Nat) (x : UInt8), bs[j]? = some x → cur[j]? = some (.int .u8 x.toNat) := by
   intro j x hj
   have hjl := lt_len hj
   have h1 : (cur.toList.take bs.length)[j]? = some (.int .u8 x.toNat) := by rw [ht]; simp [hj]
   rw [List.getElem?_take, if_pos hjl] at h1
   simpa using h1
  have hlen : (bs.map byteRow).length = bs.length := by simp
  by_cases hb0 : bs = []
  · subst hb0
    have hUS := fun (W : World) (q : Option Addr) => Lib.run_unsafeString_none (P := Try.prog) W 101 3 9 q
    have c1 : w.drew.cell? ⟨b, 1, none⟩ = some (.slice (some ⟨g, 0, none⟩) 0 cap) := by
     have : w.drew.heap[b]? = some (.cells #[p, .slice (some ⟨g, 0, none⟩) 0 cap] 69 (0, 0)) := hb
     simp [World.cell?, this]
    have hSD : (Builtin.unsafeSliceData_ #[35] 101 #[.slice (some ⟨g, 0, none⟩) 0 cap]).run Try.prog w.drew = .ok (.pointer (some ⟨g, 0, none⟩)) w.drew := Lib.run_unsafeSliceData_row _ _ _ _ _ _ (by omega)
    clear hz hm hc h0 ht hcells
    go_enter Try.func35, Try.ntmps35
    go_wp2
    go_region_o
    all_goals (go_wp2; go_ret; exact ⟨rfl, rfl, rfl, ⟨rfl, Nat.le_succ _⟩, Nat.le_refl _, fun _ _ _ => rfl, fun S _ => .nilI⟩)
  · have hl0 : bs.length ≠ 0 := by simpa using hb0
    have c1 : w.drew.cell? ⟨b, 1, none⟩ = some (.slice (some ⟨g, 0, none⟩) bs.length cap) := by
     have : w.drew.heap[b]? = some (.cells #[p, .slice (some ⟨g, 0, none⟩) bs.length cap] 69 (0, 0)) := hb
     simp [World.cell?, this]
    have hSD : (Builtin.unsafeSliceData_ #[35] 101 #[.slice (some ⟨g, 0, none⟩) bs.length cap]).run Try.prog w.drew = .ok (.pointer (some ⟨g, 0, none⟩)) w.drew := Lib.run_unsafeSliceData_row _ _ _ _ _ _ (by omega)
    have hUS : (Builtin.unsafeString_ #[101, 3] 9 #[.pointer (some ⟨g, 0, none⟩), .int .i64 bs.length]).run Try.prog w.drew = .ok (.string ⟨bs.toArray⟩) (w.drew.freeze ⟨g, 0, none⟩ bs.length) := by
     refine Lib.run_unsafeString_row w.drew 101 3 9 5 Try.underlying101 (by kernel_rfl) g cur.size (by have hg' : w.drew.heap[g]? = some (.cells cur 5 (0, 0)) := hg; simp [World.shape?, hg']) bs hb0 (by omega) (by omega) ?_
     intro j x hx
     have hg' : w.drew.heap[g]? = some (.cells cur 5 (0, 0)) := hg
     rw [addr_add, Nat.zero_add]
     simp only [World.cell?, hg']
     exact hcells j x hx
    have hlt : g < w.heap.size := lt_of_heap hg
    have hfin : StrLeft w (w.drew.freeze ⟨g, 0, none⟩ bs.length) b p (.slice (some ⟨g, 0, none⟩) bs.length cap) bs [g] := by
     have hk : ∀ k, k ≠ g → (w.drew.freeze ⟨g, 0, none⟩ bs.length).heap[k]? = w.heap[k]? := by
      intro k hk
      simp only [World.freeze, if_neg hl0]
      show (w.heap.modify g _)[k]? = _
      rw [Array.getElem?_modify, if_neg (fun e => hk e.symm)]
     have hfz : ∃ z, (w.drew.freeze ⟨g, 0, none⟩ bs.length).heap[g]? = some (.cells cur 5 z) := by
      simp only [World.freeze, if_neg hl0]
      have h' : w.heap[g] = .cells cur 5 (0, 0) := by simpa [Array.getElem?_eq_getElem hlt] using hg
      refine ⟨(0, 0 + bs.length), ?_⟩
      show (w.heap.modify g _)[g]? = _
      rw [Array.getElem?_eq_getElem (by simpa using hlt), Array.getElem_modify_self, h']
      rfl
     obtain ⟨z, hfz⟩ := hfz
     refine ⟨?_, ?_, ⟨?_, ?_⟩, ?_, fun k _ hkf => hk k (by simpa using hkf), fun S hS => ?_⟩
     · simp only [World.freeze, if_neg hl0]; rfl
     · simp only [World.freeze, if_neg hl0]; rfl
     · simp only [World.freeze, if_neg hl0]; rfl
     · simp only [World.freeze, if_neg hl0]; exact Nat.le_succ _
     · simp only [World.freeze, if_neg hl0]
       show w.heap.size ≤ (w.heap.modify g _).size
       simp
     · have key := Rep.imm (S := S) (E := []) (dat := true) (es := 1) (rows := bs.map byteRow) (cap := cap) (off := 0) (hS g (by simp)) (by rw [hlen]; exact hc) (fun r hr => by obtain ⟨x, _, rfl⟩ := List.mem_map.1 hr; rfl)
        (bytes_l hfz bs 0 fun j x hj => by rw [Nat.zero_add]; exact hcells j x hj)
       rw [hlen] at key
       exact key
    clear hz hm hc h0 ht hcells hg
    go_enter Try.func35, Try.ntmps35
    go_wp2
    go_region_o
    all_goals (go_wp2; go_ret; exact ⟨rfl, hfin⟩)
end Go.Dl

namespace Go.Dl
open Go.RowKit Go.Proofs
set_option linter.unusedSimpArgs false
set_option linter.unusedVariables false
/-- A builder. -/
def bdO (bs : List UInt8) : Obj := ⟨2, [[.b 69, .u 5 bs]]⟩
theorem u_any {w : World} {S S' : Nat → Prop} {E E' : Env} {d d' : Bool} {e : TypeId} {l : List UInt8} {v : Value} {fp : List Nat} (h : Rep w S E (.k d (.u e l) v) fp) : Rep w S' E' (.k d' (.u e l) v) fp := by
 cases h with
 | un => exact .un
 | uo h0 hg hc hm hz ht => exact .uo h0 hg hc hm hz ht
theorem u_nodup {w : World} {S : Nat → Prop} {E : Env} {d : Bool} {e : TypeId} {l : List UInt8} {v : Value} {fp : List Nat} (h : Rep w S E (.k d (.u e l) v) fp) : fp.Nodup := by
 cases h <;> simp
theorem u_lt {w : World} {S : Nat → Prop} {E : Env} {d : Bool} {e : TypeId} {l : List UInt8} {v : Value} {fp : List Nat} (h : Rep w S E (.k d (.u e l) v) fp) : ∀ k ∈ fp, k < w.heap.size := by
 cases h with
 | un => intro k hk; cases hk
 | uo h0 hg hc hm hz ht => intro k hk; rw [List.mem_singleton] at hk; subst hk; exact lt_of_heap hg
/-- A builder that is handed on. -/
theorem bd_open {w : World} {S : Nat → Prop} {bs : List UInt8} {pls : List Pl} {fps : List (List Nat)} {d0 : Value} (ho : ObjsAt w S [bdO bs] pls fps) (hn : fps.flatten.Nodup) (hd : RepD w S (pls.map some) (.c (.p 0 0 0)) d0) :
  ∃ b m p v fp, pls = [⟨some (b, 0), 2, 1, m⟩] ∧ fps = [b :: fp] ∧ d0 = .pointer (some ⟨b, 0, none⟩) ∧ m * 2 ≤ 2 ∧ 1 ≤ m ∧ BdAt w b p v bs fp := by
 obtain ⟨o1, o2, o3⟩ := ho
 obtain ⟨pl, f, h1, h2, g1, g2, g3, g4, g5⟩ := o3 0 _ rfl
 have hp1 : pls = [pl] := by
  cases pls with
  | nil => cases h1
  | cons a t =>
   have ht : t = [] := List.eq_nil_of_length_eq_zero (by simpa using o1)
   subst ht
   cases h1; rfl
 have hf1 : fps = [f] := by
  cases fps with
  | nil => cases h2
  | cons a t =>
   have ht : t = [] := List.eq_nil_of_length_eq_zero (by simpa using o2)
   subst ht
   cases h2; rfl
 subst hp1 hf1
 cases hat : pl.at? with
 | none => rw [hat] at g5; cases g5.1
 | some bo =>
  obtain ⟨b, off⟩ := bo
  rw [hat] at g5
  obtain ⟨fr, rfl, ⟨arr0, el0, z0, k1, k2, k3⟩, hrep⟩ := g5
  have hrep : Rep w S [] (.l true [.b 69, .u 5 bs] b off) fr := hrep
  cases hrep with
  | lcons _ h _ => cases h
  | lb hv hz h0 hb hr =>
   rename_i p arr
   cases hr with
   | lcons hv1 hc1 hr1 =>
    rename_i v f1 f2
    cases hr1
    rw [hv] at k1; cases k1
    obtain ⟨pat, pes, pn, pm⟩ := pl
    simp only at hat g1 g2 g3 k2
    subst hat
    have hes : pes = 2 := g1
    have hn1 : pn = 1 := g2
    subst hes hn1
    have k2' : pm * 2 ≤ 2 := by
     have : 0 + pm * 2 ≤ arr0.size := k2
     omega
    have harr : arr0 = #[p, v] := by
     have h1 : arr0[1]? = some v := by simpa [World.cell?, hv] using hv1
     apply Array.ext_getElem?
     intro i
     match i with
     | 0 => simpa using h0
     | 1 => simpa using h1
     | n + 2 => rw [Array.getElem?_eq_none (by omega), Array.getElem?_eq_none (by simp)]
    subst harr
    rw [List.append_nil] at hn ⊢
    have hn' : (b :: f1).Nodup := by simpa using hn
    refine ⟨b, pm, p, v, f1, rfl, rfl, ?_, k2', g3, hv, hb, u_any hc1, (List.nodup_cons.1 hn').1⟩
    cases hd with
    | c h => cases h with
     | p hr hh =>
      obtain ⟨b', off', e1, rfl⟩ := hh _ rfl
      cases e1
      simp
theorem bd_meets {k : FuncId} {ι : Type} {pre : ι → Prop} {bs bs' : ι → List UInt8} {rest : ι → List Value} {res : ι → Value} {resD : ι → D} (hres : ∀ x, pre x → ∀ w S, RepO w S (resD x) (res x) [])
  (raw : ∀ x, pre x → ∀ w b p v fp, BdAt w b p v (bs x) fp → (∀ k ∈ fp, k < w.heap.size) → Calls Try.prog k (.pointer (some ⟨b, 0, none⟩) :: rest x).toArray w fun e w' => e = .returned (res x) ∧
   ∃ v' fp', BdAt w' b (.pointer (some ⟨b, 0, none⟩)) v' (bs' x) fp' ∧ UFrame w w' (b :: fp) fp') :
  Meets Try.prog k (detS (famO pre (fun x => (.c (.p 0 0 0) :: (rest x).map fun v => .c (.v v), [bdO (bs x)])) (fun x => (resD x, [bdO (bs' x)])))) := by
 rintro args objs Q ⟨d, os, hd, hQ⟩ w S vs pls fps hlen hargs hobjs hnd hfs hS
 obtain ⟨x, h1, h2, h3⟩ := famO_inv hd
 cases h2
 cases h3
 obtain ⟨b, m, p, v, fp, rfl, rfl, hptr, hm2, hm1, hbd⟩ := bd_open hobjs hnd (hargs 0 _ rfl)
 have hvs : vs = (.pointer (some ⟨b, 0, none⟩) :: rest x).toArray := by
  apply Array.ext_getElem?
  intro i
  have hvl : vs.size = (rest x).length + 1 := by simpa using hlen.symm
  by_cases hi : i < vs.size
  · cases i with
    | zero =>
     rw [Array.getElem?_eq_getElem hi]
     have : vs.getD 0 undef = vs[0] := by simp [Array.getD, hi]
     rw [← this, hptr]; rfl
    | succ i =>
     have hil : i < (rest x).length := by omega
     have := hargs (i + 1) (.c (.v ((rest x)[i]))) (by simp [hil])
     obtain ⟨h, _⟩ := v_inv this
     rw [Array.getElem?_eq_getElem hi]
     have h' : vs.getD (i + 1) undef = vs[i + 1] := by simp [Array.getD, hi]
     rw [← h', h]
     simp [hil]
  · rw [Array.getElem?_eq_none (by omega), Array.getElem?_eq_none (by simp; omega)]
 subst hvs
 have hflt : ∀ k ∈ fp, k < w.heap.size := fun k hk => (hfs k (by simp [hk])).2
 refine (raw x h1 w b p v fp hbd hflt).mono ?_
 rintro e w' ⟨rfl, v', fp', hbd', hfr⟩
 obtain ⟨q1, q2, q3, q4⟩ := hbd'
 refine ⟨_, _, _, rfl, hQ, rfl, { size := hfr.size, keep := fun k hk hkf => hfr.keep k hk (by simpa using hkf), os := hfr.os, tape := hfr.tape, output := hfr.out, rest := ⟨S, [⟨some (b, 0), 2, 1, m⟩], [b :: fp'], [], fun _ h => h, fun k hk => ⟨Nat.lt_of_lt_of_le (hS k hk) hfr.size, .inl hk⟩, hres x h1 w' S, ⟨rfl, rfl, ?_⟩, ?_, ?_, ?_⟩ }⟩
 · intro i ob hob
   cases i with
   | succ i => cases hob
   | zero =>
    cases hob
    refine ⟨_, _, rfl, rfl, rfl, rfl, hm1, by simp [bdO], fp', rfl, ⟨_, _, _, q1, (by show 0 + m * 2 ≤ 2; omega), fun o ho => by simp [World.frozen?, q1]⟩, ?_⟩
    have h0 : Rep w' S [] (.l true [] b 2) [] := .lnil
    have h1 : Rep w' S [] (.l true [.u 5 (bs' x)] b 1) (fp' ++ []) := .lcons (by simp [World.cell?, q1]) (u_any q3) h0
    have h2 : Rep w' S [] (.l true [.b 69, .u 5 (bs' x)] b 0) (fp' ++ []) := .lb q1 rfl rfl q2 h1
    rw [List.append_nil] at h2
    exact h2
 · simp only [List.flatten_cons, List.flatten_nil, Z15, Z12]
   exact List.nodup_cons.2 ⟨q4, u_nodup q3⟩
 · intro k hk
   simp only [List.flatten_cons, List.flatten_nil, Z15, Z12] at hk ⊢
   rcases List.mem_cons.1 hk with rfl | hk
   · exact ⟨(hfs k (by simp)).1, Nat.lt_of_lt_of_le (hfs k (by simp)).2 hfr.size, .inl (by simp)⟩
   · obtain ⟨k1, k2⟩ := hfr.new k hk
     rcases k1 with k1 | k1
     · exact ⟨(hfs k (by simpa using k1)).1, k2, .inl k1⟩
     · exact ⟨fun h => absurd (hS k h) (by omega), k2, .inr k1⟩
 · intro i p p' hp hp'
   rw [hp] at hp'; cases hp'; exact p.le_refl
noncomputable def oWB := famO (fun x : List UInt8 × UInt8 => x.1.length + 1 ≤ 140737488355328) (fun x => ([.c (.p 0 0 0), .c (.v (.int .u8 x.2.toNat))], [bdO x.1])) (fun x => (.c (.v .nilIface), [bdO (x.1 ++ [x.2])]))
noncomputable def oWS := famO (fun x : List UInt8 × ByteArray => x.1.length + x.2.size ≤ 140737488355328) (fun x => ([.c (.p 0 0 0), .c (.v (.string x.2))], [bdO x.1])) (fun x => (.t [.c (.v (.int .i64 x.2.size)), .c (.v .nilIface)], [bdO (x.1 ++ x.2.data.toList)]))
theorem meets32 : Meets Try.prog 32 (detS oWB) :=
 bd_meets (rest := fun x : List UInt8 × UInt8 => [.int .u8 x.2.toNat]) (res := fun _ => .nilIface) (fun x _ w S => .v trivial) fun x hx w b p v fp h hl => wb_raw h x.2 hx hl
theorem meets34 : Meets Try.prog 34 (detS oWS) :=
 bd_meets (rest := fun x : List UInt8 × ByteArray => [.string x.2]) (res := fun x => .tuple #[.int .i64 x.2.size, .nilIface]) (fun x hx w S => ⟨_, [[], []], rfl, rfl, rfl, rfl, fun i d f h1 h2 => by
  match i with
  | 0 =>
   cases h1; cases h2
   refine .v ?_
   show (decide (-9223372036854775808 ≤ (x.2.size : Int)) && decide ((x.2.size : Int) ≤ 9223372036854775807)) = true
   rw [Bool.and_eq_true, decide_eq_true_eq, decide_eq_true_eq]
   have : x.1.length + x.2.size ≤ 140737488355328 := hx
   omega
  | 1 => cases h1; cases h2; exact .v trivial
  | n + 2 => cases h1⟩) fun x hx w b p v fp h hl => ws_raw h x.2 hx hl
theorem wb_at (bs : List UInt8) (x : UInt8) (h : bs.length + 1 ≤ 140737488355328) : oWB [.c (.p 0 0 0), .c (.v (.int .u8 x.toNat))] [⟨2, [[.b 69, .u 5 bs]]⟩] = some (.c (.v .nilIface), [⟨2, [[.b 69, .u 5 (bs ++ [x])]]⟩]) :=
 famO_at (by
  rintro ⟨a, b⟩ ⟨c, d⟩ h
  simp only [bdO, Prod.mk.injEq, List.cons.injEq, D.c.injEq, C.v.injEq, Value.int.injEq, Obj.mk.injEq, C.u.injEq, true_and, and_true] at h
  obtain ⟨h1, rfl⟩ := h
  have : b = d := by apply UInt8.toNat_inj.1; omega
  subst this; rfl) (bs, x) h rfl
theorem ws_at (bs : List UInt8) (s : ByteArray) (h : bs.length + s.size ≤ 140737488355328) : oWS [.c (.p 0 0 0), .c (.v (.string s))] [⟨2, [[.b 69, .u 5 bs]]⟩] = some (.t [.c (.v (.int .i64 s.size)), .c (.v .nilIface)], [⟨2, [[.b 69, .u 5 (bs ++ s.data.toList)]]⟩]) :=
 famO_at (by
  rintro ⟨a, b⟩ ⟨c, d⟩ h
  simp only [bdO, Prod.mk.injEq, List.cons.injEq, D.c.injEq, C.v.injEq, Value.string.injEq, Obj.mk.injEq, C.u.injEq, true_and, and_true] at h
  obtain ⟨rfl, rfl⟩ := h
  rfl) (bs, s) h rfl
/-- A builder whose bytes a text shares. -/
def bdS (bs : List UInt8) : Obj := ⟨2, [[.b 69, .s false 1 (bs.map byteRow)]]⟩
noncomputable def oStr := famO (fun x : List UInt8 => x.length ≤ 9223372036854775807) (fun x => ([.c (.p 0 0 0)], [bdO x])) (fun x => (.c (.v (.string ⟨x.toArray⟩)), [bdS x]))
theorem meets35 : Meets Try.prog 35 (detS oStr) := by
 rintro args objs Q ⟨d, os, hd, hQ⟩ w S vs pls fps hlen hargs hobjs hnd hfs hS
 obtain ⟨bs, h1, h2, h3⟩ := famO_inv hd
 cases h2
 cases h3
 obtain ⟨b, m, p, v, fp, rfl, rfl, hptr, hm2, hm1, hbd⟩ := bd_open hobjs hnd (hargs 0 _ rfl)
 have hvs : vs = #[.pointer (some ⟨b, 0, none⟩)] := by
  have hvl : vs.size = 1 := by simpa using hlen.symm
  apply Array.ext_getElem?
  intro i
  cases i with
  | zero =>
   rw [Array.getElem?_eq_getElem (by omega)]
   have : vs.getD 0 undef = vs[0] := by simp [Array.getD, hvl]
   rw [← this, hptr]; rfl
  | succ i => rw [Array.getElem?_eq_none (by omega), Array.getElem?_eq_none (by simp)]
 subst hvs
 have hb0 := hbd.blk
 have hout := hbd.out
 have hpp := hbd.ptr
 have hulen := u_lt hbd.rep
 refine (str_raw hbd).mono ?_
 rintro e w' ⟨rfl, hl⟩
 have hb' : w'.heap[b]? = some (.cells #[p, v] 69 (0, 0)) := by rw [hl.keep b (lt_of_heap hb0) hout]; exact hb0
 refine ⟨_, _, _, rfl, hQ, rfl, { size := hl.size, keep := fun k hk hkf => hl.keep k hk (fun h => hkf (by simp [h])), os := hl.os, tape := hl.tape, output := hl.out, rest := ⟨fun k => S k ∨ k ∈ fp, [⟨some (b, 0), 2, 1, m⟩], [[b]], [], fun _ h => .inl h, fun k hk => ?_, .v h1, ⟨rfl, rfl, ?_⟩, by simp, ?_, ?_⟩ }⟩
 · rcases hk with hk | hk
   · exact ⟨Nat.lt_of_lt_of_le (hS k hk) hl.size, .inl hk⟩
   · exact ⟨Nat.lt_of_lt_of_le (hulen k hk) hl.size, .inr (.inl (by simp [hk]))⟩
 · intro i ob hob
   cases i with
   | succ i => cases hob
   | zero =>
    cases hob
    refine ⟨_, _, rfl, rfl, rfl, rfl, hm1, by simp [bdS], [], rfl, ⟨_, _, _, hb', (by show 0 + m * 2 ≤ 2; omega), fun o ho => by simp [World.frozen?, hb']⟩, ?_⟩
    have h0 : Rep w' (fun k => S k ∨ k ∈ fp) [] (.l true [] b 2) [] := .lnil
    have h1 : Rep w' (fun k => S k ∨ k ∈ fp) [] (.l true [.s false 1 (bs.map byteRow)] b 1) ([] ++ []) := .lcons (by simp [World.cell?, hb']) (hl.rep _ fun k hk => .inr hk) h0
    exact Rep.lb hb' rfl rfl hpp h1
 · intro k hk
   simp only [List.flatten_cons, List.flatten_nil, Z15, Z12, List.mem_singleton] at hk ⊢
   subst hk
   refine ⟨?_, Nat.lt_of_lt_of_le (hfs k (by simp)).2 hl.size, .inl (by simp)⟩
   rintro (h | h)
   · exact (hfs k (by simp)).1 h
   · exact hout h
 · intro i p p' hp hp'
   rw [hp] at hp'; cases hp'; exact p.le_refl
theorem str_at (bs : List UInt8) (h : bs.length ≤ 9223372036854775807) : oStr [.c (.p 0 0 0)] [⟨2, [[.b 69, .u 5 bs]]⟩] = some (.c (.v (.string ⟨bs.toArray⟩)), [⟨2, [[.b 69, .s false 1 (bs.map byteRow)]]⟩]) :=
 famO_at (by
  rintro a c h
  simp only [bdO, Prod.mk.injEq, List.cons.injEq, Obj.mk.injEq, C.u.injEq, true_and, and_true] at h
  subst h; rfl) bs h rfl
end Go.Dl

namespace Go.Dl
open Go.RowKit
open Go.Proofs
set_option linter.unusedSimpArgs false
set_option linter.unusedVariables false
def isPlain (c : Int) : Bool := decide (32 ≤ c) && decide (c < 127) && !decide (c = 34) && !decide (c = 92)
theorem meets33 : Meets Try.prog 33 (pureS (pU8 isPlain)) := by
 refine meets_of_tri (show Try.prog.funcs[33]? = some Try.f33 by kernel_rfl) rfl (n := 17) rfl (rs := [ResultVar.tmp 2]) rfl ?_
 rintro args objs Q ⟨rfl, d, hd, hQ⟩
 unfold pU8 at hd
 split at hd
 · rename_i c
   cases hd
   refine Y3 ok0 rfl (by repeat first | with_reducible exact Y2 | refine Y1 (by simp only [Y5, Y4, Y6, qev, St.ev, St.put, Y8, Y7, List.replicate, Nat.reduceSub, ZA]; rfl) ?_) ?_
   by_cases a0 : (32 ≤ c)
   ·
    by_cases a1 : (c < 127)
    ·
     by_cases a2 : (c = 34)
     ·
      refine Y3 ok0 rfl (by repeat first | with_reducible exact Y2 | refine Y1 (by simp only [Y5, Y4, Y6, qev, St.ev, St.put, qpick, qint, Yc, isEq, qeq, Ya, qbin, Y8, Y7, if_true, if_false, decide_true, Bool.not_true, cond_true, cond_false, eq_true a0, eq_true a1, eq_true a2, ZA]; rfl) ?_) ?_
      refine Yo (Yp (by simp only [outRes, Yi, resD, outD, outC, C.dat, if_true, ZA]; rfl) rfl (by simp) (by simp) ?_)
      (simp only [decide_true, Bool.and_true, Bool.false_and, Bool.and_false, Bool.not_true, isPlain, eq_true a0, eq_true a1, eq_true a2] at hQ; exact hQ)
     ·
      refine Y3 ok0 rfl (by repeat first | with_reducible exact Y2 | refine Y1 (by simp only [Y5, Y4, Y6, qev, St.ev, St.put, qpick, qint, Yc, Ya, qbin, Y8, Y7, if_true, if_false, decide_true, decide_false, Bool.not_false, cond_true, eq_true a0, eq_true a1, eq_false a2, ZA]; rfl) ?_) ?_
      refine Yo (Yp (by simp only [outRes, Yi, resD, outD, outC, C.dat, if_true, ZA]; rfl) rfl (by simp) (by simp) ?_)
      (simp only [decide_true, decide_false, Bool.and_true, Bool.true_and, Bool.not_false, isPlain, eq_true a0, eq_true a1, eq_false a2] at hQ; exact hQ)
    ·
     refine Y3 ok0 rfl (by repeat first | with_reducible exact Y2 | refine Y1 (by simp only [Y5, Y4, Y6, qev, St.ev, St.put, qpick, qint, Yc, isEq, qeq, Ya, qbin, Y8, Y7, if_true, if_false, decide_true, decide_false, cond_true, cond_false, eq_true a0, eq_false a1, ZA]; rfl) ?_) ?_
     refine Yo (Yp (by simp only [outRes, Yi, resD, outD, outC, C.dat, if_true, ZA]; rfl) rfl (by simp) (by simp) ?_)
     (simp only [decide_true, decide_false, Bool.false_and, Bool.and_false, isPlain, eq_true a0, eq_false a1] at hQ; exact hQ)
   ·
    refine Y3 ok0 rfl (by repeat first | with_reducible exact Y2 | refine Y1 (by simp only [Y5, Y4, Y6, qev, St.ev, St.put, qpick, qint, Yc, isEq, qeq, Ya, qbin, Y8, Y7, if_true, if_false, decide_false, cond_false, eq_false a0, ZA]; rfl) ?_) ?_
    refine Yo (Yp (by simp only [outRes, Yi, resD, outD, outC, C.dat, if_true, ZA]; rfl) rfl (by simp) (by simp) ?_)
    (simp only [decide_false, Bool.false_and, isPlain, eq_false a0] at hQ; exact hQ)
 · cases hd
def hexT : ByteArray := ⟨#[48, 49, 50, 51, 52, 53, 54, 55, 56, 57, 97, 98, 99, 100, 101, 102]⟩
def escV (a b : Int) : Int := IntKind.u8.wrap (IntKind.i64.wrap ((BitVec.ofInt IntKind.i64.bits (IntKind.i64.wrap (a * 2 ^ min 4 IntKind.i64.bits)) ||| BitVec.ofInt IntKind.i64.bits b).toNat))
def escF (s : ByteArray) : Int × Bool := if (s.size : Int) < 2 then (0, false)
 else (escV (idxB hexT (s.data.toList.getD 0 0).toNat) (idxB hexT (s.data.toList.getD 1 0).toNat), decide (0 ≤ idxB hexT (s.data.toList.getD 0 0).toNat) && decide (0 ≤ idxB hexT (s.data.toList.getD 1 0).toNat))
noncomputable def pEsc : List D → Option D := famP (fun s : ByteArray => s.size ≤ 1000000) (fun s => [.c (.v (.string s))]) (fun s => .t [.c (.v (.int .u8 (escF s).1)), dB (escF s).2])
theorem idx_at (s : ByteArray) (c : Int) (h : s.size ≤ 1000000) : pIdxB [.c (.v (.string s)), .c (.v (.int .u8 c))] = some (dI (idxB s c)) := if_pos h
theorem meets72 : Meets Try.prog 72 (pureS pEsc) := by
 refine Yn (show Try.prog.funcs[72]? = some Try.f72 by kernel_rfl) rfl (n := 26) rfl (rs := [ResultVar.tmp 2, ResultVar.tmp 3]) rfl ?_
 rintro s hs Q hQ
 have hx : ∀ c, pIdxB [.c (.v (.string ⟨#[48, 49, 50, 51, 52, 53, 54, 55, 56, 57, 97, 98, 99, 100, 101, 102]⟩)), .c (.v (.int .u8 c))] = some (dI (idxB hexT c)) := fun c => idx_at _ c (by decide)
 refine Y3 okL5 rfl (by repeat first | with_reducible exact Y2 | refine Y1 (by simp only [Y5, Y4, Y6, qev, St.ev, St.put, Y8, Y7, List.replicate, Nat.reduceSub, ZA]; rfl) ?_) ?_
 refine seq_in ?_
 refine Y3 okL5 rfl (by repeat first | with_reducible exact Y2 | refine Y1 (by simp only [Y5, Y4, Y6, qev, St.ev, St.put, qint, Yc, Ya, qbin, qlen, qbuiltin, Y8, Y7, if_true, if_false, tk9, ZA]; rfl) ?_) ?_
 refine Yf rfl (fun a0 => ?_) (fun a0 => ?_)
 ·
  simp only [decide_eq_true_eq] at a0
  refine Y3 okL5 rfl (by repeat first | with_reducible exact Y2 | refine Y1 (by simp only [Y5, Y4, Y6, qev, St.ev, St.put, Y8, Y7, decide_true, a0, ZA]; rfl) ?_) ?_
  refine Yo (Yp (by simp only [outRes, Yi, resD, Yh, outD, outC, C.dat, if_true, ZA]; rfl) rfl (by simp) (by simp) ?_)
  (simp only [reduceIte, ↓reduceIte, escF, a0] at hQ; exact hQ)
 ·
  simp only [decide_eq_false_iff_not] at a0
  refine Ye ?_
  refine Yj mixed okL5 rfl (by kernel_rfl) ?_
  refine ⟨_, (by repeat first | with_reducible exact Y2 | refine Y1 (by simp only [Y5, Y4, Y6, evsA, qev, St.ev, St.put, St.with, D.int, C.cpy, qindex, C.cp, C.dat, Y8, Y7, Nat.reduceEqDiff, if_true, if_false, decide_false, Int.reduceLE, Int.reduceToNat, Bool.or_true, callP, Yg, argD, argC, D.ni, D.ni1, C.ni, settle, settle1, settleC, dI, FsL5, hx, tk9, a0, show (0 < (↑s.size : Int)) = True from eq_true (by omega), show (1 < (↑s.size : Int)) = True from eq_true (by omega), ZA]; rfl) ?_), ?_⟩
  by_cases a1 : (0 ≤ idxB hexT (↑(s.data.toList.getD 0 0).toNat : Int))
  ·
   refine Y3 okL5 rfl (by repeat first | with_reducible exact Y2 | refine Y1 (by simp only [Y5, Y4, Y6, qev, St.ev, St.put, qpick, qint, Yc, Ya, qbin, qconv, Y8, Y7, if_true, if_false, decide_true, cond_true, reduceCtorEq, Int.reduceLT, Int.reduceToNat, tk5, tk3, eq_true a1, ZA]; rfl) ?_) ?_
   refine Yo (Yp (by simp only [outRes, Yi, resD, Yh, outD, outC, C.dat, if_true, ZA]; rfl) rfl (by simp) (by simp) ?_)
   (simp only [decide_true, Bool.true_and, reduceIte, ↓reduceIte, escF, escV, a0, eq_true a1] at hQ; exact hQ)
  ·
   refine Y3 okL5 rfl (by repeat first | with_reducible exact Y2 | refine Y1 (by simp only [Y5, Y4, Y6, qev, St.ev, St.put, qpick, qint, Yc, isEq, Ya, qbin, qconv, Y8, Y7, if_true, if_false, decide_false, cond_false, reduceCtorEq, Int.reduceLT, Int.reduceToNat, tk5, tk3, eq_false a1, ZA]; rfl) ?_) ?_
   refine Yo (Yp (by simp only [outRes, Yi, resD, Yh, outD, outC, C.dat, if_true, ZA]; rfl) rfl (by simp) (by simp) ?_)
   (simp only [decide_false, Bool.false_and, reduceIte, ↓reduceIte, escF, escV, a0, eq_false a1] at hQ; exact hQ)
end Go.Dl
