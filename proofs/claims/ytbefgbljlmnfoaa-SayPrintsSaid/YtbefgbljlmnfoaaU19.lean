/- The walk of the reference's Print; Plain law: the reference prints a step as the program does; The walk of SayPrints; What a given step reads as. -/
import Derived.Test.YtbefgbljlmnfoaaU18
set_option linter.all false
namespace Go.Dl
open Go.RowKit
open Go.Proofs
set_option linter.unusedSimpArgs false
set_option linter.unusedVariables false
/-- A step as a script says it, for the reference. -/
def printR (a : ActM) : ByteArray := if strEq (wordR a.kind) ⟨#[]⟩ = true then ⟨#[]⟩ else ((argsK a.kind).map (argB a)).foldl (fun s p => s ++ ⟨#[32]⟩ ++ p) (wordR a.kind) ++ ⟨#[59]⟩
noncomputable def FsJh : Fs := { Fs.none with pure := fun k => if k = 15 then some pQuoted else if k = 38 then some pWhole else if k = 48 then some pWordR else if k = 49 then some pPaperB else if k = 50 then some pCountB else if k = 51 then some pList else none }
theorem okJh : FsOK Try.prog FsJh := by
 refine ⟨fun k f h => ?_, fun _ _ h => (by cases h)⟩
 simp only [FsJh] at h
 split at h
 · rename_i hk; subst hk; cases h; exact ⟨by kernel_rfl, meets15⟩
 split at h
 · rename_i hk; subst hk; cases h; exact ⟨by kernel_rfl, meets38⟩
 split at h
 · rename_i hk; subst hk; cases h; exact ⟨by kernel_rfl, meets48⟩
 split at h
 · rename_i hk; subst hk; cases h; exact ⟨by kernel_rfl, meets49⟩
 split at h
 · rename_i hk; subst hk; cases h; exact ⟨by kernel_rfl, meets50⟩
 split at h
 · rename_i hk; subst hk; cases h; exact ⟨by kernel_rfl, meets51⟩
 · cases h
noncomputable def pPrintR : List D → Option D := famP (fun a : ActM => actPre a ∧ inR .i64 a.kind = true) (fun a => [.agg (actC false a)]) (fun a => .c (.v (.string (printR a))))
theorem printR_at (a : ActM) (h : actPre a) (h2 : inR .i64 a.kind = true) : pPrintR [.agg (actC false a)] = some (.c (.v (.string (printR a)))) := Ym (fun x y h => by
 simp only [List.cons.injEq, D.agg.injEq, and_true] at h
 rw [actC_inj0 h]) a ⟨h, h2⟩ rfl
theorem wordR_size (k : Int) : (wordR k).size ≤ 10 := by
 unfold wordR
 split
 · exact Nat.zero_le _
 split
 · exact Nat.zero_le _
 · exact formB_size
set_option maxRecDepth 100000 in
set_option maxHeartbeats 8000000 in
theorem meets26 : Meets Try.prog 26 (pureS pPrintR) := by
 refine Yn (show Try.prog.funcs[26]? = some Try.f26 by kernel_rfl) rfl (n := 120) rfl (rs := [ResultVar.tmp 2]) rfl ?_
 rintro a ⟨hp, hk⟩ Q hQ
 have h1 := quoted_at a.id (by have := hp.id; omega)
 have h2 := quoted_at a.name (by have := hp.name; omega)
 have h3 := quoted_at a.draw (by have := hp.draw; omega)
 have h4 := list_at a.names hp.names
 have h5 := whole_at a.n hp.n
 have h6 := whole_at a.m hp.m
 have h7 := whole_at a.tear hp.tear
 obtain ⟨hk1, hk2⟩ := u64_rng hp.keep
 obtain ⟨kp, hkp⟩ : ∃ kp : Nat, a.keep = (kp : Int) := ⟨a.keep.toNat, by omega⟩
 have h8 := countB_at kp (by omega)
 rw [← hkp] at h8
 have h8b : decB kp = decB a.keep.toNat := by rw [hkp, Int.toNat_natCast]
 rw [h8b] at h8
 have h9 := paperA_at hp
 have hWd := wordR_at a.kind hk
 obtain ⟨e1, r1, hf1⟩ : ∃ es r, fldsC false a.flds = .s false es r := ⟨_, _, rfl⟩
 obtain ⟨e2, r2, hf2⟩ : ∃ es r, namesC false a.names = .s false es r := ⟨_, _, rfl⟩
 rw [hf1] at h9
 rw [hf2] at h4
 have z1 := quotedB_le a.id hp.id
 have z2 := quotedB_le a.name hp.name
 have z3 := quotedB_le a.draw hp.draw
 have z4 := namesB_size hp.names
 have z5 := wholeB_size a.n
 have z6 := wholeB_size a.m
 have z7 := wholeB_size a.tear
 have z8 := decB_size a.keep.toNat
 have z9 := paperB_size hp.pap
 have z10 := wordR_size a.kind
 have hms : maxStr = 9223372036854775807 := rfl
 have y1 : (⟨#[32]⟩ : ByteArray).size = 1 := rfl
 have y2 : (⟨#[59]⟩ : ByteArray).size = 1 := rfl
 unfold printR at hQ
 simp only [actC, hf1, hf2]
 generalize wordR a.kind = wd at hWd z10 hQ
 generalize hkk : a.kind = kd at hWd hQ
 have hWc : ∀ c, kd = c → pWordR [.c (.v (.int .i64 c))] = some (.c (.v (.string wd))) := by rintro c rfl; exact hWd
 refine Y3 okJh rfl (by repeat first | with_reducible exact Y2 | refine Y1 (by simp only [Y5, Y4, Y6, qev, St.ev, St.put, St.with, D.cells, boxA, C.st, Y8, Y7, List.replicate, Nat.reduceAdd, Nat.reduceSub, if_true, eq_self, ZA]; rfl) ?_) ?_
 refine Y3 okJh rfl (by repeat first | with_reducible exact Y2 | refine Y1 (by simp only [Y5, Y4, Y6, evsA, qev, St.ev, St.put, St.with, qload, Y9, qmk, C.cpy, TK.agg, Yb, liveR, C.cp, C.dat, Nat.reduceEqDiff, if_true, if_false, reduceCtorEq, Nat.add_zero, Bool.true_or, callP, Fs.none, Yg, argD, argC, settle, settle1, settleC, FsJh, hWc, eq_self, tk50, tsz3, tk3, ZA]; rfl) ?_) ?_
 refine Yj mixed okJh rfl (by kernel_rfl) ?_
 refine ⟨_, (by repeat first | with_reducible exact Y2 | refine Y1 (by simp only [Y5, Y4, Y6, evsA, qev, St.ev, St.put, St.with, qload, Y9, qmk, C.cpy, TK.agg, Yb, liveR, C.cp, C.dat, Nat.reduceEqDiff, if_true, if_false, reduceCtorEq, Bool.true_or, callP, Fs.none, Yg, argD, argC, settle, settle1, settleC, FsJh, eq_self, h5, h6, h7, tk50, tsz3, tk3, ZA]; rfl) ?_), ?_⟩
 refine seq_in ?_
 refine Y3 okJh rfl (by repeat first | with_reducible exact Y2 | refine Y1 (by simp only [Y5, Y4, Y6, qev, St.ev, St.put, qload, Y9, qmk, C.cpy, TK.agg, Yb, liveR, C.cp, if_true, if_false, reduceCtorEq, Nat.add_zero, eq_self, tk50, tsz3, tk3, ZA]; rfl) ?_) ?_
 refine tri_block ?_
 refine Y3 okJh rfl (by repeat first | with_reducible exact Y2 | refine Y1 (by simp only [Y5, Y4, Y6, qev, St.ev, St.put, qint, Yc, Ya, qbin, Y8, Y7, if_true, if_false, eq_self, ZA]; rfl) ?_) ?_
 refine Yf rfl (fun w0 => ?_) (fun w0 => ?_)
 ·
  simp only [decide_eq_true_eq] at w0
  refine any_endE mixed okJh rfl (by kernel_rfl) ?_
  refine ⟨_, (by repeat (first | with_reducible exact Y2 | refine Y1 (by simp only [Y5, Y4, Y6, evsA, qev, St.ev, St.put, St.with, qload, Y9, qmk, C.cpy, TK.agg, Yb, qstr, qbin, liveR, C.cp, C.dat, Y8, Y7, Nat.reduceAdd, Nat.reduceEqDiff, if_true, if_false, decide_true, reduceCtorEq, Nat.reduceLeDiff, Bool.true_or, callP, Fs.none, Yg, argD, argC, argCs, settle, settle1, settleC, FsJh, eq_self, h3, h9, hms, y1, ByteArray.size_append, tk48, tsz48, tk50, w0, show (wd.size ≤ 9223372036854775806) = True from eq_true (by omega), show (wd.size + 1 + (paperB (a.pid, a.cls, a.flds.getD [])).size ≤ 9223372036854775807) = True from eq_true (by omega), show (wd.size + 1 + (paperB (a.pid, a.cls, a.flds.getD [])).size ≤ 9223372036854775806) = True from eq_true (by omega), tsz9, tk9, show (wd.size + 1 + (paperB (a.pid, a.cls, a.flds.getD [])).size + 1 + (quotedF a.draw).size ≤ 9223372036854775807) = True from eq_true (by omega), ZA]; rfl) ?_)), ?_⟩
  show Tri _ _ _ _
  refine seq_in ?_
  refine Y3 okJh rfl (by repeat first | with_reducible exact Y2 | refine Y1 (by simp only [Y5, Y4, Y6, evsA, qev, St.ev, St.put, St.with, qload, Y9, qmk, C.cpy, TK.agg, Yb, qstr, qbin, liveR, C.cp, C.dat, Y8, Y7, Nat.reduceEqDiff, if_true, if_false, reduceCtorEq, Nat.add_zero, Bool.true_or, callP, Fs.none, Yg, argD, argC, settle, settle1, settleC, FsJh, hWc, eq_self, tk50, tsz3, tk3, w0, ZA]; rfl) ?_) ?_
  refine Yf rfl (fun w1 => ?_) (fun w1 => ?_)
  ·
   refine Y3 okJh rfl (by repeat first | with_reducible exact Y2 | refine Y1 (by simp only [Y5, Y4, Y6, qev, St.ev, St.put, Y8, Y7, w1, ZA]; rfl) ?_) ?_
   refine Yo (Yp (by simp only [outRes, Yi, resD, outD, outC, C.dat, if_true, eq_self, ZA]; rfl) rfl (by simp) (by simp) ?_)
   (simp only [reduceIte, ↓reduceIte, w1] at hQ; with_reducible exact hQ)
  ·
   refine Ye ?_
   refine Y3 okJh rfl (by repeat (first | with_reducible exact Y2 | refine Y1 (by simp only [Y5, Y4, Y6, qev, St.ev, St.put, qstr, qbin, Y8, Y7, if_true, Nat.reduceLeDiff, hms, y1, y2, ByteArray.size_append, w1, show (wd.size + 1 + (paperB (a.pid, a.cls, a.flds.getD [])).size + 1 + (quotedF a.draw).size ≤ 9223372036854775806) = True from eq_true (by omega), ZA]; rfl) ?_)) ?_
   refine Yo (Yp (by simp only [outRes, Yi, resD, outD, outC, C.dat, if_true, eq_self, ZA]; rfl) rfl (by simp) (by simp) ?_)
   (simp only [reduceIte, Z7, ↓reduceIte, Int.reduceEq, argsK, argB, Z24, Z13, List.foldl_cons, List.foldl_nil, w0, w1] at hQ; with_reducible exact hQ)
 ·
  simp only [decide_eq_false_iff_not] at w0
  refine seq_in ?_
  refine Y3 okJh rfl (by repeat first | with_reducible exact Y2 | refine Y1 (by simp only [Y5, Y4, Y6, qev, St.ev, St.put, qint, Yc, Ya, qbin, Y8, Y7, if_true, if_false, decide_false, eq_self, w0, ZA]; rfl) ?_) ?_
  refine Yf rfl (fun w2 => ?_) (fun w2 => ?_)
  ·
   simp only [decide_eq_true_eq] at w2
   refine Ye ?_
   refine Yf rfl (fun w3 => ?_) (fun w3 => ?_)
   ·
    simp only [decide_eq_true_eq] at w3
    refine Yk okJh rfl (by repeat first | with_reducible exact Y2 | refine Y1 (by simp only [Y5, Y4, Y6, evsA, qev, St.ev, St.put, St.with, qload, Y9, qmk, C.cpy, TK.agg, Yb, qstr, qbin, liveR, C.cp, C.dat, Y8, Y7, Nat.reduceEqDiff, if_true, if_false, decide_true, reduceCtorEq, Nat.reduceLeDiff, Bool.true_or, callP, Fs.none, Yg, argD, argC, settle, settle1, settleC, FsJh, eq_self, h1, hms, y1, ByteArray.size_append, tk50, w2, show (wd.size ≤ 9223372036854775806) = True from eq_true (by omega), tsz9, tk9, show (wd.size + 1 + (quotedF a.id).size ≤ 9223372036854775807) = True from eq_true (by omega), ZA]; rfl) ?_) ?_
    show Tri _ _ _ _
    refine seq_in ?_
    refine Y3 okJh rfl (by repeat first | with_reducible exact Y2 | refine Y1 (by simp only [Y5, Y4, Y6, evsA, qev, St.ev, St.put, St.with, qload, Y9, qmk, C.cpy, TK.agg, Yb, qstr, qbin, liveR, C.cp, C.dat, Y8, Y7, Nat.reduceEqDiff, if_true, if_false, reduceCtorEq, Nat.add_zero, Bool.true_or, callP, Fs.none, Yg, argD, argC, settle, settle1, settleC, FsJh, hWc, eq_self, tk50, tsz3, tk3, w2, ZA]; rfl) ?_) ?_
    refine Yf rfl (fun w4 => ?_) (fun w4 => ?_)
    ·
     refine Y3 okJh rfl (by repeat first | with_reducible exact Y2 | refine Y1 (by simp only [Y5, Y4, Y6, qev, St.ev, St.put, Y8, Y7, w4, ZA]; rfl) ?_) ?_
     refine Yo (Yp (by simp only [outRes, Yi, resD, outD, outC, C.dat, if_true, eq_self, ZA]; rfl) rfl (by simp) (by simp) ?_)
     (simp only [reduceIte, ↓reduceIte, w4] at hQ; with_reducible exact hQ)
    ·
     refine Ye ?_
     refine Y3 okJh rfl (by repeat first | with_reducible exact Y2 | refine Y1 (by simp only [Y5, Y4, Y6, qev, St.ev, St.put, qstr, qbin, Y8, Y7, if_true, Nat.reduceLeDiff, hms, y1, y2, ByteArray.size_append, w4, show (wd.size + 1 + (quotedF a.id).size ≤ 9223372036854775806) = True from eq_true (by omega), ZA]; rfl) ?_) ?_
     refine Yo (Yp (by simp only [outRes, Yi, resD, outD, outC, C.dat, if_true, eq_self, ZA]; rfl) rfl (by simp) (by simp) ?_)
     (simp only [reduceIte, Z7, ↓reduceIte, Int.reduceEq, argsK, argB, Z24, Z13, List.foldl_cons, List.foldl_nil, w2, w4] at hQ; with_reducible exact hQ)
   ·
    simp only [decide_eq_false_iff_not] at w3
    (exfalso; omega)
  ·
   simp only [decide_eq_false_iff_not] at w2
   refine Yk okJh rfl (by repeat first | with_reducible exact Y2 | refine Y1 (by simp only [Y5, Y4, Y6, qev, St.ev, St.put, qint, Yc, Ya, qbin, Y8, Y7, if_true, if_false, decide_false, eq_self, w2, ZA]; rfl) ?_) ?_
   show Tri _ _ _ _
   refine Yf rfl (fun w5 => ?_) (fun w5 => ?_)
   ·
    simp only [decide_eq_true_eq] at w5
    refine Yk okJh rfl (by repeat first | with_reducible exact Y2 | refine Y1 (by simp only [Y5, Y4, Y6, evsA, qev, St.ev, St.put, St.with, qload, Y9, qmk, C.cpy, TK.agg, Yb, qstr, qbin, liveR, C.cp, C.dat, Y8, Y7, Nat.reduceEqDiff, if_true, if_false, decide_true, reduceCtorEq, Nat.reduceLeDiff, Bool.true_or, callP, Fs.none, Yg, argD, argC, settle, settle1, settleC, FsJh, eq_self, h1, hms, y1, ByteArray.size_append, tk50, w5, show (wd.size ≤ 9223372036854775806) = True from eq_true (by omega), tsz9, tk9, show (wd.size + 1 + (quotedF a.id).size ≤ 9223372036854775807) = True from eq_true (by omega), ZA]; rfl) ?_) ?_
    show Tri _ _ _ _
    refine seq_in ?_
    refine Y3 okJh rfl (by repeat first | with_reducible exact Y2 | refine Y1 (by simp only [Y5, Y4, Y6, evsA, qev, St.ev, St.put, St.with, qload, Y9, qmk, C.cpy, TK.agg, Yb, qstr, qbin, liveR, C.cp, C.dat, Y8, Y7, Nat.reduceEqDiff, if_true, if_false, reduceCtorEq, Nat.add_zero, Bool.true_or, callP, Fs.none, Yg, argD, argC, settle, settle1, settleC, FsJh, hWc, eq_self, tk50, tsz3, tk3, w5, ZA]; rfl) ?_) ?_
    refine Yf rfl (fun w6 => ?_) (fun w6 => ?_)
    ·
     refine Y3 okJh rfl (by repeat first | with_reducible exact Y2 | refine Y1 (by simp only [Y5, Y4, Y6, qev, St.ev, St.put, Y8, Y7, w6, ZA]; rfl) ?_) ?_
     refine Yo (Yp (by simp only [outRes, Yi, resD, outD, outC, C.dat, if_true, eq_self, ZA]; rfl) rfl (by simp) (by simp) ?_)
     (simp only [reduceIte, ↓reduceIte, w6] at hQ; with_reducible exact hQ)
    ·
     refine Ye ?_
     refine Y3 okJh rfl (by repeat first | with_reducible exact Y2 | refine Y1 (by simp only [Y5, Y4, Y6, qev, St.ev, St.put, qstr, qbin, Y8, Y7, if_true, Nat.reduceLeDiff, hms, y1, y2, ByteArray.size_append, w6, show (wd.size + 1 + (quotedF a.id).size ≤ 9223372036854775806) = True from eq_true (by omega), ZA]; rfl) ?_) ?_
     refine Yo (Yp (by simp only [outRes, Yi, resD, outD, outC, C.dat, if_true, eq_self, ZA]; rfl) rfl (by simp) (by simp) ?_)
     (simp only [reduceIte, Z7, ↓reduceIte, Int.reduceEq, argsK, argB, Z24, Z13, List.foldl_cons, List.foldl_nil, w5, w6] at hQ; with_reducible exact hQ)
   ·
    simp only [decide_eq_false_iff_not] at w5
    refine seq_in ?_
    refine Y3 okJh rfl (by repeat first | with_reducible exact Y2 | refine Y1 (by simp only [Y5, Y4, Y6, qev, St.ev, St.put, qint, Yc, Ya, qbin, Y8, Y7, if_true, if_false, decide_false, eq_self, w5, ZA]; rfl) ?_) ?_
    refine Yf rfl (fun w7 => ?_) (fun w7 => ?_)
    ·
     simp only [decide_eq_true_eq] at w7
     refine Ye ?_
     refine Yf rfl (fun w8 => ?_) (fun w8 => ?_)
     ·
      simp only [decide_eq_true_eq] at w8
      refine any_endE mixed okJh rfl (by kernel_rfl) ?_
      refine ⟨_, (by repeat first | with_reducible exact Y2 | refine Y1 (by simp only [Y5, Y4, Y6, evsA, qev, St.ev, St.put, St.with, qload, Y9, qmk, C.cpy, TK.agg, Yb, qstr, qbin, liveR, C.cp, C.dat, Y8, Y7, Nat.reduceEqDiff, if_true, if_false, decide_true, reduceCtorEq, Nat.reduceLeDiff, Bool.true_or, callP, Fs.none, Yg, argD, argC, settle, settle1, settleC, FsJh, eq_self, h1, h2, hms, y1, ByteArray.size_append, tk50, w7, show (wd.size ≤ 9223372036854775806) = True from eq_true (by omega), tsz9, tk9, show (wd.size + 1 + (quotedF a.id).size ≤ 9223372036854775807) = True from eq_true (by omega), show (wd.size + 1 + (quotedF a.id).size ≤ 9223372036854775806) = True from eq_true (by omega), show (wd.size + 1 + (quotedF a.id).size + 1 + (quotedF a.name).size ≤ 9223372036854775807) = True from eq_true (by omega), ZA]; rfl) ?_), ?_⟩
      show Tri _ _ _ _
      refine seq_in ?_
      refine Y3 okJh rfl (by repeat first | with_reducible exact Y2 | refine Y1 (by simp only [Y5, Y4, Y6, evsA, qev, St.ev, St.put, St.with, qload, Y9, qmk, C.cpy, TK.agg, Yb, qstr, qbin, liveR, C.cp, C.dat, Y8, Y7, Nat.reduceEqDiff, if_true, if_false, reduceCtorEq, Nat.add_zero, Bool.true_or, callP, Fs.none, Yg, argD, argC, settle, settle1, settleC, FsJh, hWc, eq_self, tk50, tsz3, tk3, w7, ZA]; rfl) ?_) ?_
      refine Yf rfl (fun w9 => ?_) (fun w9 => ?_)
      ·
       refine Y3 okJh rfl (by repeat first | with_reducible exact Y2 | refine Y1 (by simp only [Y5, Y4, Y6, qev, St.ev, St.put, Y8, Y7, w9, ZA]; rfl) ?_) ?_
       refine Yo (Yp (by simp only [outRes, Yi, resD, outD, outC, C.dat, if_true, eq_self, ZA]; rfl) rfl (by simp) (by simp) ?_)
       (simp only [reduceIte, ↓reduceIte, w9] at hQ; with_reducible exact hQ)
      ·
       refine Ye ?_
       refine Y3 okJh rfl (by repeat first | with_reducible exact Y2 | refine Y1 (by simp only [Y5, Y4, Y6, qev, St.ev, St.put, qstr, qbin, Y8, Y7, if_true, Nat.reduceLeDiff, hms, y1, y2, ByteArray.size_append, w9, show (wd.size + 1 + (quotedF a.id).size + 1 + (quotedF a.name).size ≤ 9223372036854775806) = True from eq_true (by omega), ZA]; rfl) ?_) ?_
       refine Yo (Yp (by simp only [outRes, Yi, resD, outD, outC, C.dat, if_true, eq_self, ZA]; rfl) rfl (by simp) (by simp) ?_)
       (simp only [reduceIte, Z7, ↓reduceIte, Int.reduceEq, argsK, argB, Z24, Z13, List.foldl_cons, List.foldl_nil, w7, w9] at hQ; with_reducible exact hQ)
     ·
      simp only [decide_eq_false_iff_not] at w8
      (exfalso; omega)
    ·
     simp only [decide_eq_false_iff_not] at w7
     refine Y3 okJh rfl (by repeat first | with_reducible exact Y2 | refine Y1 (by simp only [Y5, Y4, Y6, qev, St.ev, St.put, qint, Yc, Ya, qbin, Y8, Y7, if_true, if_false, decide_false, eq_self, w7, ZA]; rfl) ?_) ?_
     refine Yf rfl (fun w10 => ?_) (fun w10 => ?_)
     ·
      simp only [decide_eq_true_eq] at w10
      refine Ye ?_
      refine Yf rfl (fun w11 => ?_) (fun w11 => ?_)
      ·
       simp only [decide_eq_true_eq] at w11
       refine any_endE mixed okJh rfl (by kernel_rfl) ?_
       refine ⟨_, (by repeat first | with_reducible exact Y2 | refine Y1 (by simp only [Y5, Y4, Y6, evsA, qev, St.ev, St.put, St.with, qload, Y9, qmk, C.cpy, TK.agg, Yb, qstr, qbin, liveR, C.cp, C.dat, Y8, Y7, Nat.reduceEqDiff, if_true, if_false, decide_true, reduceCtorEq, Nat.reduceLeDiff, Bool.true_or, callP, Fs.none, Yg, argD, argC, settle, settle1, settleC, FsJh, eq_self, h1, h2, hms, y1, ByteArray.size_append, tk50, w10, show (wd.size ≤ 9223372036854775806) = True from eq_true (by omega), tsz9, tk9, show (wd.size + 1 + (quotedF a.id).size ≤ 9223372036854775807) = True from eq_true (by omega), show (wd.size + 1 + (quotedF a.id).size ≤ 9223372036854775806) = True from eq_true (by omega), show (wd.size + 1 + (quotedF a.id).size + 1 + (quotedF a.name).size ≤ 9223372036854775807) = True from eq_true (by omega), ZA]; rfl) ?_), ?_⟩
       show Tri _ _ _ _
       refine seq_in ?_
       refine Y3 okJh rfl (by repeat first | with_reducible exact Y2 | refine Y1 (by simp only [Y5, Y4, Y6, evsA, qev, St.ev, St.put, St.with, qload, Y9, qmk, C.cpy, TK.agg, Yb, qstr, qbin, liveR, C.cp, C.dat, Y8, Y7, Nat.reduceEqDiff, if_true, if_false, reduceCtorEq, Nat.add_zero, Bool.true_or, callP, Fs.none, Yg, argD, argC, settle, settle1, settleC, FsJh, hWc, eq_self, tk50, tsz3, tk3, w10, ZA]; rfl) ?_) ?_
       refine Yf rfl (fun w12 => ?_) (fun w12 => ?_)
       ·
        refine Y3 okJh rfl (by repeat first | with_reducible exact Y2 | refine Y1 (by simp only [Y5, Y4, Y6, qev, St.ev, St.put, Y8, Y7, w12, ZA]; rfl) ?_) ?_
        refine Yo (Yp (by simp only [outRes, Yi, resD, outD, outC, C.dat, if_true, eq_self, ZA]; rfl) rfl (by simp) (by simp) ?_)
        (simp only [reduceIte, ↓reduceIte, w12] at hQ; with_reducible exact hQ)
       ·
        refine Ye ?_
        refine Y3 okJh rfl (by repeat first | with_reducible exact Y2 | refine Y1 (by simp only [Y5, Y4, Y6, qev, St.ev, St.put, qstr, qbin, Y8, Y7, if_true, Nat.reduceLeDiff, hms, y1, y2, ByteArray.size_append, w12, show (wd.size + 1 + (quotedF a.id).size + 1 + (quotedF a.name).size ≤ 9223372036854775806) = True from eq_true (by omega), ZA]; rfl) ?_) ?_
        refine Yo (Yp (by simp only [outRes, Yi, resD, outD, outC, C.dat, if_true, eq_self, ZA]; rfl) rfl (by simp) (by simp) ?_)
        (simp only [reduceIte, Z7, ↓reduceIte, Int.reduceEq, argsK, argB, Z24, Z13, List.foldl_cons, List.foldl_nil, w10, w12] at hQ; with_reducible exact hQ)
      ·
       simp only [decide_eq_false_iff_not] at w11
       (exfalso; omega)
     ·
      simp only [decide_eq_false_iff_not] at w10
      refine Yk okJh rfl (by repeat first | with_reducible exact Y2 | refine Y1 (by simp only [Y5, Y4, Y6, qev, St.ev, St.put, qint, Yc, Ya, qbin, Y8, Y7, if_true, if_false, decide_false, eq_self, w10, ZA]; rfl) ?_) ?_
      show Tri _ _ _ _
      refine Yf rfl (fun w13 => ?_) (fun w13 => ?_)
      ·
       simp only [decide_eq_true_eq] at w13
       refine any_endE mixed okJh rfl (by kernel_rfl) ?_
       refine ⟨_, (by repeat first | with_reducible exact Y2 | refine Y1 (by simp only [Y5, Y4, Y6, evsA, qev, St.ev, St.put, St.with, qload, Y9, qmk, C.cpy, TK.agg, Yb, qstr, qbin, liveR, C.cp, C.dat, Y8, Y7, Nat.reduceEqDiff, if_true, if_false, decide_true, reduceCtorEq, Nat.reduceLeDiff, Bool.true_or, callP, Fs.none, Yg, argD, argC, settle, settle1, settleC, FsJh, eq_self, h1, h2, hms, y1, ByteArray.size_append, tk50, w13, show (wd.size ≤ 9223372036854775806) = True from eq_true (by omega), tsz9, tk9, show (wd.size + 1 + (quotedF a.id).size ≤ 9223372036854775807) = True from eq_true (by omega), show (wd.size + 1 + (quotedF a.id).size ≤ 9223372036854775806) = True from eq_true (by omega), show (wd.size + 1 + (quotedF a.id).size + 1 + (quotedF a.name).size ≤ 9223372036854775807) = True from eq_true (by omega), ZA]; rfl) ?_), ?_⟩
       show Tri _ _ _ _
       refine seq_in ?_
       refine Y3 okJh rfl (by repeat first | with_reducible exact Y2 | refine Y1 (by simp only [Y5, Y4, Y6, evsA, qev, St.ev, St.put, St.with, qload, Y9, qmk, C.cpy, TK.agg, Yb, qstr, qbin, liveR, C.cp, C.dat, Y8, Y7, Nat.reduceEqDiff, if_true, if_false, reduceCtorEq, Nat.add_zero, Bool.true_or, callP, Fs.none, Yg, argD, argC, settle, settle1, settleC, FsJh, hWc, eq_self, tk50, tsz3, tk3, w13, ZA]; rfl) ?_) ?_
       refine Yf rfl (fun w14 => ?_) (fun w14 => ?_)
       ·
        refine Y3 okJh rfl (by repeat first | with_reducible exact Y2 | refine Y1 (by simp only [Y5, Y4, Y6, qev, St.ev, St.put, Y8, Y7, w14, ZA]; rfl) ?_) ?_
        refine Yo (Yp (by simp only [outRes, Yi, resD, outD, outC, C.dat, if_true, eq_self, ZA]; rfl) rfl (by simp) (by simp) ?_)
        (simp only [reduceIte, ↓reduceIte, w14] at hQ; with_reducible exact hQ)
       ·
        refine Ye ?_
        refine Y3 okJh rfl (by repeat first | with_reducible exact Y2 | refine Y1 (by simp only [Y5, Y4, Y6, qev, St.ev, St.put, qstr, qbin, Y8, Y7, if_true, Nat.reduceLeDiff, hms, y1, y2, ByteArray.size_append, w14, show (wd.size + 1 + (quotedF a.id).size + 1 + (quotedF a.name).size ≤ 9223372036854775806) = True from eq_true (by omega), ZA]; rfl) ?_) ?_
        refine Yo (Yp (by simp only [outRes, Yi, resD, outD, outC, C.dat, if_true, eq_self, ZA]; rfl) rfl (by simp) (by simp) ?_)
        (simp only [reduceIte, Z7, ↓reduceIte, Int.reduceEq, argsK, argB, Z24, Z13, List.foldl_cons, List.foldl_nil, w13, w14] at hQ; with_reducible exact hQ)
      ·
       simp only [decide_eq_false_iff_not] at w13
       refine Y3 okJh rfl (by repeat first | with_reducible exact Y2 | refine Y1 (by simp only [Y5, Y4, Y6, qev, St.ev, St.put, qint, Yc, Ya, qbin, Y8, Y7, if_true, if_false, decide_false, eq_self, w13, ZA]; rfl) ?_) ?_
       refine Yf rfl (fun w15 => ?_) (fun w15 => ?_)
       ·
        simp only [decide_eq_true_eq] at w15
        refine Yk okJh rfl (by repeat first | with_reducible exact Y2 | refine Y1 (by simp only [Y5, Y4, Y6, qev, St.ev, St.put, qstr, qbin, Y8, Y7, if_true, decide_true, Nat.reduceLeDiff, eq_self, hms, y1, ByteArray.size_append, w15, show (wd.size ≤ 9223372036854775806) = True from eq_true (by omega), show (wd.size + 1 + (wholeB a.n).size ≤ 9223372036854775807) = True from eq_true (by omega), ZA]; rfl) ?_) ?_
        show Tri _ _ _ _
        refine seq_in ?_
        refine Y3 okJh rfl (by repeat first | with_reducible exact Y2 | refine Y1 (by simp only [Y5, Y4, Y6, evsA, qev, St.ev, St.put, St.with, qload, Y9, qmk, C.cpy, TK.agg, Yb, qstr, qbin, liveR, C.cp, C.dat, Y8, Y7, Nat.reduceEqDiff, if_true, if_false, reduceCtorEq, Nat.add_zero, Bool.true_or, callP, Fs.none, Yg, argD, argC, settle, settle1, settleC, FsJh, hWc, eq_self, tk50, tsz3, tk3, w15, ZA]; rfl) ?_) ?_
        refine Yf rfl (fun w16 => ?_) (fun w16 => ?_)
        ·
         refine Y3 okJh rfl (by repeat first | with_reducible exact Y2 | refine Y1 (by simp only [Y5, Y4, Y6, qev, St.ev, St.put, Y8, Y7, w16, ZA]; rfl) ?_) ?_
         refine Yo (Yp (by simp only [outRes, Yi, resD, outD, outC, C.dat, if_true, eq_self, ZA]; rfl) rfl (by simp) (by simp) ?_)
         (simp only [reduceIte, ↓reduceIte, w16] at hQ; with_reducible exact hQ)
        ·
         refine Ye ?_
         refine Y3 okJh rfl (by repeat first | with_reducible exact Y2 | refine Y1 (by simp only [Y5, Y4, Y6, qev, St.ev, St.put, qstr, qbin, Y8, Y7, if_true, Nat.reduceLeDiff, hms, y1, y2, ByteArray.size_append, w16, show (wd.size + 1 + (wholeB a.n).size ≤ 9223372036854775806) = True from eq_true (by omega), ZA]; rfl) ?_) ?_
         refine Yo (Yp (by simp only [outRes, Yi, resD, outD, outC, C.dat, if_true, eq_self, ZA]; rfl) rfl (by simp) (by simp) ?_)
         (simp only [reduceIte, Z7, ↓reduceIte, Int.reduceEq, argsK, argB, Z24, Z13, List.foldl_cons, List.foldl_nil, w15, w16] at hQ; with_reducible exact hQ)
       ·
        simp only [decide_eq_false_iff_not] at w15
        refine Y3 okJh rfl (by repeat first | with_reducible exact Y2 | refine Y1 (by simp only [Y5, Y4, Y6, qev, St.ev, St.put, qint, Yc, Ya, qbin, Y8, Y7, if_true, if_false, decide_false, eq_self, w15, ZA]; rfl) ?_) ?_
        refine Yf rfl (fun w17 => ?_) (fun w17 => ?_)
        ·
         simp only [decide_eq_true_eq] at w17
         refine Yk okJh rfl (by repeat first | with_reducible exact Y2 | refine Y1 (by simp only [Y5, Y4, Y6, evsA, qev, St.ev, St.put, St.with, qload, Y9, qmk, C.cpy, TK.agg, Yb, qstr, qbin, liveR, C.cp, C.dat, Y8, Y7, Nat.reduceEqDiff, if_true, if_false, decide_true, reduceCtorEq, Nat.reduceLeDiff, Bool.true_or, callP, Fs.none, Yg, argD, argC, settle, settle1, settleC, FsJh, eq_self, h8, hms, y1, ByteArray.size_append, tk50, w17, show (wd.size ≤ 9223372036854775806) = True from eq_true (by omega), tsz37, tk37, show (wd.size + 1 + (decB a.keep.toNat).size ≤ 9223372036854775807) = True from eq_true (by omega), show (wd.size + 1 + (decB a.keep.toNat).size ≤ 9223372036854775806) = True from eq_true (by omega), show (wd.size + 1 + (decB a.keep.toNat).size + 1 + (wholeB a.tear).size ≤ 9223372036854775807) = True from eq_true (by omega), ZA]; rfl) ?_) ?_
         show Tri _ _ _ _
         refine seq_in ?_
         refine Y3 okJh rfl (by repeat first | with_reducible exact Y2 | refine Y1 (by simp only [Y5, Y4, Y6, evsA, qev, St.ev, St.put, St.with, qload, Y9, qmk, C.cpy, TK.agg, Yb, qstr, qbin, liveR, C.cp, C.dat, Y8, Y7, Nat.reduceEqDiff, if_true, if_false, reduceCtorEq, Nat.add_zero, Bool.true_or, callP, Fs.none, Yg, argD, argC, settle, settle1, settleC, FsJh, hWc, eq_self, tk50, tsz3, tk3, w17, ZA]; rfl) ?_) ?_
         refine Yf rfl (fun w18 => ?_) (fun w18 => ?_)
         ·
          refine Y3 okJh rfl (by repeat first | with_reducible exact Y2 | refine Y1 (by simp only [Y5, Y4, Y6, qev, St.ev, St.put, Y8, Y7, w18, ZA]; rfl) ?_) ?_
          refine Yo (Yp (by simp only [outRes, Yi, resD, outD, outC, C.dat, if_true, eq_self, ZA]; rfl) rfl (by simp) (by simp) ?_)
          (simp only [reduceIte, ↓reduceIte, w18] at hQ; with_reducible exact hQ)
         ·
          refine Ye ?_
          refine Y3 okJh rfl (by repeat first | with_reducible exact Y2 | refine Y1 (by simp only [Y5, Y4, Y6, qev, St.ev, St.put, qstr, qbin, Y8, Y7, if_true, Nat.reduceLeDiff, hms, y1, y2, ByteArray.size_append, w18, show (wd.size + 1 + (decB a.keep.toNat).size + 1 + (wholeB a.tear).size ≤ 9223372036854775806) = True from eq_true (by omega), ZA]; rfl) ?_) ?_
          refine Yo (Yp (by simp only [outRes, Yi, resD, outD, outC, C.dat, if_true, eq_self, ZA]; rfl) rfl (by simp) (by simp) ?_)
          (simp only [reduceIte, Z7, ↓reduceIte, Int.reduceEq, argsK, argB, Z24, Z13, List.foldl_cons, List.foldl_nil, w17, w18] at hQ; with_reducible exact hQ)
        ·
         simp only [decide_eq_false_iff_not] at w17
         refine Y3 okJh rfl (by repeat first | with_reducible exact Y2 | refine Y1 (by simp only [Y5, Y4, Y6, qev, St.ev, St.put, qint, Yc, Ya, qbin, Y8, Y7, if_true, if_false, decide_false, eq_self, w17, ZA]; rfl) ?_) ?_
         refine Yf rfl (fun w19 => ?_) (fun w19 => ?_)
         ·
          simp only [decide_eq_true_eq] at w19
          refine Yk okJh rfl (by repeat first | with_reducible exact Y2 | refine Y1 (by simp only [Y5, Y4, Y6, evsA, qev, St.ev, St.put, St.with, qload, Y9, qmk, C.cpy, TK.agg, Yb, qstr, qbin, liveR, C.cp, C.dat, Y8, Y7, Nat.reduceEqDiff, if_true, if_false, decide_true, reduceCtorEq, Nat.reduceLeDiff, Bool.true_or, callP, Fs.none, Yg, argD, argC, settle, settle1, settleC, FsJh, eq_self, h8, hms, y1, ByteArray.size_append, tk50, w19, show (wd.size ≤ 9223372036854775806) = True from eq_true (by omega), show (wd.size + 1 + (wholeB a.n).size ≤ 9223372036854775807) = True from eq_true (by omega), show (wd.size + 1 + (wholeB a.n).size ≤ 9223372036854775806) = True from eq_true (by omega), tsz37, tk37, show (wd.size + 1 + (wholeB a.n).size + 1 + (decB a.keep.toNat).size ≤ 9223372036854775807) = True from eq_true (by omega), show (wd.size + 1 + (wholeB a.n).size + 1 + (decB a.keep.toNat).size ≤ 9223372036854775806) = True from eq_true (by omega), show (wd.size + 1 + (wholeB a.n).size + 1 + (decB a.keep.toNat).size + 1 + (wholeB a.tear).size ≤ 9223372036854775807) = True from eq_true (by omega), ZA]; rfl) ?_) ?_
          show Tri _ _ _ _
          refine seq_in ?_
          refine Y3 okJh rfl (by repeat first | with_reducible exact Y2 | refine Y1 (by simp only [Y5, Y4, Y6, evsA, qev, St.ev, St.put, St.with, qload, Y9, qmk, C.cpy, TK.agg, Yb, qstr, qbin, liveR, C.cp, C.dat, Y8, Y7, Nat.reduceEqDiff, if_true, if_false, reduceCtorEq, Nat.add_zero, Bool.true_or, callP, Fs.none, Yg, argD, argC, settle, settle1, settleC, FsJh, hWc, eq_self, tk50, tsz3, tk3, w19, ZA]; rfl) ?_) ?_
          refine Yf rfl (fun w20 => ?_) (fun w20 => ?_)
          ·
           refine Y3 okJh rfl (by repeat first | with_reducible exact Y2 | refine Y1 (by simp only [Y5, Y4, Y6, qev, St.ev, St.put, Y8, Y7, w20, ZA]; rfl) ?_) ?_
           refine Yo (Yp (by simp only [outRes, Yi, resD, outD, outC, C.dat, if_true, eq_self, ZA]; rfl) rfl (by simp) (by simp) ?_)
           (simp only [reduceIte, ↓reduceIte, w20] at hQ; with_reducible exact hQ)
          ·
           refine Ye ?_
           refine Y3 okJh rfl (by repeat first | with_reducible exact Y2 | refine Y1 (by simp only [Y5, Y4, Y6, qev, St.ev, St.put, qstr, qbin, Y8, Y7, if_true, Nat.reduceLeDiff, hms, y1, y2, ByteArray.size_append, w20, show (wd.size + 1 + (wholeB a.n).size + 1 + (decB a.keep.toNat).size + 1 + (wholeB a.tear).size ≤ 9223372036854775806) = True from eq_true (by omega), ZA]; rfl) ?_) ?_
           refine Yo (Yp (by simp only [outRes, Yi, resD, outD, outC, C.dat, if_true, eq_self, ZA]; rfl) rfl (by simp) (by simp) ?_)
           (simp only [reduceIte, Z7, ↓reduceIte, Int.reduceEq, argsK, argB, Z24, Z13, List.foldl_cons, List.foldl_nil, w19, w20] at hQ; with_reducible exact hQ)
         ·
          simp only [decide_eq_false_iff_not] at w19
          refine Y3 okJh rfl (by repeat first | with_reducible exact Y2 | refine Y1 (by simp only [Y5, Y4, Y6, qev, St.ev, St.put, qint, Yc, Ya, qbin, Y8, Y7, if_true, if_false, decide_false, eq_self, w19, ZA]; rfl) ?_) ?_
          refine Yf rfl (fun w21 => ?_) (fun w21 => ?_)
          ·
           simp only [decide_eq_true_eq] at w21
           refine any_endE mixed okJh rfl (by kernel_rfl) ?_
           refine ⟨_, (by repeat (first | with_reducible exact Y2 | refine Y1 (by simp only [Y5, Y4, Y6, evsA, qev, St.ev, St.put, St.with, qload, Y9, qmk, C.cpy, TK.agg, Yb, qstr, qbin, liveR, C.cp, C.dat, Y8, Y7, Nat.reduceEqDiff, if_true, if_false, decide_true, reduceCtorEq, Nat.reduceLeDiff, Bool.true_or, callP, Fs.none, Yg, argD, argC, settle, settle1, settleC, FsJh, eq_self, h1, h4, hms, y1, ByteArray.size_append, tk50, tk28, w21, show (wd.size ≤ 9223372036854775806) = True from eq_true (by omega), tsz9, tk9, show (wd.size + 1 + (quotedF a.id).size ≤ 9223372036854775807) = True from eq_true (by omega), show (wd.size + 1 + (quotedF a.id).size ≤ 9223372036854775806) = True from eq_true (by omega), tsz28, show (wd.size + 1 + (quotedF a.id).size + 1 + (namesB (a.names.getD [])).size ≤ 9223372036854775807) = True from eq_true (by omega), show (wd.size + 1 + (quotedF a.id).size + 1 + (namesB (a.names.getD [])).size ≤ 9223372036854775806) = True from eq_true (by omega), show (wd.size + 1 + (quotedF a.id).size + 1 + (namesB (a.names.getD [])).size + 1 + (wholeB a.n).size ≤ 9223372036854775807) = True from eq_true (by omega), ZA]; rfl) ?_)), ?_⟩
           show Tri _ _ _ _
           refine seq_in ?_
           refine Y3 okJh rfl (by repeat first | with_reducible exact Y2 | refine Y1 (by simp only [Y5, Y4, Y6, evsA, qev, St.ev, St.put, St.with, qload, Y9, qmk, C.cpy, TK.agg, Yb, qstr, qbin, liveR, C.cp, C.dat, Y8, Y7, Nat.reduceEqDiff, if_true, if_false, reduceCtorEq, Nat.add_zero, Bool.true_or, callP, Fs.none, Yg, argD, argC, settle, settle1, settleC, FsJh, hWc, eq_self, tk50, tsz3, tk3, w21, ZA]; rfl) ?_) ?_
           refine Yf rfl (fun w22 => ?_) (fun w22 => ?_)
           ·
            refine Y3 okJh rfl (by repeat first | with_reducible exact Y2 | refine Y1 (by simp only [Y5, Y4, Y6, qev, St.ev, St.put, Y8, Y7, w22, ZA]; rfl) ?_) ?_
            refine Yo (Yp (by simp only [outRes, Yi, resD, outD, outC, C.dat, if_true, eq_self, ZA]; rfl) rfl (by simp) (by simp) ?_)
            (simp only [reduceIte, ↓reduceIte, w22] at hQ; with_reducible exact hQ)
           ·
            refine Ye ?_
            refine Y3 okJh rfl (by repeat (first | with_reducible exact Y2 | refine Y1 (by simp only [Y5, Y4, Y6, qev, St.ev, St.put, qstr, qbin, Y8, Y7, if_true, Nat.reduceLeDiff, hms, y1, y2, ByteArray.size_append, w22, show (wd.size + 1 + (quotedF a.id).size + 1 + (namesB (a.names.getD [])).size + 1 + (wholeB a.n).size ≤ 9223372036854775806) = True from eq_true (by omega), ZA]; rfl) ?_)) ?_
            refine Yo (Yp (by simp only [outRes, Yi, resD, outD, outC, C.dat, if_true, eq_self, ZA]; rfl) rfl (by simp) (by simp) ?_)
            (simp only [reduceIte, Z7, ↓reduceIte, Int.reduceEq, argsK, argB, Z24, Z13, List.foldl_cons, List.foldl_nil, w21, w22] at hQ; with_reducible exact hQ)
          ·
           simp only [decide_eq_false_iff_not] at w21
           refine Y3 okJh rfl (by repeat first | with_reducible exact Y2 | refine Y1 (by simp only [Y5, Y4, Y6, qev, St.ev, St.put, qint, Yc, Ya, qbin, Y8, Y7, if_true, if_false, decide_false, eq_self, w21, ZA]; rfl) ?_) ?_
           refine Yf rfl (fun w23 => ?_) (fun w23 => ?_)
           ·
            simp only [decide_eq_true_eq] at w23
            refine Yk okJh rfl (by repeat first | with_reducible exact Y2 | refine Y1 (by simp only [Y5, Y4, Y6, qev, St.ev, St.put, qstr, qbin, Y8, Y7, if_true, decide_true, Nat.reduceLeDiff, eq_self, hms, y1, ByteArray.size_append, w23, show (wd.size ≤ 9223372036854775806) = True from eq_true (by omega), show (wd.size + 1 + (wholeB a.n).size ≤ 9223372036854775807) = True from eq_true (by omega), show (wd.size + 1 + (wholeB a.n).size ≤ 9223372036854775806) = True from eq_true (by omega), show (wd.size + 1 + (wholeB a.n).size + 1 + (wholeB a.m).size ≤ 9223372036854775807) = True from eq_true (by omega), ZA]; rfl) ?_) ?_
            show Tri _ _ _ _
            refine seq_in ?_
            refine Y3 okJh rfl (by repeat first | with_reducible exact Y2 | refine Y1 (by simp only [Y5, Y4, Y6, evsA, qev, St.ev, St.put, St.with, qload, Y9, qmk, C.cpy, TK.agg, Yb, qstr, qbin, liveR, C.cp, C.dat, Y8, Y7, Nat.reduceEqDiff, if_true, if_false, reduceCtorEq, Nat.add_zero, Bool.true_or, callP, Fs.none, Yg, argD, argC, settle, settle1, settleC, FsJh, hWc, eq_self, tk50, tsz3, tk3, w23, ZA]; rfl) ?_) ?_
            refine Yf rfl (fun w24 => ?_) (fun w24 => ?_)
            ·
             refine Y3 okJh rfl (by repeat first | with_reducible exact Y2 | refine Y1 (by simp only [Y5, Y4, Y6, qev, St.ev, St.put, Y8, Y7, w24, ZA]; rfl) ?_) ?_
             refine Yo (Yp (by simp only [outRes, Yi, resD, outD, outC, C.dat, if_true, eq_self, ZA]; rfl) rfl (by simp) (by simp) ?_)
             (simp only [reduceIte, ↓reduceIte, w24] at hQ; with_reducible exact hQ)
            ·
             refine Ye ?_
             refine Y3 okJh rfl (by repeat first | with_reducible exact Y2 | refine Y1 (by simp only [Y5, Y4, Y6, qev, St.ev, St.put, qstr, qbin, Y8, Y7, if_true, Nat.reduceLeDiff, hms, y1, y2, ByteArray.size_append, w24, show (wd.size + 1 + (wholeB a.n).size + 1 + (wholeB a.m).size ≤ 9223372036854775806) = True from eq_true (by omega), ZA]; rfl) ?_) ?_
             refine Yo (Yp (by simp only [outRes, Yi, resD, outD, outC, C.dat, if_true, eq_self, ZA]; rfl) rfl (by simp) (by simp) ?_)
             (simp only [reduceIte, Z7, ↓reduceIte, Int.reduceEq, argsK, argB, Z24, Z13, List.foldl_cons, List.foldl_nil, w23, w24] at hQ; with_reducible exact hQ)
           ·
            simp only [decide_eq_false_iff_not] at w23
            refine tri_skip ?_
            show Tri _ _ _ _
            refine seq_in ?_
            refine Y3 okJh rfl (by repeat first | with_reducible exact Y2 | refine Y1 (by simp only [Y5, Y4, Y6, evsA, qev, St.ev, St.put, St.with, qload, Y9, qmk, C.cpy, TK.agg, Yb, qstr, qbin, liveR, C.cp, C.dat, Y8, Y7, Nat.reduceEqDiff, if_true, if_false, decide_false, reduceCtorEq, Nat.add_zero, Bool.true_or, callP, Fs.none, Yg, argD, argC, settle, settle1, settleC, FsJh, hWc, eq_self, tk50, tsz3, tk3, w23, ZA]; rfl) ?_) ?_
            refine Yf rfl (fun w25 => ?_) (fun w25 => ?_)
            ·
             refine Y3 okJh rfl (by repeat first | with_reducible exact Y2 | refine Y1 (by simp only [Y5, Y4, Y6, qev, St.ev, St.put, Y8, Y7, w25, ZA]; rfl) ?_) ?_
             refine Yo (Yp (by simp only [outRes, Yi, resD, outD, outC, C.dat, if_true, eq_self, ZA]; rfl) rfl (by simp) (by simp) ?_)
             (simp only [reduceIte, ↓reduceIte, w25] at hQ; with_reducible exact hQ)
            ·
             refine Ye ?_
             refine Y3 okJh rfl (by repeat first | with_reducible exact Y2 | refine Y1 (by simp only [Y5, Y4, Y6, qev, St.ev, St.put, qstr, qbin, Y8, Y7, if_true, Nat.reduceLeDiff, hms, y2, w25, show (wd.size ≤ 9223372036854775806) = True from eq_true (by omega), ZA]; rfl) ?_) ?_
             refine Yo (Yp (by simp only [outRes, Yi, resD, outD, outC, C.dat, if_true, eq_self, ZA]; rfl) rfl (by simp) (by simp) ?_)
             (simp only [reduceIte, Z7, ↓reduceIte, argsK, Z13, List.foldl_nil, w0, w2, w5, w7, w10, w13, w15, w17, w19, w21, w23, w25] at hQ; with_reducible exact hQ)
end Go.Dl

namespace Go.Dl
open Go.RowKit
open Go.Proofs
set_option linter.unusedVariables false
theorem fold_join (sep : ByteArray) : ∀ (l : List ByteArray) (w : ByteArray), l.foldl (fun s p => s ++ sep ++ p) w = ⟨(joinGo sep l w.data.toList).toArray⟩
 | [], w => (of_list w).symm
 | x :: r, w => by
  rw [List.foldl_cons, fold_join sep r, joinGo, ByteArray.data_append, ByteArray.data_append, Array.toList_append, Array.toList_append]
theorem join_cons (sep : ByteArray) (l : List ByteArray) (w : ByteArray) : joinB sep (w :: l) = ⟨(joinGo sep l w.data.toList).toArray⟩ := by
 match l with
 | [] => exact (of_list w).symm
 | y :: r => rfl
theorem form_ne : ∀ k : Fin 16, 0 < k.val → strEq (formB k.val) ⟨#[]⟩ = false := by decide +kernel
theorem print_eq (a : ActM) : printR a = printB a := by
 unfold printR printB
 by_cases h1 : 1 ≤ a.kind
 · by_cases h2 : a.kind ≤ 15
   · have hw : wordR a.kind = formB a.kind.toNat := by
      unfold wordR
      rw [if_neg (by omega), if_neg (by omega)]
     have hne := form_ne ⟨a.kind.toNat, by omega⟩ (by show 0 < a.kind.toNat; omega)
     rw [hw, if_pos h1, if_pos h2, hne, if_neg (by simp)]
     unfold wordsOf
     rw [join_cons, fold_join]
     rfl
   · have hw : wordR a.kind = ⟨#[]⟩ := by
      unfold wordR
      rw [if_neg (by omega), if_pos (by omega)]
     rw [hw, if_pos h1, if_neg h2, if_pos (by decide +kernel)]
 · have hw : wordR a.kind = ⟨#[]⟩ := by
    unfold wordR
    rw [if_pos (by omega)]
   rw [hw, if_neg h1, if_pos (by decide +kernel)]
end Go.Dl

namespace Go.Dl
open Go.RowKit
open Go.Proofs
set_option linter.unusedSimpArgs false
set_option linter.unusedVariables false
noncomputable def FsJo : Fs := { pure := fun k => if k = 20 then some pFewA else if k = 21 then some pPrint else if k = 26 then some pPrintR else if k = 27 then some pPlainA else if k = 22 then some pScriptZ else if k = 25 then some pClean2 else if k = 23 then some pSame else if k = 13 then some pAwake else none, objs := fun k => none }
theorem okJo : FsOK Try.prog FsJo := by
 refine ⟨fun k f h => ?_, fun k f h => ?_⟩
 · simp only [FsJo] at h
   split at h
   · rename_i hk; subst hk; cases h; exact ⟨by kernel_rfl, meets20Z⟩
   split at h
   · rename_i hk; subst hk; cases h; exact ⟨by kernel_rfl, meets21⟩
   split at h
   · rename_i hk; subst hk; cases h; exact ⟨by kernel_rfl, meets26⟩
   split at h
   · rename_i hk; subst hk; cases h; exact ⟨by kernel_rfl, meets27⟩
   split at h
   · rename_i hk; subst hk; cases h; exact ⟨by kernel_rfl, meets22Z⟩
   split at h
   · rename_i hk; subst hk; cases h; exact ⟨by kernel_rfl, meets25⟩
   split at h
   · rename_i hk; subst hk; cases h; exact ⟨by kernel_rfl, meets23⟩
   split at h
   · rename_i hk; subst hk; cases h; exact ⟨by kernel_rfl, meets13⟩
   · cases h
 · cases h
noncomputable def pSayPrints : List D → Option D := famP inOk (fun a => [.agg (actC false a)]) (fun _ => dB true)
theorem prints_law (a : ActM) (h : inOk a) : pSayPrints [.agg (actC false a)] = some (.c (.v (.bool true))) := Ym (fun _ _ _ => rfl) a h rfl
set_option maxRecDepth 100000 in
set_option maxHeartbeats 4000000 in
theorem meets9 : Meets Try.prog 9 (pureS pSayPrints) := by
 refine Yn (show Try.prog.funcs[9]? = some Try.f9 by kernel_rfl) rfl (n := 66) rfl (rs := [ResultVar.tmp 2]) rfl ?_
 rintro a hin Q hQ
 have hF := few_at a hin.few
 have hs := few_s hin
 obtain ⟨fa, ea, na, ka, hf1, hf2, hf3, hf4, hf5, hf6⟩ := act_gen a
 obtain ⟨k, p, c, F, i, w, N, d, n, mm, q, t, hb⟩ : ∃ k p c F i w N d n mm q t, fewA a = ⟨k, p, c, some F, i, w, some N, d, n, mm, q, t⟩ := ⟨_, _, _, _, _, _, _, _, _, _, _, _, rfl⟩
 have hk : inR .i64 k = true := by
  have := congrArg ActM.kind hb
  rw [← show a.kind = k from this]
  exact hin.kind
 rw [hb] at hF hs
 generalize hbb : (⟨k, p, c, some F, i, w, some N, d, n, mm, q, t⟩ : ActM) = b at hs
 have hP := print_at b hs.say.pre
 have hR := printR_at b hs.say.pre (by rw [← hbb]; exact hk)
 rw [print_eq] at hR
 have hPl := plainA_at b (by have := hs.fl; unfold maxStr; omega)
 have hCl := clean2_at b
 have hz := print_le hs
 have hSc := scriptZ_at (printB b) hz
 have hrd := few_read hs
 have hno := print_none (a := b)
 have hln := rc_len (a := b)
 have hfl := hs.fl
 have hnm := hs.nm
 have hbk : b.kind = k := by rw [← hbb]
 have hSm : 1 ≤ b.kind → b.kind ≤ 15 → pSame [.agg (actC false (readA b)), .agg (actC false (cleanA b))] = some (dB (sameA (readA b) (cleanA b))) := fun h1 h2 => same_at _ _ (by
  obtain ⟨⟨g1, g2⟩, g3, g4⟩ := hln h1 h2
  unfold sameOk maxStr
  exact ⟨⟨by dsimp only; omega, by dsimp only; omega⟩, by dsimp only; omega, by dsimp only; omega⟩)
 rw [hbk] at hrd hno hSm
 generalize printB b = s at hP hR hSc hrd hno hz
 generalize hpl : plainL (b.flds.getD []) = pl at hPl hrd
 generalize readA b = rd at hrd hSm
 generalize cleanA b = cl at hCl hSm hrd
 clear hs hln hfl hnm hbk hpl hb
 subst hbb
 simp only [actC, hf1, hf4, flds_some, names_some] at hF hP hR hPl
 rw [show actC false ⟨k, p, c, some F, i, w, some N, d, n, mm, q, t⟩ = [.v (.int .i64 k), .v (.string p), .v (.int .i64 c), .s false 6 (F.map fldC), .v (.string i), .v (.string w), .s false 1 (N.map strC), .v (.string d), .v (.int .i64 n), .v (.int .i64 mm), .v (.int .u64 q), .v (.int .i64 t)] from rfl] at hCl
 simp only [actC, hf1, hf4]
 clear hf1 hf2 hf3 hf4 hf5 hf6
 have hc0 : ((0 : Nat) : Int) = 0 := rfl
 have hsm : s.size ≤ maxStr := by unfold maxStr; omega
 have he0 : strEq s s = true := strEq_same s
 have hc1 : ((1 : Nat) : Int) = 1 := rfl
 have h1m : (1 : Nat) ≤ maxStr := by unfold maxStr; omega
 by_cases k1 : k < 1
 · rw [hno (by omega)] at hP hR hSc
   clear hSc hrd hno hz hsm he0
   refine Y3 okJo rfl (by repeat first | with_reducible exact Y2 | refine Y1 (by simp only [Y5, Y4, Y6, qev, St.ev, St.put, St.with, D.cells, boxA, C.st, Y8, Y7, List.replicate, Nat.reduceAdd, Nat.reduceSub, if_true, eq_self, ZA]; rfl) ?_) ?_
   refine Y3 okJo rfl (by repeat first | with_reducible exact Y2 | refine Y1 (by simp only [Y5, Y4, Y6, evsA, qev, St.ev, St.put, St.with, D.cells, qload, Y9, qmk, C.cpy, TK.agg, C.st, C.cp, C.dat, storeA, putCells, Nat.reduceAdd, Nat.reduceEqDiff, if_true, if_false, ne_eq, reduceCtorEq, Nat.le_refl, implies_true, Bool.true_or, callP, Yg, argD, argC, argCs, settle, settle1, settleC, Yl, FsJo, hF, eq_self, tk50, tsz50, ZA]; rfl) ?_) ?_
   refine Y3 okJo rfl (by repeat first | with_reducible exact Y2 | refine Y1 (by simp only [Y5, Y4, Y6, evsA, qev, St.ev, St.put, St.with, qload, Y9, qmk, C.cpy, TK.agg, C.cp, C.dat, Nat.reduceAdd, Nat.reduceEqDiff, if_true, if_false, Bool.true_or, callP, Yg, argD, argC, argCs, settle, settle1, settleC, FsJo, hP, eq_self, tk50, tsz50, ZA]; rfl) ?_) ?_
   refine seq_in ?_
   refine Y3 okJo rfl (by repeat first | with_reducible exact Y2 | refine Y1 (by simp only [Y5, Y4, Y6, evsA, qev, St.ev, St.put, St.with, qload, Y9, qmk, C.cpy, TK.agg, qstr, qbin, C.cp, C.dat, Nat.reduceAdd, Nat.reduceEqDiff, if_true, if_false, Bool.not_true, Bool.true_or, callP, Yg, argD, argC, argCs, settle, settle1, settleC, FsJo, hR, eq_self, strEq_same, tk50, tsz50, ZA]; rfl) ?_) ?_
   refine Yf (b := false) rfl (fun h => by cases h) (fun _ => ?_)
   refine Ye ?_
   refine seq_in ?_
   refine Y3 okJo rfl (by repeat first | with_reducible exact Y2 | refine Y1 (by simp only [Y5, Y4, Y6, qev, St.ev, St.put, qload, Y9, qmk, C.cpy, TK.agg, Yb, qpick, qint, Yc, isEq, Ya, qbin, liveR, C.cp, Y8, Y7, Option.bind_none, if_true, if_false, decide_true, cond_true, reduceCtorEq, Nat.add_zero, eq_self, tk50, k1, tsz3, tk3, ZA]; rfl) ?_) ?_
   refine Yf (b := true) rfl (fun _ => ?_) (fun h => by cases h)
   refine Y3 okJo rfl (by repeat first | with_reducible exact Y2 | refine Y1 (by simp only [Y5, Y4, Y6, evsA, qev, St.ev, St.put, St.with, qpick, qstr, qbin, Y8, Y7, Nat.reduceEqDiff, if_true, if_false, cond_true, Bool.true_or, callP, Yg, settle, settle1, settleC, dB, FsJo, pAwake, eq_self, strEq_same, ZA]; rfl) ?_) ?_
   refine Yo (Yp (by simp only [outRes, Yi, resD, outD, outC, C.dat, if_true, eq_self, ZA]; rfl) rfl (by simp) (by simp) ?_)
   exact hQ
 by_cases k2 : 15 < k
 · rw [hno (by omega)] at hP hR hSc
   clear hSc hrd hno hz hsm he0
   refine Y3 okJo rfl (by repeat first | with_reducible exact Y2 | refine Y1 (by simp only [Y5, Y4, Y6, qev, St.ev, St.put, St.with, D.cells, boxA, C.st, Y8, Y7, List.replicate, Nat.reduceAdd, Nat.reduceSub, if_true, eq_self, ZA]; rfl) ?_) ?_
   refine Y3 okJo rfl (by repeat first | with_reducible exact Y2 | refine Y1 (by simp only [Y5, Y4, Y6, evsA, qev, St.ev, St.put, St.with, D.cells, qload, Y9, qmk, C.cpy, TK.agg, C.st, C.cp, C.dat, storeA, putCells, Nat.reduceAdd, Nat.reduceEqDiff, if_true, if_false, ne_eq, reduceCtorEq, Nat.le_refl, implies_true, Bool.true_or, callP, Yg, argD, argC, argCs, settle, settle1, settleC, Yl, FsJo, hF, eq_self, tk50, tsz50, ZA]; rfl) ?_) ?_
   refine Y3 okJo rfl (by repeat first | with_reducible exact Y2 | refine Y1 (by simp only [Y5, Y4, Y6, evsA, qev, St.ev, St.put, St.with, qload, Y9, qmk, C.cpy, TK.agg, C.cp, C.dat, Nat.reduceAdd, Nat.reduceEqDiff, if_true, if_false, Bool.true_or, callP, Yg, argD, argC, argCs, settle, settle1, settleC, FsJo, hP, eq_self, tk50, tsz50, ZA]; rfl) ?_) ?_
   refine seq_in ?_
   refine Y3 okJo rfl (by repeat first | with_reducible exact Y2 | refine Y1 (by simp only [Y5, Y4, Y6, evsA, qev, St.ev, St.put, St.with, qload, Y9, qmk, C.cpy, TK.agg, qstr, qbin, C.cp, C.dat, Nat.reduceAdd, Nat.reduceEqDiff, if_true, if_false, Bool.not_true, Bool.true_or, callP, Yg, argD, argC, argCs, settle, settle1, settleC, FsJo, hR, eq_self, strEq_same, tk50, tsz50, ZA]; rfl) ?_) ?_
   refine Yf (b := false) rfl (fun h => by cases h) (fun _ => ?_)
   refine Ye ?_
   refine seq_in ?_
   refine Y3 okJo rfl (by repeat first | with_reducible exact Y2 | refine Y1 (by simp only [Y5, Y4, Y6, qev, St.ev, St.put, qload, Y9, qmk, C.cpy, TK.agg, Yb, qpick, qint, Yc, Ya, qbin, liveR, C.cp, Y8, Y7, if_true, if_false, decide_true, decide_false, cond_false, reduceCtorEq, Nat.add_zero, eq_self, tk50, k1, k2, tsz3, tk3, ZA]; rfl) ?_) ?_
   refine Yf (b := true) rfl (fun _ => ?_) (fun h => by cases h)
   refine Y3 okJo rfl (by repeat first | with_reducible exact Y2 | refine Y1 (by simp only [Y5, Y4, Y6, evsA, qev, St.ev, St.put, St.with, qpick, qstr, qbin, Y8, Y7, Nat.reduceEqDiff, if_true, if_false, cond_true, Bool.true_or, callP, Yg, settle, settle1, settleC, dB, FsJo, pAwake, eq_self, strEq_same, ZA]; rfl) ?_) ?_
   refine Yo (Yp (by simp only [outRes, Yi, resD, outD, outC, C.dat, if_true, eq_self, ZA]; rfl) rfl (by simp) (by simp) ?_)
   exact hQ
 have g1 : 1 ≤ k := by omega
 have g2 : k ≤ 15 := by omega
 replace hSm := hSm g1 g2
 clear hno
 by_cases hsz : (65536 : Int) < (s.size : Int)
 · clear hrd hSc
   by_cases k3 : k = 1
   · subst k3
     cases pl with
     | false =>
      refine Y3 okJo rfl (by repeat first | with_reducible exact Y2 | refine Y1 (by simp only [Y5, Y4, Y6, qev, St.ev, St.put, St.with, D.cells, boxA, C.st, Y8, Y7, List.replicate, Nat.reduceAdd, Nat.reduceSub, if_true, eq_self, ZA]; rfl) ?_) ?_
      refine Y3 okJo rfl (by repeat first | with_reducible exact Y2 | refine Y1 (by simp only [Y5, Y4, Y6, evsA, qev, St.ev, St.put, St.with, D.cells, qload, Y9, qmk, C.cpy, TK.agg, C.st, C.cp, C.dat, storeA, putCells, Nat.reduceAdd, Nat.reduceEqDiff, if_true, if_false, ne_eq, reduceCtorEq, Nat.le_refl, implies_true, Bool.true_or, callP, Yg, argD, argC, argCs, settle, settle1, settleC, Yl, FsJo, hF, eq_self, tk50, tsz50, ZA]; rfl) ?_) ?_
      refine Y3 okJo rfl (by repeat first | with_reducible exact Y2 | refine Y1 (by simp only [Y5, Y4, Y6, evsA, qev, St.ev, St.put, St.with, qload, Y9, qmk, C.cpy, TK.agg, C.cp, C.dat, Nat.reduceAdd, Nat.reduceEqDiff, if_true, if_false, Bool.true_or, callP, Yg, argD, argC, argCs, settle, settle1, settleC, FsJo, hP, eq_self, tk50, tsz50, ZA]; rfl) ?_) ?_
      refine seq_in ?_
      refine Y3 okJo rfl (by repeat first | with_reducible exact Y2 | refine Y1 (by simp only [Y5, Y4, Y6, evsA, qev, St.ev, St.put, St.with, qload, Y9, qmk, C.cpy, TK.agg, qstr, qbin, C.cp, C.dat, Nat.reduceAdd, Nat.reduceEqDiff, if_true, if_false, Bool.not_true, Bool.true_or, callP, Yg, argD, argC, argCs, settle, settle1, settleC, FsJo, hR, eq_self, strEq_same, tk50, tsz50, ZA]; rfl) ?_) ?_
      refine Yf (b := false) rfl (fun h => by cases h) (fun _ => ?_)
      refine Ye ?_
      refine seq_in ?_
      refine Y3 okJo rfl (by repeat first | with_reducible exact Y2 | refine Y1 (by simp only [Y5, Y4, Y6, qev, St.ev, St.put, qload, Y9, qmk, C.cpy, TK.agg, Yb, qpick, qint, Yc, Ya, qbin, liveR, C.cp, Y8, Y7, if_true, if_false, decide_false, cond_false, reduceCtorEq, Int.reduceLT, Nat.add_zero, eq_self, tk50, tsz3, tk3, ZA]; rfl) ?_) ?_
      refine Yf (b := false) rfl (fun h => by cases h) (fun _ => ?_)
      refine Ye ?_
      refine seq_in ?_
      refine Y3 okJo rfl (by repeat first | with_reducible exact Y2 | refine Y1 (by simp only [Y5, Y4, Y6, evsA, qev, St.ev, St.put, St.with, qload, Y9, qmk, C.cpy, TK.agg, Yb, qpick, qint, Yc, isEq, Ya, qbin, qun, qlen, qbuiltin, liveR, C.cp, C.dat, Y8, Y7, Nat.reduceAdd, Nat.reduceEqDiff, if_true, if_false, decide_true, Bool.not_false, cond_true, reduceCtorEq, Nat.add_zero, Bool.true_or, callP, Yg, argD, argC, argCs, settle, settle1, settleC, dB, FsJo, eq_self, tk50, tsz50, hPl, tsz3, tk3, ZA]; rfl) ?_) ?_
      refine Yf (b := true) rfl (fun _ => ?_) (fun h => by cases h)
      refine Y3 okJo rfl (by repeat first | with_reducible exact Y2 | refine Y1 (by simp only [Y5, Y4, Y6, evsA, qev, St.ev, St.put, St.with, Nat.reduceEqDiff, if_true, if_false, Bool.true_or, callP, Yg, settle, settle1, settleC, dB, FsJo, pAwake, eq_self, ZA]; rfl) ?_) ?_
      refine Yo (Yp (by simp only [outRes, Yi, resD, outD, outC, C.dat, if_true, eq_self, ZA]; rfl) rfl (by simp) (by simp) ?_)
      exact hQ
     | true =>
      refine Y3 okJo rfl (by repeat first | with_reducible exact Y2 | refine Y1 (by simp only [Y5, Y4, Y6, qev, St.ev, St.put, St.with, D.cells, boxA, C.st, Y8, Y7, List.replicate, Nat.reduceAdd, Nat.reduceSub, if_true, eq_self, ZA]; rfl) ?_) ?_
      refine Y3 okJo rfl (by repeat first | with_reducible exact Y2 | refine Y1 (by simp only [Y5, Y4, Y6, evsA, qev, St.ev, St.put, St.with, D.cells, qload, Y9, qmk, C.cpy, TK.agg, C.st, C.cp, C.dat, storeA, putCells, Nat.reduceAdd, Nat.reduceEqDiff, if_true, if_false, ne_eq, reduceCtorEq, Nat.le_refl, implies_true, Bool.true_or, callP, Yg, argD, argC, argCs, settle, settle1, settleC, Yl, FsJo, hF, eq_self, tk50, tsz50, ZA]; rfl) ?_) ?_
      refine Y3 okJo rfl (by repeat first | with_reducible exact Y2 | refine Y1 (by simp only [Y5, Y4, Y6, evsA, qev, St.ev, St.put, St.with, qload, Y9, qmk, C.cpy, TK.agg, C.cp, C.dat, Nat.reduceAdd, Nat.reduceEqDiff, if_true, if_false, Bool.true_or, callP, Yg, argD, argC, argCs, settle, settle1, settleC, FsJo, hP, eq_self, tk50, tsz50, ZA]; rfl) ?_) ?_
      refine seq_in ?_
      refine Y3 okJo rfl (by repeat first | with_reducible exact Y2 | refine Y1 (by simp only [Y5, Y4, Y6, evsA, qev, St.ev, St.put, St.with, qload, Y9, qmk, C.cpy, TK.agg, qstr, qbin, C.cp, C.dat, Nat.reduceAdd, Nat.reduceEqDiff, if_true, if_false, Bool.not_true, Bool.true_or, callP, Yg, argD, argC, argCs, settle, settle1, settleC, FsJo, hR, eq_self, strEq_same, tk50, tsz50, ZA]; rfl) ?_) ?_
      refine Yf (b := false) rfl (fun h => by cases h) (fun _ => ?_)
      refine Ye ?_
      refine seq_in ?_
      refine Y3 okJo rfl (by repeat first | with_reducible exact Y2 | refine Y1 (by simp only [Y5, Y4, Y6, qev, St.ev, St.put, qload, Y9, qmk, C.cpy, TK.agg, Yb, qpick, qint, Yc, Ya, qbin, liveR, C.cp, Y8, Y7, if_true, if_false, decide_false, cond_false, reduceCtorEq, Int.reduceLT, Nat.add_zero, eq_self, tk50, tsz3, tk3, ZA]; rfl) ?_) ?_
      refine Yf (b := false) rfl (fun h => by cases h) (fun _ => ?_)
      refine Ye ?_
      refine seq_in ?_
      refine Y3 okJo rfl (by repeat first | with_reducible exact Y2 | refine Y1 (by simp only [Y5, Y4, Y6, evsA, qev, St.ev, St.put, St.with, qload, Y9, qmk, C.cpy, TK.agg, Yb, qpick, qint, Yc, Ya, qbin, qun, qlen, qbuiltin, liveR, C.cp, C.dat, Y8, Y7, Nat.reduceAdd, Nat.reduceEqDiff, if_true, if_false, decide_true, Bool.not_true, cond_true, cond_false, reduceCtorEq, Nat.add_zero, Bool.true_or, callP, Yg, argD, argC, argCs, settle, settle1, settleC, dB, FsJo, eq_self, tk50, tsz50, hPl, hsz, tsz3, tk3, tk9, ZA]; rfl) ?_) ?_
      refine Yf (b := true) rfl (fun _ => ?_) (fun h => by cases h)
      refine Y3 okJo rfl (by repeat first | with_reducible exact Y2 | refine Y1 (by simp only [Y5, Y4, Y6, evsA, qev, St.ev, St.put, St.with, Nat.reduceEqDiff, if_true, if_false, Bool.true_or, callP, Yg, settle, settle1, settleC, dB, FsJo, pAwake, eq_self, ZA]; rfl) ?_) ?_
      refine Yo (Yp (by simp only [outRes, Yi, resD, outD, outC, C.dat, if_true, eq_self, ZA]; rfl) rfl (by simp) (by simp) ?_)
      exact hQ
   · clear hPl
     refine Y3 okJo rfl (by repeat first | with_reducible exact Y2 | refine Y1 (by simp only [Y5, Y4, Y6, qev, St.ev, St.put, St.with, D.cells, boxA, C.st, Y8, Y7, List.replicate, Nat.reduceAdd, Nat.reduceSub, if_true, eq_self, ZA]; rfl) ?_) ?_
     refine Y3 okJo rfl (by repeat first | with_reducible exact Y2 | refine Y1 (by simp only [Y5, Y4, Y6, evsA, qev, St.ev, St.put, St.with, D.cells, qload, Y9, qmk, C.cpy, TK.agg, C.st, C.cp, C.dat, storeA, putCells, Nat.reduceAdd, Nat.reduceEqDiff, if_true, if_false, ne_eq, reduceCtorEq, Nat.le_refl, implies_true, Bool.true_or, callP, Yg, argD, argC, argCs, settle, settle1, settleC, Yl, FsJo, hF, eq_self, tk50, tsz50, ZA]; rfl) ?_) ?_
     refine Y3 okJo rfl (by repeat first | with_reducible exact Y2 | refine Y1 (by simp only [Y5, Y4, Y6, evsA, qev, St.ev, St.put, St.with, qload, Y9, qmk, C.cpy, TK.agg, C.cp, C.dat, Nat.reduceAdd, Nat.reduceEqDiff, if_true, if_false, Bool.true_or, callP, Yg, argD, argC, argCs, settle, settle1, settleC, FsJo, hP, eq_self, tk50, tsz50, ZA]; rfl) ?_) ?_
     refine seq_in ?_
     refine Y3 okJo rfl (by repeat first | with_reducible exact Y2 | refine Y1 (by simp only [Y5, Y4, Y6, evsA, qev, St.ev, St.put, St.with, qload, Y9, qmk, C.cpy, TK.agg, qstr, qbin, C.cp, C.dat, Nat.reduceAdd, Nat.reduceEqDiff, if_true, if_false, Bool.not_true, Bool.true_or, callP, Yg, argD, argC, argCs, settle, settle1, settleC, FsJo, hR, eq_self, strEq_same, tk50, tsz50, ZA]; rfl) ?_) ?_
     refine Yf (b := false) rfl (fun h => by cases h) (fun _ => ?_)
     refine Ye ?_
     refine seq_in ?_
     refine Y3 okJo rfl (by repeat first | with_reducible exact Y2 | refine Y1 (by simp only [Y5, Y4, Y6, qev, St.ev, St.put, qload, Y9, qmk, C.cpy, TK.agg, Yb, qpick, qint, Yc, Ya, qbin, liveR, C.cp, Y8, Y7, if_true, if_false, decide_false, cond_false, reduceCtorEq, Nat.add_zero, eq_self, tk50, k1, k2, tsz3, tk3, ZA]; rfl) ?_) ?_
     refine Yf (b := false) rfl (fun h => by cases h) (fun _ => ?_)
     refine Ye ?_
     refine seq_in ?_
     refine Y3 okJo rfl (by repeat first | with_reducible exact Y2 | refine Y1 (by simp only [Y5, Y4, Y6, evsA, qev, St.ev, St.put, qload, Y9, qmk, C.cpy, TK.agg, Yb, qpick, qint, Yc, Ya, qbin, qun, qlen, qbuiltin, liveR, C.cp, Y8, Y7, Nat.reduceAdd, Nat.reduceEqDiff, if_true, if_false, decide_true, decide_false, cond_false, reduceCtorEq, Nat.add_zero, callP, callO, Yg, argD, FsJo, eq_self, tk50, tsz50, k3, hsz, tsz3, tk3, tk9, ZA]; rfl) ?_) ?_
     refine Yf (b := true) rfl (fun _ => ?_) (fun h => by cases h)
     refine Y3 okJo rfl (by repeat first | with_reducible exact Y2 | refine Y1 (by simp only [Y5, Y4, Y6, evsA, qev, St.ev, St.put, St.with, Nat.reduceEqDiff, if_true, if_false, Bool.true_or, callP, Yg, settle, settle1, settleC, dB, FsJo, pAwake, eq_self, ZA]; rfl) ?_) ?_
     refine Yo (Yp (by simp only [outRes, Yi, resD, outD, outC, C.dat, if_true, eq_self, ZA]; rfl) rfl (by simp) (by simp) ?_)
     exact hQ
 have hsz2 : s.size ≤ 65536 := by omega
 by_cases k3 : k = 1
 · subst k3
   cases pl with
   | false =>
    clear hrd hSc
    refine Y3 okJo rfl (by repeat first | with_reducible exact Y2 | refine Y1 (by simp only [Y5, Y4, Y6, qev, St.ev, St.put, St.with, D.cells, boxA, C.st, Y8, Y7, List.replicate, Nat.reduceAdd, Nat.reduceSub, if_true, eq_self, ZA]; rfl) ?_) ?_
    refine Y3 okJo rfl (by repeat first | with_reducible exact Y2 | refine Y1 (by simp only [Y5, Y4, Y6, evsA, qev, St.ev, St.put, St.with, D.cells, qload, Y9, qmk, C.cpy, TK.agg, C.st, C.cp, C.dat, storeA, putCells, Nat.reduceAdd, Nat.reduceEqDiff, if_true, if_false, ne_eq, reduceCtorEq, Nat.le_refl, implies_true, Bool.true_or, callP, Yg, argD, argC, argCs, settle, settle1, settleC, Yl, FsJo, hF, eq_self, tk50, tsz50, ZA]; rfl) ?_) ?_
    refine Y3 okJo rfl (by repeat first | with_reducible exact Y2 | refine Y1 (by simp only [Y5, Y4, Y6, evsA, qev, St.ev, St.put, St.with, qload, Y9, qmk, C.cpy, TK.agg, C.cp, C.dat, Nat.reduceAdd, Nat.reduceEqDiff, if_true, if_false, Bool.true_or, callP, Yg, argD, argC, argCs, settle, settle1, settleC, FsJo, hP, eq_self, tk50, tsz50, ZA]; rfl) ?_) ?_
    refine seq_in ?_
    refine Y3 okJo rfl (by repeat first | with_reducible exact Y2 | refine Y1 (by simp only [Y5, Y4, Y6, evsA, qev, St.ev, St.put, St.with, qload, Y9, qmk, C.cpy, TK.agg, qstr, qbin, C.cp, C.dat, Nat.reduceAdd, Nat.reduceEqDiff, if_true, if_false, Bool.not_true, Bool.true_or, callP, Yg, argD, argC, argCs, settle, settle1, settleC, FsJo, hR, eq_self, strEq_same, tk50, tsz50, ZA]; rfl) ?_) ?_
    refine Yf (b := false) rfl (fun h => by cases h) (fun _ => ?_)
    refine Ye ?_
    refine seq_in ?_
    refine Y3 okJo rfl (by repeat first | with_reducible exact Y2 | refine Y1 (by simp only [Y5, Y4, Y6, qev, St.ev, St.put, qload, Y9, qmk, C.cpy, TK.agg, Yb, qpick, qint, Yc, Ya, qbin, liveR, C.cp, Y8, Y7, if_true, if_false, decide_false, cond_false, reduceCtorEq, Int.reduceLT, Nat.add_zero, eq_self, tk50, tsz3, tk3, ZA]; rfl) ?_) ?_
    refine Yf (b := false) rfl (fun h => by cases h) (fun _ => ?_)
    refine Ye ?_
    refine seq_in ?_
    refine Y3 okJo rfl (by repeat first | with_reducible exact Y2 | refine Y1 (by simp only [Y5, Y4, Y6, evsA, qev, St.ev, St.put, St.with, qload, Y9, qmk, C.cpy, TK.agg, Yb, qpick, qint, Yc, isEq, Ya, qbin, qun, qlen, qbuiltin, liveR, C.cp, C.dat, Y8, Y7, Nat.reduceAdd, Nat.reduceEqDiff, if_true, if_false, decide_true, Bool.not_false, cond_true, reduceCtorEq, Nat.add_zero, Bool.true_or, callP, Yg, argD, argC, argCs, settle, settle1, settleC, dB, FsJo, eq_self, tk50, tsz50, hPl, tsz3, tk3, ZA]; rfl) ?_) ?_
    refine Yf (b := true) rfl (fun _ => ?_) (fun h => by cases h)
    refine Y3 okJo rfl (by repeat first | with_reducible exact Y2 | refine Y1 (by simp only [Y5, Y4, Y6, evsA, qev, St.ev, St.put, St.with, Nat.reduceEqDiff, if_true, if_false, Bool.true_or, callP, Yg, settle, settle1, settleC, dB, FsJo, pAwake, eq_self, ZA]; rfl) ?_) ?_
    refine Yo (Yp (by simp only [outRes, Yi, resD, outD, outC, C.dat, if_true, eq_self, ZA]; rfl) rfl (by simp) (by simp) ?_)
    exact hQ
   | true =>
    obtain ⟨h1, h2⟩ := hrd g1 g2 (fun _ => rfl) hsz2
    rw [h1] at hSc
    rw [h2] at hSm
    simp only [actsZ, Option.elim_some, Z24, Z13] at hSc
    clear hrd h1 h2
    refine Y3 okJo rfl (by repeat first | with_reducible exact Y2 | refine Y1 (by simp only [Y5, Y4, Y6, qev, St.ev, St.put, St.with, D.cells, boxA, C.st, Y8, Y7, List.replicate, Nat.reduceAdd, Nat.reduceSub, if_true, eq_self, ZA]; rfl) ?_) ?_
    refine Y3 okJo rfl (by repeat first | with_reducible exact Y2 | refine Y1 (by simp only [Y5, Y4, Y6, evsA, qev, St.ev, St.put, St.with, D.cells, qload, Y9, qmk, C.cpy, TK.agg, C.st, C.cp, C.dat, storeA, putCells, Nat.reduceAdd, Nat.reduceEqDiff, if_true, if_false, ne_eq, reduceCtorEq, Nat.le_refl, implies_true, Bool.true_or, callP, Yg, argD, argC, argCs, settle, settle1, settleC, Yl, FsJo, hF, eq_self, tk50, tsz50, ZA]; rfl) ?_) ?_
    refine Y3 okJo rfl (by repeat first | with_reducible exact Y2 | refine Y1 (by simp only [Y5, Y4, Y6, evsA, qev, St.ev, St.put, St.with, qload, Y9, qmk, C.cpy, TK.agg, C.cp, C.dat, Nat.reduceAdd, Nat.reduceEqDiff, if_true, if_false, Bool.true_or, callP, Yg, argD, argC, argCs, settle, settle1, settleC, FsJo, hP, eq_self, tk50, tsz50, ZA]; rfl) ?_) ?_
    refine seq_in ?_
    refine Y3 okJo rfl (by repeat first | with_reducible exact Y2 | refine Y1 (by simp only [Y5, Y4, Y6, evsA, qev, St.ev, St.put, St.with, qload, Y9, qmk, C.cpy, TK.agg, qstr, qbin, C.cp, C.dat, Nat.reduceAdd, Nat.reduceEqDiff, if_true, if_false, Bool.not_true, Bool.true_or, callP, Yg, argD, argC, argCs, settle, settle1, settleC, FsJo, hR, eq_self, strEq_same, tk50, tsz50, ZA]; rfl) ?_) ?_
    refine Yf (b := false) rfl (fun h => by cases h) (fun _ => ?_)
    refine Ye ?_
    refine seq_in ?_
    refine Y3 okJo rfl (by repeat first | with_reducible exact Y2 | refine Y1 (by simp only [Y5, Y4, Y6, qev, St.ev, St.put, qload, Y9, qmk, C.cpy, TK.agg, Yb, qpick, qint, Yc, Ya, qbin, liveR, C.cp, Y8, Y7, if_true, if_false, decide_false, cond_false, reduceCtorEq, Int.reduceLT, Nat.add_zero, eq_self, tk50, tsz3, tk3, ZA]; rfl) ?_) ?_
    refine Yf (b := false) rfl (fun h => by cases h) (fun _ => ?_)
    refine Ye ?_
    refine seq_in ?_
    refine Y3 okJo rfl (by repeat first | with_reducible exact Y2 | refine Y1 (by simp only [Y5, Y4, Y6, evsA, qev, St.ev, St.put, St.with, qload, Y9, qmk, C.cpy, TK.agg, Yb, qpick, qint, Yc, Ya, qbin, qun, qlen, qbuiltin, liveR, C.cp, C.dat, Y8, Y7, Nat.reduceAdd, Nat.reduceEqDiff, if_true, if_false, decide_true, decide_false, Bool.not_true, cond_true, cond_false, reduceCtorEq, Nat.add_zero, Bool.true_or, callP, Yg, argD, argC, argCs, settle, settle1, settleC, dB, FsJo, eq_self, tk50, tsz50, hPl, hsz, tsz3, tk3, tk9, ZA]; rfl) ?_) ?_
    refine Yf (b := false) rfl (fun h => by cases h) (fun _ => ?_)
    refine Ye ?_
    refine Y3 okJo rfl (by repeat first | with_reducible exact Y2 | refine Y1 (by simp only [Y5, Y4, Y6, evsA, qev, St.ev, St.put, St.with, C.cpy, qext, C.cp, C.dat, Nat.reduceEqDiff, if_true, if_false, Bool.true_or, callP, Yg, argD, argC, settle, settle1, settleC, settleDs, FsJo, eq_self, hSc, ZA]; rfl) ?_) ?_
    refine Yj mixed okJo rfl (by kernel_rfl) ?_
    refine ⟨_, (by repeat first | with_reducible exact Y2 | refine Y1 (by simp only [Y5, Y4, Y6, evsA, qev, St.ev, St.put, St.with, D.int, qload, Y9, qmk, C.cpy, TK.agg, qindexAddr, qpick, qint, Yc, Ya, qbin, qlen, qbuiltin, C.cp, C.dat, Y8, Y7, Nat.reduceAdd, Nat.reduceEqDiff, if_true, if_false, decide_true, cond_true, ne_eq, reduceCtorEq, Int.reduceLT, Int.reduceLE, Bool.true_or, callP, Yg, argD, argC, argCs, settle, settle1, settleC, dB, FsJo, pAwake, eq_self, tk50, tsz50, tk45, act_take, act_cpy2, act_arg, act_cp, act_len, act_settle, Int.toNat_zero, h1m, hc1, hSm, hCl, ZA]; rfl) ?_), ?_⟩
    refine Yo (Yp (by simp only [outRes, Yi, resD, outD, outC, C.dat, if_true, eq_self, ZA]; rfl) rfl (by simp) (by simp) ?_)
    exact hQ
 · obtain ⟨h1, h2⟩ := hrd g1 g2 (fun h => absurd h k3) hsz2
   rw [h1] at hSc
   rw [h2] at hSm
   simp only [actsZ, Option.elim_some, Z24, Z13] at hSc
   clear hrd h1 h2 hPl
   refine Y3 okJo rfl (by repeat first | with_reducible exact Y2 | refine Y1 (by simp only [Y5, Y4, Y6, qev, St.ev, St.put, St.with, D.cells, boxA, C.st, Y8, Y7, List.replicate, Nat.reduceAdd, Nat.reduceSub, if_true, eq_self, ZA]; rfl) ?_) ?_
   refine Y3 okJo rfl (by repeat first | with_reducible exact Y2 | refine Y1 (by simp only [Y5, Y4, Y6, evsA, qev, St.ev, St.put, St.with, D.cells, qload, Y9, qmk, C.cpy, TK.agg, C.st, C.cp, C.dat, storeA, putCells, Nat.reduceAdd, Nat.reduceEqDiff, if_true, if_false, ne_eq, reduceCtorEq, Nat.le_refl, implies_true, Bool.true_or, callP, Yg, argD, argC, argCs, settle, settle1, settleC, Yl, FsJo, hF, eq_self, tk50, tsz50, ZA]; rfl) ?_) ?_
   refine Y3 okJo rfl (by repeat first | with_reducible exact Y2 | refine Y1 (by simp only [Y5, Y4, Y6, evsA, qev, St.ev, St.put, St.with, qload, Y9, qmk, C.cpy, TK.agg, C.cp, C.dat, Nat.reduceAdd, Nat.reduceEqDiff, if_true, if_false, Bool.true_or, callP, Yg, argD, argC, argCs, settle, settle1, settleC, FsJo, hP, eq_self, tk50, tsz50, ZA]; rfl) ?_) ?_
   refine seq_in ?_
   refine Y3 okJo rfl (by repeat first | with_reducible exact Y2 | refine Y1 (by simp only [Y5, Y4, Y6, evsA, qev, St.ev, St.put, St.with, qload, Y9, qmk, C.cpy, TK.agg, qstr, qbin, C.cp, C.dat, Nat.reduceAdd, Nat.reduceEqDiff, if_true, if_false, Bool.not_true, Bool.true_or, callP, Yg, argD, argC, argCs, settle, settle1, settleC, FsJo, hR, eq_self, strEq_same, tk50, tsz50, ZA]; rfl) ?_) ?_
   refine Yf (b := false) rfl (fun h => by cases h) (fun _ => ?_)
   refine Ye ?_
   refine seq_in ?_
   refine Y3 okJo rfl (by repeat first | with_reducible exact Y2 | refine Y1 (by simp only [Y5, Y4, Y6, qev, St.ev, St.put, qload, Y9, qmk, C.cpy, TK.agg, Yb, qpick, qint, Yc, Ya, qbin, liveR, C.cp, Y8, Y7, if_true, if_false, decide_false, cond_false, reduceCtorEq, Nat.add_zero, eq_self, tk50, k1, k2, tsz3, tk3, ZA]; rfl) ?_) ?_
   refine Yf (b := false) rfl (fun h => by cases h) (fun _ => ?_)
   refine Ye ?_
   refine seq_in ?_
   refine Y3 okJo rfl (by repeat first | with_reducible exact Y2 | refine Y1 (by simp only [Y5, Y4, Y6, evsA, qev, St.ev, St.put, qload, Y9, qmk, C.cpy, TK.agg, Yb, qpick, qint, Yc, Ya, qbin, qun, qlen, qbuiltin, liveR, C.cp, Y8, Y7, Nat.reduceAdd, Nat.reduceEqDiff, if_true, if_false, decide_false, cond_false, reduceCtorEq, Nat.add_zero, callP, callO, Yg, argD, FsJo, eq_self, tk50, tsz50, k3, hsz, tsz3, tk3, tk9, ZA]; rfl) ?_) ?_
   refine Yf (b := false) rfl (fun h => by cases h) (fun _ => ?_)
   refine Ye ?_
   refine Y3 okJo rfl (by repeat first | with_reducible exact Y2 | refine Y1 (by simp only [Y5, Y4, Y6, evsA, qev, St.ev, St.put, St.with, C.cpy, qext, C.cp, C.dat, Nat.reduceEqDiff, if_true, if_false, Bool.true_or, callP, Yg, argD, argC, settle, settle1, settleC, settleDs, FsJo, eq_self, hSc, ZA]; rfl) ?_) ?_
   refine Yj mixed okJo rfl (by kernel_rfl) ?_
   refine ⟨_, (by repeat first | with_reducible exact Y2 | refine Y1 (by simp only [Y5, Y4, Y6, evsA, qev, St.ev, St.put, St.with, D.int, qload, Y9, qmk, C.cpy, TK.agg, qindexAddr, qpick, qint, Yc, Ya, qbin, qlen, qbuiltin, C.cp, C.dat, Y8, Y7, Nat.reduceAdd, Nat.reduceEqDiff, if_true, if_false, decide_true, cond_true, ne_eq, reduceCtorEq, Int.reduceLT, Int.reduceLE, Bool.true_or, callP, Yg, argD, argC, argCs, settle, settle1, settleC, dB, FsJo, pAwake, eq_self, tk50, tsz50, tk45, act_take, act_cpy2, act_arg, act_cp, act_len, act_settle, Int.toNat_zero, h1m, hc1, hSm, hCl, ZA]; rfl) ?_), ?_⟩
   refine Yo (Yp (by simp only [outRes, Yi, resD, outD, outC, C.dat, if_true, eq_self, ZA]; rfl) rfl (by simp) (by simp) ?_)
   exact hQ
end Go.Dl

namespace Go.Dl
open Go.RowKit
open Go.Proofs
set_option linter.unusedVariables false
theorem ty_int {t : TypeId} {cs : List C} {k : IntKind} (hk : tk Try.prog t = some (.int k)) (h : Ty Try.prog t cs) : ∃ n, cs = [.v (.int k n)] ∧ inR k n = true := by
 cases h with
 | int h1 hn => rw [hk] at h1; cases h1; exact ⟨_, rfl, hn⟩
 | bool h1 => rw [hk] at h1; cases h1
 | str h1 _ => rw [hk] at h1; cases h1
 | slice h1 _ _ _ => rw [hk] at h1; cases h1
 | arr h1 _ _ => rw [hk] at h1; cases h1
 | st h1 _ => rw [hk] at h1; cases h1
theorem ty_bool {t : TypeId} {cs : List C} (hk : tk Try.prog t = some .bool) (h : Ty Try.prog t cs) : ∃ b, cs = [.v (.bool b)] := by
 cases h with
 | int h1 hn => rw [hk] at h1; cases h1
 | bool h1 => exact ⟨_, rfl⟩
 | str h1 _ => rw [hk] at h1; cases h1
 | slice h1 _ _ _ => rw [hk] at h1; cases h1
 | arr h1 _ _ => rw [hk] at h1; cases h1
 | st h1 _ => rw [hk] at h1; cases h1
theorem ty_str {t : TypeId} {cs : List C} (hk : tk Try.prog t = some .str) (h : Ty Try.prog t cs) : ∃ s, cs = [.v (.string s)] ∧ s.size ≤ maxStr := by
 cases h with
 | int h1 hn => rw [hk] at h1; cases h1
 | bool h1 => rw [hk] at h1; cases h1
 | str h1 hs => exact ⟨_, rfl, hs⟩
 | slice h1 _ _ _ => rw [hk] at h1; cases h1
 | arr h1 _ _ => rw [hk] at h1; cases h1
 | st h1 _ => rw [hk] at h1; cases h1
theorem ty_slice {t e : TypeId} {cs : List C} (hk : tk Try.prog t = some (.slice e)) (h : Ty Try.prog t cs) : ∃ rows, cs = [.s false (tsz Try.prog e) rows] ∧ (∀ r, r ∈ rows → Ty Try.prog e r) ∧ rows.length ≤ maxStr := by
 cases h with
 | int h1 hn => rw [hk] at h1; cases h1
 | bool h1 => rw [hk] at h1; cases h1
 | str h1 hs => rw [hk] at h1; cases h1
 | slice h1 h2 _ h4 => rw [hk] at h1; cases h1; exact ⟨_, rfl, h2, h4⟩
 | arr h1 _ _ => rw [hk] at h1; cases h1
 | st h1 _ => rw [hk] at h1; cases h1
theorem ty_st {t : TypeId} {cs : List C} {fs : List (TypeId × Nat)} (hk : tk Try.prog t = some (.st fs)) (h : Ty Try.prog t cs) : ∃ css, cs = css.flatten ∧ TyL Try.prog fs css := by
 cases h with
 | int h1 hn => rw [hk] at h1; cases h1
 | bool h1 => rw [hk] at h1; cases h1
 | str h1 hs => rw [hk] at h1; cases h1
 | slice h1 _ _ _ => rw [hk] at h1; cases h1
 | arr h1 _ _ => rw [hk] at h1; cases h1
 | st h1 hf => rw [hk] at h1; cases h1; exact ⟨_, rfl, hf⟩
theorem tyL_cons {x : TypeId × Nat} {xs : List (TypeId × Nat)} {css : List (List C)} (h : TyL Try.prog (x :: xs) css) : ∃ c cs, css = c :: cs ∧ Ty Try.prog x.1 c ∧ TyL Try.prog xs cs := by
 cases h with
 | cons h1 h2 => exact ⟨_, _, rfl, h1, h2⟩
theorem tyL_nil {css : List (List C)} (h : TyL Try.prog [] css) : css = [] := by cases h; rfl
theorem rows_map {α : Type} {B : α → List C} {p : α → Prop} : ∀ rows : List (List C), (∀ r ∈ rows, ∃ x, r = B x ∧ p x) → ∃ l : List α, rows = l.map B ∧ ∀ x ∈ l, p x
 | [], h => ⟨[], rfl, by intro x hx; cases hx⟩
 | r :: rows, h => by
  obtain ⟨x, hx, px⟩ := h r (List.mem_cons_self ..)
  obtain ⟨l, hl, pl⟩ := rows_map rows (fun y hy => h y (List.mem_cons_of_mem _ hy))
  refine ⟨x :: l, by rw [hx, hl]; rfl, ?_⟩
  intro y hy
  rcases List.mem_cons.1 hy with rfl | hy
  · exact px
  · exact pl y hy
def valOk (v : Val) : Prop := inR .i64 v.2.2.1 = true ∧ inR .u64 v.2.2.2.1 = true ∧ v.2.2.2.2.size ≤ maxStr
theorem ty_val {cs : List C} (h : Ty Try.prog 39 cs) : ∃ v : Val, cs = valC v ∧ valOk v := by
 obtain ⟨css, rfl, u1⟩ := ty_st tk39 h
 obtain ⟨c1, _, rfl, g1, u2⟩ := tyL_cons u1
 obtain ⟨c2, _, rfl, g2, u3⟩ := tyL_cons u2
 obtain ⟨c3, _, rfl, g3, u4⟩ := tyL_cons u3
 obtain ⟨c4, _, rfl, g4, u5⟩ := tyL_cons u4
 obtain ⟨c5, _, rfl, g5, u6⟩ := tyL_cons u5
 obtain rfl := tyL_nil u6
 obtain ⟨a, rfl, _⟩ := ty_int tk3 g1
 obtain ⟨b, rfl⟩ := ty_bool tk4 g2
 obtain ⟨c, rfl, hc⟩ := ty_int tk2 g3
 obtain ⟨d, rfl, hd⟩ := ty_int tk37 g4
 obtain ⟨e, rfl, he⟩ := ty_str tk9 g5
 exact ⟨(a, b, c, d, e), rfl, hc, hd, he⟩
theorem ty_fld {cs : List C} (h : Ty Try.prog 91 cs) : ∃ f : Fld, cs = fldC f ∧ f.1.size ≤ maxStr ∧ valOk f.2 := by
 obtain ⟨css, rfl, u7⟩ := ty_st tk91 h
 obtain ⟨c1, _, rfl, g1, u8⟩ := tyL_cons u7
 obtain ⟨c2, _, rfl, g2, u9⟩ := tyL_cons u8
 obtain rfl := tyL_nil u9
 obtain ⟨a, rfl, ha⟩ := ty_str tk9 g1
 obtain ⟨v, rfl, hv⟩ := ty_val g2
 exact ⟨(a, v), rfl, ha, hv⟩
theorem ty_act {cs : List C} (h : Ty Try.prog 50 cs) : ∃ a : ActM, cs = actC false a ∧ inOk a := by
 obtain ⟨css, rfl, u10⟩ := ty_st tk50 h
 obtain ⟨c1, _, rfl, g1, u11⟩ := tyL_cons u10
 obtain ⟨c2, _, rfl, g2, u12⟩ := tyL_cons u11
 obtain ⟨c3, _, rfl, g3, u13⟩ := tyL_cons u12
 obtain ⟨c4, _, rfl, g4, u14⟩ := tyL_cons u13
 obtain ⟨c5, _, rfl, g5, u15⟩ := tyL_cons u14
 obtain ⟨c6, _, rfl, g6, u16⟩ := tyL_cons u15
 obtain ⟨c7, _, rfl, g7, u17⟩ := tyL_cons u16
 obtain ⟨c8, _, rfl, g8, u18⟩ := tyL_cons u17
 obtain ⟨c9, _, rfl, g9, u19⟩ := tyL_cons u18
 obtain ⟨c10, _, rfl, g10, u20⟩ := tyL_cons u19
 obtain rfl := tyL_nil u20
 obtain ⟨k, rfl, hk⟩ := ty_int tk3 g1
 obtain ⟨css, rfl, u21⟩ := ty_st tk48 g2
 obtain ⟨d1, _, rfl, p1, u22⟩ := tyL_cons u21
 obtain ⟨d2, _, rfl, p2, u23⟩ := tyL_cons u22
 obtain ⟨d3, _, rfl, p3, u24⟩ := tyL_cons u23
 obtain rfl := tyL_nil u24
 obtain ⟨pid, rfl, hpid⟩ := ty_str tk9 p1
 obtain ⟨cls, rfl, hcls⟩ := ty_int tk3 p2
 obtain ⟨rows, rfl, hrows, hlen⟩ := ty_slice tk46 p3
 obtain ⟨fs, rfl, hfs⟩ := rows_map (B := fldC) (p := fun f => f.1.size ≤ maxStr ∧ valOk f.2) rows (fun r hr => ty_fld (hrows r hr))
 obtain ⟨id, rfl, hid⟩ := ty_str tk9 g3
 obtain ⟨nm, rfl, hnm⟩ := ty_str tk9 g4
 obtain ⟨rows, rfl, hrows2, hlen2⟩ := ty_slice tk28 g5
 obtain ⟨ns, rfl, hns⟩ := rows_map (B := strC) (p := fun s => s.size ≤ maxStr) rows (fun r hr => by
  obtain ⟨s, rfl, hs⟩ := ty_str tk9 (hrows2 r hr)
  exact ⟨s, rfl, hs⟩)
 obtain ⟨dr, rfl, hdr⟩ := ty_str tk9 g6
 obtain ⟨n, rfl, hn⟩ := ty_int tk3 g7
 obtain ⟨m, rfl, hm⟩ := ty_int tk3 g8
 obtain ⟨kp, rfl, hkp⟩ := ty_int tk37 g9
 obtain ⟨te, rfl, hte⟩ := ty_int tk3 g10
 rw [List.length_map] at hlen hlen2
 refine ⟨⟨k, pid, cls, some fs, id, nm, some ns, dr, n, m, kp, te⟩, ?_, ⟨⟨hpid, hlen, fun f hf => ⟨(hfs f hf).1, (hfs f hf).2.2.2⟩, hid, hnm, hdr, hlen2, hns⟩, hk, hcls, hn, hm, hkp, hte, fun f hf => ⟨(hfs f hf).2.1, (hfs f hf).2.2.1⟩⟩⟩
 rw [tsz91, tsz9]
 rfl
end Go.Dl
