/- Plain facts of the parser's parts; the walk of paper; Plain facts: how far the parser's parts go; the walks of args, arg. -/
import Derived.Test.YtbefgbljlmnfoaaU10
set_option linter.all false
namespace Go.Dl
open Go.RowKit
open Go.Proofs
set_option linter.unusedSimpArgs false
set_option linter.unusedVariables false
def okPre (l : List Tok) (i : Nat) (e : Int) : Prop := paPre l i ∧ numPre l ∧ posPre l e
theorem okPre.at {l : List Tok} {i : Nat} {e : Int} (h : okPre l i e) {j : Nat} (hj : j ≤ l.length) : okPre l j e := ⟨⟨h.1.1, hj, h.1.2.2⟩, h.2⟩
def numT (l : List Tok) (i : Nat) (e bad : Int) : Int × Nat × Int := (numberF l i e bad).getD (0, i, bad)
theorem numT_some {l : List Tok} {i : Nat} {e bad : Int} (h : okPre l i e) : numberF l i e bad = some (numT l i e bad) := by
 have hx : ∃ r, numberF l i e bad = some r := by
  by_cases h0 : 0 ≤ (takeF l i e bad 1).2.2
  · unfold numberF; rw [if_pos h0]; exact ⟨_, rfl⟩
  · have h1 : ∃ t, l[i]? = some t ∧ t.1 = 1 := by
     have hf := fail_pos h.2.2 i bad
     unfold takeF at h0
     split at h0
     · exfalso; apply h0; assumption
     · split at h0
       · rename_i t ht
         split at h0
         · rename_i hk; exact ⟨t, ht, hk⟩
         · exact absurd hf h0
       · exact absurd hf h0
    obtain ⟨t, ht, hk⟩ := h1
    exact numberF_some h.1 h.2.1 ht hk
 obtain ⟨r, hr⟩ := hx
 unfold numT; rw [hr]; rfl
theorem numberF_le {l : List Tok} {i : Nat} {e bad : Int} {r : Int × Nat × Int} (h : numberF l i e bad = some r) (hi : i ≤ l.length) : r.2.1 ≤ l.length := by
 have ht := takeF_le (e := e) (bad := bad) (k := 1) hi
 unfold numberF at h
 repeat' split at h
 all_goals first | (cases h; first | exact ht | exact hi) | cases h
theorem numT_le {l : List Tok} {i : Nat} {e bad : Int} (h : okPre l i e) : (numT l i e bad).2.1 ≤ l.length := numberF_le (numT_some h) h.1.2.1
theorem floatF_le {l : List Tok} {i : Nat} {e bad : Int} (hi : i ≤ l.length) : (floatF l i e bad).2.1 ≤ l.length := by
 have hA : (flA l i e bad).1 ≤ l.length := markF_le hi
 have hB : (flB l i e bad).2.1 ≤ l.length := takeF_le hA
 unfold floatF
 split
 · exact hB
 · split
   · exact hA
   · split
     · exact markF_le hA
     · exact markF_le hB
theorem wordF_le {l : List Tok} {i : Nat} {e bad : Int} {w : ByteArray} (hi : i < l.length) : (wordF l i e bad w).2.1 ≤ l.length := by
 unfold wordF
 split
 · exact hi
 split
 · exact hi
 split
 · exact hi
 split
 · exact floatF_le hi
 · exact Nat.le_of_lt hi
theorem valueF_le {l : List Tok} {i : Nat} {e bad : Int} (hi : i ≤ l.length) : (valueF l i e bad).2.1 ≤ l.length := by
 unfold valueF
 split
 · exact hi
 · split
   · exact hi
   · rename_i t ht
     have hlt : i < l.length := (List.getElem?_eq_some_iff.1 ht).1
     split
     · split
       · rename_i r hr; exact numberF_le hr hi
       · exact hi
     split
     · exact hlt
     split
     · exact wordF_le hlt
     · exact hi
theorem num_at {l : List Tok} (i : Nat) (e bad : Int) (h : okPre l i e) : oNumber [.c (.p 0 0 0)] [⟨4, [[.s false 3 (l.map tokC), .v (.int .i64 i), .v (.int .i64 e), .v (.int .i64 bad)]]⟩] =
  some (.c (.v (.int .i64 (numT l i e bad).1)), [⟨4, [[.s false 3 (l.map tokC), .v (.int .i64 (numT l i e bad).2.1), .v (.int .i64 e), .v (.int .i64 (numT l i e bad).2.2)]]⟩]) :=
 number_at i e bad h.1 (numT_some h)
theorem value_at {l : List Tok} (i : Nat) (e bad : Int) (h : okPre l i e) : oValue [.c (.p 0 0 0)] [⟨4, [[.s false 3 (l.map tokC), .v (.int .i64 i), .v (.int .i64 e), .v (.int .i64 bad)]]⟩] =
  some (.agg (valC (valueF l i e bad).1), [⟨4, [[.s false 3 (l.map tokC), .v (.int .i64 (valueF l i e bad).2.1), .v (.int .i64 e), .v (.int .i64 (valueF l i e bad).2.2)]]⟩]) :=
 famO_at (fun x y h => pa_inj4 x y h) (l, i, e, bad) ⟨h.1, h.2.1⟩ rfl
abbrev Fld := ByteArray × Val
def fldC (f : Fld) : List C := [.v (.string f.1), .v (.int .i64 f.2.1), .v (.bool f.2.2.1), .v (.int .i64 f.2.2.2.1), .v (.int .u64 f.2.2.2.2.1), .v (.string f.2.2.2.2.2)]
theorem fld_cp (l : List Fld) : ((l.map fldC).all fun row => row.all C.cp) = true := by
 rw [List.all_eq_true]
 intro row h
 obtain ⟨x, _, rfl⟩ := List.mem_map.1 h
 rfl
def eqm : ByteArray := ⟨#[61]⟩
def paQ (l : List Tok) (e : Int) (i : Nat) (bad : Int) : Nat × Int := markF l (takeF l i e bad 2).2.1 e (takeF l i e bad 2).2.2 eqm
def paV (l : List Tok) (e : Int) (i : Nat) (bad : Int) : Val × Nat × Int := valueF l (paQ l e i bad).1 e (paQ l e i bad).2
def paFld (l : List Tok) (e : Int) (i : Nat) (bad : Int) : Fld := ((takeF l i e bad 2).1, (paV l e i bad).1)
theorem paQ_le {l : List Tok} {e : Int} {i : Nat} {bad : Int} (hi : i ≤ l.length) : (paQ l e i bad).1 ≤ l.length := markF_le (takeF_le hi)
theorem paV_le {l : List Tok} {e : Int} {i : Nat} {bad : Int} (hi : i ≤ l.length) : (paV l e i bad).2.1 ≤ l.length := valueF_le (paQ_le hi)
theorem fail_bad {l : List Tok} {i : Nat} {e bad : Int} (h : 0 ≤ bad) : failF l i e bad = bad := by unfold failF; rw [if_neg (by omega)]
theorem peek_bad {l : List Tok} {i : Nat} {bad : Int} {m : ByteArray} (h : 0 ≤ bad) : peekF l i bad m = false := by unfold peekF; rw [show decide (bad < 0) = false from decide_eq_false (by omega)]; rfl
theorem mark_bad {l : List Tok} {i : Nat} {e bad : Int} {m : ByteArray} (h : 0 ≤ bad) : markF l i e bad m = (i, bad) := by
 unfold markF
 rw [peek_bad h, fail_bad h]; rfl
theorem take_bad2 {l : List Tok} {i : Nat} {e bad k : Int} (h : 0 ≤ bad) : (takeF l i e bad k).2 = (i, bad) := by unfold takeF; rw [if_pos h]
theorem value_bad {l : List Tok} {i : Nat} {e bad : Int} (h : 0 ≤ bad) : valueF l i e bad = (val0, i, bad) := by unfold valueF; rw [if_pos h, fail_bad h]
theorem paV_bad {l : List Tok} {e : Int} {i : Nat} {bad : Int} (h : 0 ≤ bad) : (paV l e i bad).2.2 = bad := by
 unfold paV paQ
 rw [take_bad2 h, mark_bad h, value_bad h]
/-- The fields of a paper. -/
def paperGo (l : List Tok) (e : Int) : Nat → Nat → Nat → Int → List Fld → List Fld × Nat × Int
 | 0, _, i, bad, acc => (acc, i, bad)
 | k + 1, c, i, bad, acc => if bad < 0 then (if peekF l i bad rpar = true then (acc, i, bad)
   else if (0 : Int) < (c : Int) then (if (100 : Int) ≤ (c : Int) then paperGo l e k (c + 1) (paV l e (markF l i e bad comma).1 (failF l (markF l i e bad comma).1 e (markF l i e bad comma).2)).2.1 (paV l e (markF l i e bad comma).1 (failF l (markF l i e bad comma).1 e (markF l i e bad comma).2)).2.2 (acc ++ [paFld l e (markF l i e bad comma).1 (failF l (markF l i e bad comma).1 e (markF l i e bad comma).2)])
    else paperGo l e k (c + 1) (paV l e (markF l i e bad comma).1 (markF l i e bad comma).2).2.1 (paV l e (markF l i e bad comma).1 (markF l i e bad comma).2).2.2 (acc ++ [paFld l e (markF l i e bad comma).1 (markF l i e bad comma).2]))
   else paperGo l e k (c + 1) (paV l e i bad).2.1 (paV l e i bad).2.2 (acc ++ [paFld l e i bad]))
  else (acc, i, bad)
abbrev Paper := ByteArray × Int × List Fld
def paI (l : List Tok) (i : Nat) (e bad : Int) : Int × Nat × Int := numT l (takeF l i e bad 2).2.1 e (takeF l i e bad 2).2.2
def paM (l : List Tok) (i : Nat) (e bad : Int) : Nat × Int := markF l (paI l i e bad).2.1 e (paI l i e bad).2.2 lpar
def paperR (l : List Tok) (i : Nat) (e bad : Int) : List Fld × Nat × Int := paperGo l e 102 0 (paM l i e bad).1 (paM l i e bad).2 []
def paperF (l : List Tok) (i : Nat) (e bad : Int) : Paper × Nat × Int := (((takeF l i e bad 2).1, (paI l i e bad).1, (paperR l i e bad).1), markF l (paperR l i e bad).2.1 e (paperR l i e bad).2.2 rpar)
theorem paper_eq {l : List Tok} {i : Nat} {e bad : Int} {r : List Fld × Nat × Int} (h : paperR l i e bad = r) : paperF l i e bad = (((takeF l i e bad 2).1, (paI l i e bad).1, r.1), markF l r.2.1 e r.2.2 rpar) := by subst h; rfl
noncomputable def FsJ1 : Fs := { pure := fun _ => none, objs := fun k => if k = 62 then some oFail else if k = 68 then some oTakeP else if k = 70 then some oMark else if k = 82 then some oPeek else if k = 63 then some oNumber else if k = 39 then some oValue else none }
theorem okJ1 : FsOK Try.prog FsJ1 := by
 refine ⟨fun k f h => ?_, fun k f h => ?_⟩
 · cases h
 · simp only [FsJ1] at h
   split at h
   · rename_i hk; subst hk; cases h; exact ⟨by kernel_rfl, meets62⟩
   split at h
   · rename_i hk; subst hk; cases h; exact ⟨by kernel_rfl, meets68⟩
   split at h
   · rename_i hk; subst hk; cases h; exact ⟨by kernel_rfl, meets70⟩
   split at h
   · rename_i hk; subst hk; cases h; exact ⟨by kernel_rfl, meets82⟩
   split at h
   · rename_i hk; subst hk; cases h; exact ⟨by kernel_rfl, meets63⟩
   split at h
   · rename_i hk; subst hk; cases h; exact ⟨by kernel_rfl, meets39⟩
   · cases h
def papC (own : Bool) (p : Paper) : List C := [.v (.string p.1), .v (.int .i64 p.2.1), .s own 6 (p.2.2.map fldC)]
noncomputable def oPaper0 := famO (fun x : List Tok × Nat × Int × Int => okPre x.1 x.2.1 x.2.2.1) (fun x => ([.c (.p 0 0 0)], [paObj x.1 x.2.1 x.2.2.1 x.2.2.2]))
 (fun x => (.agg (papC true (paperF x.1 x.2.1 x.2.2.1 x.2.2.2).1), [paObj x.1 (paperF x.1 x.2.1 x.2.2.1 x.2.2.2).2.1 x.2.2.1 (paperF x.1 x.2.1 x.2.2.1 x.2.2.2).2.2]))
theorem meets81 : Meets Try.prog 81 (detS oPaper0) := by
 refine meets_famO (show Try.prog.funcs[81]? = some Try.f81 by kernel_rfl) rfl (n := 50) rfl (rs := [ResultVar.cell 2 48]) rfl ?_
 rintro ⟨l, i0, e, bad0⟩ hpre Q hQ
 dsimp only at hpre hQ
 simp only [paObj] at hQ
 have hl : l.length ≤ 1000000 := hpre.1.1
 have hi0 : i0 ≤ l.length := hpre.1.2.1
 have hT0 := take_at hl i0 e bad0 2 hi0
 have hj1 : (takeF l i0 e bad0 2).2.1 ≤ l.length := takeF_le hi0
 have hN0 : oNumber [.c (.p 0 0 0)] [⟨4, [[.s false 3 (l.map tokC), .v (.int .i64 (takeF l i0 e bad0 2).2.1), .v (.int .i64 e), .v (.int .i64 (takeF l i0 e bad0 2).2.2)]]⟩] =
  some (.c (.v (.int .i64 (paI l i0 e bad0).1)), [⟨4, [[.s false 3 (l.map tokC), .v (.int .i64 (paI l i0 e bad0).2.1), .v (.int .i64 e), .v (.int .i64 (paI l i0 e bad0).2.2)]]⟩]) := num_at _ e _ (hpre.at hj1)
 have hj2 : (paI l i0 e bad0).2.1 ≤ l.length := numT_le (hpre.at hj1)
 have hM0 : oMark [.c (.p 0 0 0), .c (.v (.string ⟨#[40]⟩))] [⟨4, [[.s false 3 (l.map tokC), .v (.int .i64 (paI l i0 e bad0).2.1), .v (.int .i64 e), .v (.int .i64 (paI l i0 e bad0).2.2)]]⟩] =
  some (.t [], [⟨4, [[.s false 3 (l.map tokC), .v (.int .i64 (paM l i0 e bad0).1), .v (.int .i64 e), .v (.int .i64 (paM l i0 e bad0).2)]]⟩]) := mark_at hl _ e _ lpar hj2
 have hj0 : (paM l i0 e bad0).1 ≤ l.length := markF_le hj2
 obtain ⟨res, hres⟩ : ∃ res, paperR l i0 e bad0 = res := ⟨_, rfl⟩
 rw [paper_eq hres] at hQ
 have hQ2 : ∀ a j b, (a, j, b) = res → Q (.agg [.v (.string (takeF l i0 e bad0 2).1), .v (.int .i64 (paI l i0 e bad0).1), .s true 6 (a.map fldC)]) [⟨4, [[.s false 3 (l.map tokC), .v (.int .i64 (markF l j e b rpar).1), .v (.int .i64 e), .v (.int .i64 (markF l j e b rpar).2)]]⟩] := by
  intro a j b h
  subst h
  exact hQ
 clear hQ
 simp only [paperR] at hres
 generalize hk0 : (102 : Nat) = k0 at hres
 generalize hm0 : paM l i0 e bad0 = m0 at hres hM0 hj0
 obtain ⟨i1, bad1⟩ := m0
 dsimp only at hres hM0 hj0
 generalize (takeF l i0 e bad0 2).1 = nm at hT0 hQ2
 generalize (paI l i0 e bad0).1 = cl at hN0 hQ2
 have hpos := hpre.2.2
 refine Y3 okJ1 rfl (by repeat first | with_reducible exact Y2 | refine Y1 (by simp only [Y5, Y4, Y6, St.put, St.with, boxA, C.st, List.replicate, Nat.reduceAdd, Nat.reduceSub, if_true, paObj, tz48, ZA]; rfl) ?_) ?_
 refine Y3 okJ1 rfl (by repeat first | with_reducible exact Y2 | refine Y1 (by simp only [Y5, Y4, Y6, evsA, qev, St.ev, St.put, St.with, D.cells, D.cell, boxA, C.cpy, C.st, C.cp, C.dat, storeA, putCells, Y8, Y7, Bool.and_true, Bool.true_and, Nat.reduceAdd, Nat.reduceEqDiff, if_true, if_false, ne_eq, reduceCtorEq, Nat.reduceLeDiff, Nat.le_refl, Nat.reduceBNe, implies_true, beq_self_eq_true, Bool.true_or, callP, callO, dedup, rootsD, rootsC, List.flatMap_cons, List.flatMap_nil, List.filterMap_cons, List.filterMap_nil, Yg, argD, argC, List.contains_nil, objsAt, objOf, List.idxOf?, List.findIdx?, List.findIdx?.go, setObjs, D.ni, D.ni1, C.ni, settle, settle1, settleC, FsJ1, hT0, hN0, buildA, partsA, fillA, placeSt, tk48, tsz48, tz48, tsz9, tsz3, tsz46, ZA]; rfl) ?_) ?_
 refine Y3 okJ1 rfl (by repeat first | with_reducible exact Y2 | refine Y1 (by simp only [Y5, Y4, Y6, evsA, qev, St.ev, St.put, St.with, D.cell, C.cpy, C.cp, C.dat, Y8, Y7, Bool.and_true, Bool.true_and, Nat.reduceEqDiff, if_true, if_false, beq_self_eq_true, Bool.true_or, callP, callO, dedup, rootsD, rootsC, List.flatMap_cons, List.flatMap_nil, List.filterMap_cons, List.filterMap_nil, Yg, argD, argC, List.contains_nil, objsAt, objOf, List.idxOf?, List.findIdx?, List.findIdx?.go, setObjs, D.ni, settle, settleDs, FsJ1, hM0, ZA]; rfl) ?_) ?_
 refine seq_in ?_
 refine Y3 okJ1 rfl (by repeat first | with_reducible exact Y2 | refine Y1 (by simp only [Y5, Y4, Y6, qev, St.ev, St.put, Y8, Y7, ZA]; rfl) ?_) ?_
 refine tri_block ?_
 refine tri_open 2 0 2 6 rfl ?_
 show Tri _ _ _ _
 refine tri_loop_le (fun m A => ∃ (k c i : Nat) (bad : Int) (acc : List Fld) (T : List (Option Root)), m = k ∧ c + k = 102 ∧ (c = 101 → 0 ≤ bad) ∧ c ≤ 101 ∧ i ≤ l.length ∧ acc.length = c ∧ paperGo l e k c i bad acc = res ∧ A = ⟨[.c (.p 0 0 0), .o, .c (.p 1 0 0), .c (.p 2 0 0), .c (.v (.int .i64 (c : Nat))), .o, .o, .o, .o, .o, .o, .o, .o, .o, .o, .o, .o, .o, .o, .o, .o, .o, .o, .o, .o, .o, .o, .o, .o, .o, .o, .o, .o, .o, .o, .o, .o, .o, .o, .o, .o, .o, .o, .o, .o, .o, .o, .o, .o, .o], some ⟨false, 4, [[.s false 3 (l.map tokC), .v (.int .i64 i), .v (.int .i64 e), .v (.int .i64 bad)]]⟩ :: some ⟨false, 3, [[.v (.string ⟨#[]⟩), .v (.int .i64 0), .s true 0 []]]⟩ :: some ⟨false, 3, [[.v (.string nm), .v (.int .i64 cl), .h 3 0 acc.length]]⟩ :: some ⟨true, 6, acc.map fldC⟩ :: T⟩) k0 (B := ⟨[.c (.p 0 0 0), .o, .c (.p 1 0 0), .c (.p 2 0 0), .c (.v (.int .i64 (0 : Nat))), .o, .o, .o, .o, .o, .o, .o, .o, .o, .o, .o, .o, .o, .o, .o, .o, .o, .o, .o, .o, .o, .o, .o, .o, .o, .o, .o, .o, .o, .o, .o, .o, .o, .o, .o, .o, .o, .o, .o, .o, .o, .o, .o, .o, .o], [some ⟨false, 4, [[.s false 3 (l.map tokC), .v (.int .i64 i1), .v (.int .i64 e), .v (.int .i64 bad1)]]⟩, some ⟨false, 3, [[.v (.string ⟨#[]⟩), .v (.int .i64 0), .s true 0 []]]⟩, some ⟨false, 3, [[.v (.string nm), .v (.int .i64 cl), .h 3 0 0]]⟩, some ⟨true, 6, []⟩]⟩) ⟨by repeat (first | exact .nil | refine .same ?_ | refine .o ?_), rfl⟩ ⟨k0, 0, i1, bad1, [], [], rfl, by omega, by omega, by omega, hj0, rfl, hres, rfl⟩ ?_
 rintro m A ⟨k, c, i, bad, acc, T, rfl, hck, hcb, hc, hi, hacc, hk, rfl⟩
 obtain ⟨k, rfl⟩ : ∃ k, m = k + 1 := ⟨m - 1, by omega⟩
 have hq1 : (c : Int) + 1 = ((c + 1 : Nat) : Int) := by omega
 have hP : oPeek [.c (.p 0 0 0), .c (.v (.string ⟨#[41]⟩))] _ = _ := peek_at hl i e bad rpar hi
 have hR : oMark [.c (.p 0 0 0), .c (.v (.string ⟨#[41]⟩))] _ = _ := mark_at hl i e bad rpar hi
 have hC : oMark [.c (.p 0 0 0), .c (.v (.string ⟨#[44]⟩))] _ = _ := mark_at hl i e bad comma hi
 have hm : (markF l i e bad comma).1 ≤ l.length := markF_le hi
 have hF := fail_at hl (markF l i e bad comma).1 e (markF l i e bad comma).2 hm
 have hT1 := take_at hl i e bad 2 hi
 have hE1 : oMark [.c (.p 0 0 0), .c (.v (.string ⟨#[61]⟩))] [⟨4, [[.s false 3 (l.map tokC), .v (.int .i64 (takeF l i e bad 2).2.1), .v (.int .i64 e), .v (.int .i64 (takeF l i e bad 2).2.2)]]⟩] = some (.t [], [⟨4, [[.s false 3 (l.map tokC), .v (.int .i64 (paQ l e i bad).1), .v (.int .i64 e), .v (.int .i64 (paQ l e i bad).2)]]⟩]) := mark_at hl _ e _ eqm (takeF_le hi)
 have hV1 : oValue [.c (.p 0 0 0)] [⟨4, [[.s false 3 (l.map tokC), .v (.int .i64 (paQ l e i bad).1), .v (.int .i64 e), .v (.int .i64 (paQ l e i bad).2)]]⟩] = some (.agg (valC (paV l e i bad).1), [⟨4, [[.s false 3 (l.map tokC), .v (.int .i64 (paV l e i bad).2.1), .v (.int .i64 e), .v (.int .i64 (paV l e i bad).2.2)]]⟩]) := value_at _ e _ (hpre.at (paQ_le hi))
 have hT2 := take_at hl (markF l i e bad comma).1 e (markF l i e bad comma).2 2 hm
 have hE2 : oMark [.c (.p 0 0 0), .c (.v (.string ⟨#[61]⟩))] [⟨4, [[.s false 3 (l.map tokC), .v (.int .i64 (takeF l (markF l i e bad comma).1 e (markF l i e bad comma).2 2).2.1), .v (.int .i64 e), .v (.int .i64 (takeF l (markF l i e bad comma).1 e (markF l i e bad comma).2 2).2.2)]]⟩] = some (.t [], [⟨4, [[.s false 3 (l.map tokC), .v (.int .i64 (paQ l e (markF l i e bad comma).1 (markF l i e bad comma).2).1), .v (.int .i64 e), .v (.int .i64 (paQ l e (markF l i e bad comma).1 (markF l i e bad comma).2).2)]]⟩]) := mark_at hl _ e _ eqm (takeF_le hm)
 have hV2 : oValue [.c (.p 0 0 0)] [⟨4, [[.s false 3 (l.map tokC), .v (.int .i64 (paQ l e (markF l i e bad comma).1 (markF l i e bad comma).2).1), .v (.int .i64 e), .v (.int .i64 (paQ l e (markF l i e bad comma).1 (markF l i e bad comma).2).2)]]⟩] = some (.agg (valC (paV l e (markF l i e bad comma).1 (markF l i e bad comma).2).1), [⟨4, [[.s false 3 (l.map tokC), .v (.int .i64 (paV l e (markF l i e bad comma).1 (markF l i e bad comma).2).2.1), .v (.int .i64 e), .v (.int .i64 (paV l e (markF l i e bad comma).1 (markF l i e bad comma).2).2.2)]]⟩]) := value_at _ e _ (hpre.at (paQ_le hm))
 have hT3 := take_at hl (markF l i e bad comma).1 e (failF l (markF l i e bad comma).1 e (markF l i e bad comma).2) 2 hm
 have hE3 : oMark [.c (.p 0 0 0), .c (.v (.string ⟨#[61]⟩))] [⟨4, [[.s false 3 (l.map tokC), .v (.int .i64 (takeF l (markF l i e bad comma).1 e (failF l (markF l i e bad comma).1 e (markF l i e bad comma).2) 2).2.1), .v (.int .i64 e), .v (.int .i64 (takeF l (markF l i e bad comma).1 e (failF l (markF l i e bad comma).1 e (markF l i e bad comma).2) 2).2.2)]]⟩] = some (.t [], [⟨4, [[.s false 3 (l.map tokC), .v (.int .i64 (paQ l e (markF l i e bad comma).1 (failF l (markF l i e bad comma).1 e (markF l i e bad comma).2)).1), .v (.int .i64 e), .v (.int .i64 (paQ l e (markF l i e bad comma).1 (failF l (markF l i e bad comma).1 e (markF l i e bad comma).2)).2)]]⟩]) := mark_at hl _ e _ eqm (takeF_le hm)
 have hV3 : oValue [.c (.p 0 0 0)] [⟨4, [[.s false 3 (l.map tokC), .v (.int .i64 (paQ l e (markF l i e bad comma).1 (failF l (markF l i e bad comma).1 e (markF l i e bad comma).2)).1), .v (.int .i64 e), .v (.int .i64 (paQ l e (markF l i e bad comma).1 (failF l (markF l i e bad comma).1 e (markF l i e bad comma).2)).2)]]⟩] = some (.agg (valC (paV l e (markF l i e bad comma).1 (failF l (markF l i e bad comma).1 e (markF l i e bad comma).2)).1), [⟨4, [[.s false 3 (l.map tokC), .v (.int .i64 (paV l e (markF l i e bad comma).1 (failF l (markF l i e bad comma).1 e (markF l i e bad comma).2)).2.1), .v (.int .i64 e), .v (.int .i64 (paV l e (markF l i e bad comma).1 (failF l (markF l i e bad comma).1 e (markF l i e bad comma).2)).2.2)]]⟩]) := value_at _ e _ (hpre.at (paQ_le hm))
 have ht0 : (acc.map fldC).take acc.length = acc.map fldC := List.take_of_length_le (by simp)
 have hne : ∀ k : Nat, (k + 1 + 1 + 1 + 1 != 3) = true := (by intro k; simp)
 have hz : (acc.length + 1) * 64 ≤ 140737488355328 := by omega
 refine seq_in ?_
 by_cases a0 : (bad < 0)
 ·
  refine Y3 okJ1 rfl (by repeat first | with_reducible exact Y2 | refine Y1 (by simp only [Y5, Y4, Y6, evsA, qev, St.ev, St.put, St.with, D.cell, qload, Y9, qmk, C.cpy, TK.agg, qnil, Yb, qpick, qint, Yc, Ya, qbin, qun, liveR, C.cp, C.dat, Y8, Y7, Bool.and_true, Bool.true_and, Nat.reduceEqDiff, if_true, if_false, decide_true, cond_true, reduceCtorEq, beq_self_eq_true, Bool.true_or, callP, callO, dedup, rootsD, rootsC, List.flatMap_cons, List.flatMap_nil, List.filterMap_cons, List.filterMap_nil, Yg, argD, argC, List.contains_nil, objsAt, objOf, List.idxOf?, List.findIdx?, List.findIdx?.go, setObjs, D.ni, D.ni1, C.ni, settle, settle1, settleC, FsJ1, hP, tsz3, tk80, tk3, eq_true a0, ZA]; rfl) ?_) ?_
  refine Yf rfl (fun a1 => ?_) (fun a1 => ?_)
  ·
   simp only [Bool.not_eq_true'] at a1
   refine Ye ?_
   refine seq_in (tri_block ?_)
   refine seq_in ?_
   refine Y3 okJ1 rfl (by repeat first | with_reducible exact Y2 | refine Y1 (by simp only [Y5, Y4, Y6, qev, St.ev, St.put, qint, Yc, Ya, qbin, Y8, Y7, if_true, if_false, Bool.not_false, a1, ZA]; rfl) ?_) ?_
   refine Yf rfl (fun a2 => ?_) (fun a2 => ?_)
   ·
    simp only [decide_eq_true_eq] at a2
    refine Yk okJ1 rfl (by repeat first | with_reducible exact Y2 | refine Y1 (by simp only [Y5, Y4, Y6, evsA, qev, St.ev, St.put, St.with, D.cell, C.cpy, C.cp, C.dat, Y8, Y7, Bool.and_true, Bool.true_and, Nat.reduceEqDiff, if_true, if_false, decide_true, beq_self_eq_true, Bool.true_or, callP, callO, dedup, rootsD, rootsC, List.flatMap_cons, List.flatMap_nil, List.filterMap_cons, List.filterMap_nil, Yg, argD, argC, List.contains_nil, objsAt, objOf, List.idxOf?, List.findIdx?, List.findIdx?.go, setObjs, D.ni, settle, settleDs, FsJ1, hC, a2, ZA]; rfl) ?_) ?_
    show Tri _ _ _ _
    refine seq_in ?_
    refine Y3 okJ1 rfl (by repeat first | with_reducible exact Y2 | refine Y1 (by simp only [Y5, Y4, Y6, qev, St.ev, St.put, qint, Yc, Ya, qbin, Y8, Y7, if_true, if_false, ZA]; rfl) ?_) ?_
    refine Yf rfl (fun a3 => ?_) (fun a3 => ?_)
    ·
     simp only [decide_eq_true_eq] at a3
     refine Yk okJ1 rfl (by repeat first | with_reducible exact Y2 | refine Y1 (by simp only [Y5, Y4, Y6, evsA, qev, St.ev, St.put, St.with, D.cell, C.dat, Bool.and_true, Bool.true_and, Nat.reduceEqDiff, if_true, if_false, decide_true, beq_self_eq_true, Bool.true_or, callP, callO, dedup, rootsD, rootsC, List.flatMap_cons, List.flatMap_nil, List.filterMap_cons, List.filterMap_nil, Yg, argD, argC, List.contains_nil, objsAt, objOf, List.idxOf?, List.findIdx?, List.findIdx?.go, setObjs, D.ni, settle, settleDs, FsJ1, hF, a3, ZA]; rfl) ?_) ?_
     show Tri _ _ _ _
     refine Y3 okJ1 rfl (by repeat first | with_reducible exact Y2 | refine Y1 (by simp only [Y5, Y4, Y6, evsA, qev, St.ev, St.put, St.with, D.cells, D.cell, boxA, C.cpy, C.st, C.cp, C.dat, storeA, putCells, Y8, Y7, Bool.and_true, Bool.true_and, Nat.reduceAdd, Nat.reduceEqDiff, if_true, if_false, ne_eq, reduceCtorEq, Nat.reduceLeDiff, Nat.le_refl, Nat.reduceBNe, implies_true, beq_self_eq_true, Bool.true_or, callP, callO, dedup, rootsD, rootsC, List.flatMap_cons, List.flatMap_nil, List.filterMap_cons, List.filterMap_nil, Yg, argD, argC, List.contains_nil, objsAt, objOf, List.idxOf?, List.findIdx?, List.findIdx?.go, setObjs, D.ni, D.ni1, C.ni, settle, settle1, settleC, FsJ1, buildA, partsA, fillA, placeSt, tk91, tsz91, tsz39, hT3, last_get, last_set, partsA, fillA, placeSt, tsz9, tz91, ZA]; rfl) ?_) ?_
     refine Y3 okJ1 rfl (by repeat first | with_reducible exact Y2 | refine Y1 (by simp only [Y5, Y4, Y6, evsA, qev, St.ev, St.put, St.with, D.cell, C.cpy, C.cp, C.dat, Y8, Y7, Bool.and_true, Bool.true_and, Nat.reduceEqDiff, if_true, if_false, beq_self_eq_true, Bool.true_or, callP, callO, dedup, rootsD, rootsC, List.flatMap_cons, List.flatMap_nil, List.filterMap_cons, List.filterMap_nil, Yg, argD, argC, List.contains_nil, objsAt, objOf, List.idxOf?, List.findIdx?, List.findIdx?.go, setObjs, D.ni, settle, settleDs, FsJ1, hE3, ZA]; rfl) ?_) ?_
     refine Y3 okJ1 rfl (by repeat first | with_reducible exact Y2 | refine Y1 (by simp only [Y5, Y4, Y6, evsA, qev, St.ev, St.put, St.with, D.cells, D.cell, Yb, liveR, C.st, C.dat, storeA, putCells, Bool.and_true, Bool.true_and, Nat.reduceAdd, Nat.reduceEqDiff, if_true, if_false, ne_eq, reduceCtorEq, Nat.le_refl, implies_true, beq_self_eq_true, Bool.true_or, callP, callO, dedup, rootsD, rootsC, List.flatMap_cons, List.flatMap_nil, List.filterMap_cons, List.filterMap_nil, Yg, argD, argC, List.contains_nil, objsAt, objOf, List.idxOf?, List.findIdx?, List.findIdx?.go, setObjs, D.ni, D.ni1, C.ni, C.niRow, settle, settle1, settleC, Yl, FsJ1, tk91, tsz39, hV3, last_get, last_set, valC, ZA]; rfl) ?_) ?_
     refine Yk okJ1 rfl (by repeat first | with_reducible exact Y2 | refine Y1 (by simp only [Y5, Y4, Y6, qev, St.ev, St.put, St.with, D.cells, qload, Y9, qmk, C.cpy, TK.agg, Yb, liveR, C.st, C.cp, C.dat, storeA, putCells, Bool.and_true, Nat.reduceAdd, Nat.reduceMul, if_true, if_false, forall_const, ne_eq, reduceCtorEq, Nat.reduceLeDiff, Nat.le_refl, Nat.reduceBNe, bne_self_eq_false, nb_map, C.nb, partsA, fillA, tk48, tk91, tsz91, false_implies, ht0, hne, hz, last_get, buildSliceA, partsA, fillA, reps, chop, tkApp, appendA, srcRows, srcOther, D.kill, D.no, C.no, C.kill, killH, Root.kill, C.nos, D.nos, fldC, false_implies, tsz46, tz91, tk46, bo91, ZA]; rfl) ?_) ?_
     show Tri _ _ _ _
     refine Yk okJ1 rfl (by repeat first | with_reducible exact Y2 | refine Y1 (by simp only [Y5, Y4, Y6, qev, St.ev, St.put, qint, Yc, Ya, qbin, Y8, Y7, if_true, if_false, hq1, show IntKind.i64.wrap (↑(c + 1) : Int) = _ from wrap_i64 _ (by omega) (by omega), ZA]; rfl) ?_) ?_
     simp only []
     (simp only [paperGo, reduceIte, Z7, ↓reduceIte, eq_true a0, a1, a2, a3] at hk; exact ⟨k, by omega, ⟨[.c (.p 0 0 0), .o, .c (.p 1 0 0), .c (.p 2 0 0), .c (.v (.int .i64 (c + 1 : Nat))), .o, .o, .o, .o, .o, .o, .o, .o, .o, .o, .o, .o, .o, .o, .o, .o, .o, .o, .o, .o, .o, .o, .o, .o, .o, .o, .o, .o, .o, .o, .o, .o, .o, .o, .o, .o, .o, .o, .o, .o, .o, .o, .o, .o, .o], some ⟨false, 4, [[.s false 3 (l.map tokC), .v (.int .i64 (paV l e (markF l i e bad comma).1 (failF l (markF l i e bad comma).1 e (markF l i e bad comma).2)).2.1), .v (.int .i64 e), .v (.int .i64 (paV l e (markF l i e bad comma).1 (failF l (markF l i e bad comma).1 e (markF l i e bad comma).2)).2.2)]]⟩ :: some ⟨false, 3, [[.v (.string ⟨#[]⟩), .v (.int .i64 0), .s true 0 []]]⟩ :: some ⟨false, 3, [[.v (.string nm), .v (.int .i64 cl), .h 3 0 (acc ++ [paFld l e (markF l i e bad comma).1 (failF l (markF l i e bad comma).1 e (markF l i e bad comma).2)]).length]]⟩ :: some ⟨true, 6, (acc ++ [paFld l e (markF l i e bad comma).1 (failF l (markF l i e bad comma).1 e (markF l i e bad comma).2)]).map fldC⟩ :: List.map (fun o => Option.map (Root.kill 3) o) (T ++ [some ⟨false, 6, [fldC (paFld l e (markF l i e bad comma).1 (failF l (markF l i e bad comma).1 e (markF l i e bad comma).2))]⟩] ++ [some ⟨true, 6, [fldC (paFld l e (markF l i e bad comma).1 (failF l (markF l i e bad comma).1 e (markF l i e bad comma).2))]⟩])⟩, ⟨(by rw [show (acc ++ [paFld l e (markF l i e bad comma).1 (failF l (markF l i e bad comma).1 e (markF l i e bad comma).2)]).length = acc.length + 1 from by simp]; repeat (first | exact .nil | refine .same ?_ | refine .o ?_)), (by rw [show (acc ++ [paFld l e (markF l i e bad comma).1 (failF l (markF l i e bad comma).1 e (markF l i e bad comma).2)]).map fldC = acc.map fldC ++ [fldC (paFld l e (markF l i e bad comma).1 (failF l (markF l i e bad comma).1 e (markF l i e bad comma).2))] from List.map_append, show (acc ++ [paFld l e (markF l i e bad comma).1 (failF l (markF l i e bad comma).1 e (markF l i e bad comma).2)]).length = acc.length + 1 from by simp]; rfl)⟩, k, c + 1, (paV l e (markF l i e bad comma).1 (failF l (markF l i e bad comma).1 e (markF l i e bad comma).2)).2.1, (paV l e (markF l i e bad comma).1 (failF l (markF l i e bad comma).1 e (markF l i e bad comma).2)).2.2, (acc ++ [paFld l e (markF l i e bad comma).1 (failF l (markF l i e bad comma).1 e (markF l i e bad comma).2)]), _, rfl, by omega, (fun _ => by rw [paV_bad (fail_pos hpos _ _)]; exact fail_pos hpos _ _), by omega, paV_le hm, (by simp [hacc]), hk, rfl⟩)
    ·
     simp only [decide_eq_false_iff_not] at a3
     refine Ye ?_
     refine Y3 okJ1 rfl (by repeat first | with_reducible exact Y2 | refine Y1 (by simp only [Y5, Y4, Y6, evsA, qev, St.ev, St.put, St.with, D.cells, D.cell, boxA, C.cpy, C.st, C.cp, C.dat, storeA, putCells, Y8, Y7, Bool.and_true, Bool.true_and, Nat.reduceAdd, Nat.reduceEqDiff, if_true, if_false, decide_false, ne_eq, reduceCtorEq, Nat.reduceLeDiff, Nat.le_refl, Nat.reduceBNe, implies_true, beq_self_eq_true, Bool.true_or, callP, callO, dedup, rootsD, rootsC, List.flatMap_cons, List.flatMap_nil, List.filterMap_cons, List.filterMap_nil, Yg, argD, argC, List.contains_nil, objsAt, objOf, List.idxOf?, List.findIdx?, List.findIdx?.go, setObjs, D.ni, D.ni1, C.ni, settle, settle1, settleC, FsJ1, buildA, partsA, fillA, placeSt, tk91, tsz91, tsz39, hT2, last_get, last_set, partsA, fillA, placeSt, tsz9, a3, tz91, ZA]; rfl) ?_) ?_
     refine Y3 okJ1 rfl (by repeat first | with_reducible exact Y2 | refine Y1 (by simp only [Y5, Y4, Y6, evsA, qev, St.ev, St.put, St.with, D.cell, C.cpy, C.cp, C.dat, Y8, Y7, Bool.and_true, Bool.true_and, Nat.reduceEqDiff, if_true, if_false, beq_self_eq_true, Bool.true_or, callP, callO, dedup, rootsD, rootsC, List.flatMap_cons, List.flatMap_nil, List.filterMap_cons, List.filterMap_nil, Yg, argD, argC, List.contains_nil, objsAt, objOf, List.idxOf?, List.findIdx?, List.findIdx?.go, setObjs, D.ni, settle, settleDs, FsJ1, hE2, ZA]; rfl) ?_) ?_
     refine Y3 okJ1 rfl (by repeat first | with_reducible exact Y2 | refine Y1 (by simp only [Y5, Y4, Y6, evsA, qev, St.ev, St.put, St.with, D.cells, D.cell, Yb, liveR, C.st, C.dat, storeA, putCells, Bool.and_true, Bool.true_and, Nat.reduceAdd, Nat.reduceEqDiff, if_true, if_false, ne_eq, reduceCtorEq, Nat.le_refl, implies_true, beq_self_eq_true, Bool.true_or, callP, callO, dedup, rootsD, rootsC, List.flatMap_cons, List.flatMap_nil, List.filterMap_cons, List.filterMap_nil, Yg, argD, argC, List.contains_nil, objsAt, objOf, List.idxOf?, List.findIdx?, List.findIdx?.go, setObjs, D.ni, D.ni1, C.ni, C.niRow, settle, settle1, settleC, Yl, FsJ1, tk91, tsz39, hV2, last_get, last_set, valC, ZA]; rfl) ?_) ?_
     refine Yk okJ1 rfl (by repeat first | with_reducible exact Y2 | refine Y1 (by simp only [Y5, Y4, Y6, qev, St.ev, St.put, St.with, D.cells, qload, Y9, qmk, C.cpy, TK.agg, Yb, liveR, C.st, C.cp, C.dat, storeA, putCells, Bool.and_true, Nat.reduceAdd, Nat.reduceMul, if_true, if_false, forall_const, ne_eq, reduceCtorEq, Nat.reduceLeDiff, Nat.le_refl, Nat.reduceBNe, bne_self_eq_false, nb_map, C.nb, partsA, fillA, tk48, tk91, tsz91, false_implies, ht0, hne, hz, last_get, buildSliceA, partsA, fillA, reps, chop, tkApp, appendA, srcRows, srcOther, D.kill, D.no, C.no, C.kill, killH, Root.kill, C.nos, D.nos, fldC, false_implies, tsz46, tz91, tk46, bo91, ZA]; rfl) ?_) ?_
     show Tri _ _ _ _
     refine Yk okJ1 rfl (by repeat first | with_reducible exact Y2 | refine Y1 (by simp only [Y5, Y4, Y6, qev, St.ev, St.put, qint, Yc, Ya, qbin, Y8, Y7, if_true, if_false, hq1, show IntKind.i64.wrap (↑(c + 1) : Int) = _ from wrap_i64 _ (by omega) (by omega), ZA]; rfl) ?_) ?_
     simp only []
     (simp only [paperGo, reduceIte, Z7, ↓reduceIte, eq_true a0, a1, a2, a3] at hk; exact ⟨k, by omega, ⟨[.c (.p 0 0 0), .o, .c (.p 1 0 0), .c (.p 2 0 0), .c (.v (.int .i64 (c + 1 : Nat))), .o, .o, .o, .o, .o, .o, .o, .o, .o, .o, .o, .o, .o, .o, .o, .o, .o, .o, .o, .o, .o, .o, .o, .o, .o, .o, .o, .o, .o, .o, .o, .o, .o, .o, .o, .o, .o, .o, .o, .o, .o, .o, .o, .o, .o], some ⟨false, 4, [[.s false 3 (l.map tokC), .v (.int .i64 (paV l e (markF l i e bad comma).1 (markF l i e bad comma).2).2.1), .v (.int .i64 e), .v (.int .i64 (paV l e (markF l i e bad comma).1 (markF l i e bad comma).2).2.2)]]⟩ :: some ⟨false, 3, [[.v (.string ⟨#[]⟩), .v (.int .i64 0), .s true 0 []]]⟩ :: some ⟨false, 3, [[.v (.string nm), .v (.int .i64 cl), .h 3 0 (acc ++ [paFld l e (markF l i e bad comma).1 (markF l i e bad comma).2]).length]]⟩ :: some ⟨true, 6, (acc ++ [paFld l e (markF l i e bad comma).1 (markF l i e bad comma).2]).map fldC⟩ :: List.map (fun o => Option.map (Root.kill 3) o) (T ++ [some ⟨false, 6, [fldC (paFld l e (markF l i e bad comma).1 (markF l i e bad comma).2)]⟩] ++ [some ⟨true, 6, [fldC (paFld l e (markF l i e bad comma).1 (markF l i e bad comma).2)]⟩])⟩, ⟨(by rw [show (acc ++ [paFld l e (markF l i e bad comma).1 (markF l i e bad comma).2]).length = acc.length + 1 from by simp]; repeat (first | exact .nil | refine .same ?_ | refine .o ?_)), (by rw [show (acc ++ [paFld l e (markF l i e bad comma).1 (markF l i e bad comma).2]).map fldC = acc.map fldC ++ [fldC (paFld l e (markF l i e bad comma).1 (markF l i e bad comma).2)] from List.map_append, show (acc ++ [paFld l e (markF l i e bad comma).1 (markF l i e bad comma).2]).length = acc.length + 1 from by simp]; rfl)⟩, k, c + 1, (paV l e (markF l i e bad comma).1 (markF l i e bad comma).2).2.1, (paV l e (markF l i e bad comma).1 (markF l i e bad comma).2).2.2, (acc ++ [paFld l e (markF l i e bad comma).1 (markF l i e bad comma).2]), _, rfl, by omega, (by omega), by omega, paV_le hm, (by simp [hacc]), hk, rfl⟩)
   ·
    simp only [decide_eq_false_iff_not] at a2
    refine Ye ?_
    refine seq_in ?_
    refine Y3 okJ1 rfl (by repeat first | with_reducible exact Y2 | refine Y1 (by simp only [Y5, Y4, Y6, qev, St.ev, St.put, qint, Yc, Ya, qbin, Y8, Y7, if_true, if_false, decide_false, a2, ZA]; rfl) ?_) ?_
    refine Yf rfl (fun a4 => ?_) (fun a4 => ?_)
    ·
     simp only [decide_eq_true_eq] at a4
     (exfalso; omega)
    ·
     simp only [decide_eq_false_iff_not] at a4
     refine Ye ?_
     refine Y3 okJ1 rfl (by repeat first | with_reducible exact Y2 | refine Y1 (by simp only [Y5, Y4, Y6, evsA, qev, St.ev, St.put, St.with, D.cells, D.cell, boxA, C.cpy, C.st, C.cp, C.dat, storeA, putCells, Y8, Y7, Bool.and_true, Bool.true_and, Nat.reduceAdd, Nat.reduceEqDiff, if_true, if_false, decide_false, ne_eq, reduceCtorEq, Nat.reduceLeDiff, Nat.le_refl, Nat.reduceBNe, implies_true, beq_self_eq_true, Bool.true_or, callP, callO, dedup, rootsD, rootsC, List.flatMap_cons, List.flatMap_nil, List.filterMap_cons, List.filterMap_nil, Yg, argD, argC, List.contains_nil, objsAt, objOf, List.idxOf?, List.findIdx?, List.findIdx?.go, setObjs, D.ni, D.ni1, C.ni, settle, settle1, settleC, FsJ1, buildA, partsA, fillA, placeSt, tk91, tsz91, tsz39, hT1, last_get, last_set, partsA, fillA, placeSt, tsz9, a4, tz91, ZA]; rfl) ?_) ?_
     refine Y3 okJ1 rfl (by repeat first | with_reducible exact Y2 | refine Y1 (by simp only [Y5, Y4, Y6, evsA, qev, St.ev, St.put, St.with, D.cell, C.cpy, C.cp, C.dat, Y8, Y7, Bool.and_true, Bool.true_and, Nat.reduceEqDiff, if_true, if_false, beq_self_eq_true, Bool.true_or, callP, callO, dedup, rootsD, rootsC, List.flatMap_cons, List.flatMap_nil, List.filterMap_cons, List.filterMap_nil, Yg, argD, argC, List.contains_nil, objsAt, objOf, List.idxOf?, List.findIdx?, List.findIdx?.go, setObjs, D.ni, settle, settleDs, FsJ1, hE1, ZA]; rfl) ?_) ?_
     refine Y3 okJ1 rfl (by repeat first | with_reducible exact Y2 | refine Y1 (by simp only [Y5, Y4, Y6, evsA, qev, St.ev, St.put, St.with, D.cells, D.cell, Yb, liveR, C.st, C.dat, storeA, putCells, Bool.and_true, Bool.true_and, Nat.reduceAdd, Nat.reduceEqDiff, if_true, if_false, ne_eq, reduceCtorEq, Nat.le_refl, implies_true, beq_self_eq_true, Bool.true_or, callP, callO, dedup, rootsD, rootsC, List.flatMap_cons, List.flatMap_nil, List.filterMap_cons, List.filterMap_nil, Yg, argD, argC, List.contains_nil, objsAt, objOf, List.idxOf?, List.findIdx?, List.findIdx?.go, setObjs, D.ni, D.ni1, C.ni, C.niRow, settle, settle1, settleC, Yl, FsJ1, tk91, tsz39, hV1, last_get, last_set, valC, ZA]; rfl) ?_) ?_
     refine Yk okJ1 rfl (by repeat first | with_reducible exact Y2 | refine Y1 (by simp only [Y5, Y4, Y6, qev, St.ev, St.put, St.with, D.cells, qload, Y9, qmk, C.cpy, TK.agg, Yb, liveR, C.st, C.cp, C.dat, storeA, putCells, Bool.and_true, Nat.reduceAdd, Nat.reduceMul, if_true, if_false, forall_const, ne_eq, reduceCtorEq, Nat.reduceLeDiff, Nat.le_refl, Nat.reduceBNe, bne_self_eq_false, nb_map, C.nb, partsA, fillA, tk48, tk91, tsz91, false_implies, ht0, hne, hz, last_get, buildSliceA, partsA, fillA, reps, chop, tkApp, appendA, srcRows, srcOther, D.kill, D.no, C.no, C.kill, killH, Root.kill, C.nos, D.nos, fldC, false_implies, tsz46, tz91, tk46, bo91, ZA]; rfl) ?_) ?_
     show Tri _ _ _ _
     refine Yk okJ1 rfl (by repeat first | with_reducible exact Y2 | refine Y1 (by simp only [Y5, Y4, Y6, qev, St.ev, St.put, qint, Yc, Ya, qbin, Y8, Y7, if_true, if_false, hq1, show IntKind.i64.wrap (↑(c + 1) : Int) = _ from wrap_i64 _ (by omega) (by omega), ZA]; rfl) ?_) ?_
     simp only []
     (simp only [paperGo, reduceIte, Z7, ↓reduceIte, eq_true a0, a1, a2] at hk; exact ⟨k, by omega, ⟨[.c (.p 0 0 0), .o, .c (.p 1 0 0), .c (.p 2 0 0), .c (.v (.int .i64 (c + 1 : Nat))), .o, .o, .o, .o, .o, .o, .o, .o, .o, .o, .o, .o, .o, .o, .o, .o, .o, .o, .o, .o, .o, .o, .o, .o, .o, .o, .o, .o, .o, .o, .o, .o, .o, .o, .o, .o, .o, .o, .o, .o, .o, .o, .o, .o, .o], some ⟨false, 4, [[.s false 3 (l.map tokC), .v (.int .i64 (paV l e i bad).2.1), .v (.int .i64 e), .v (.int .i64 (paV l e i bad).2.2)]]⟩ :: some ⟨false, 3, [[.v (.string ⟨#[]⟩), .v (.int .i64 0), .s true 0 []]]⟩ :: some ⟨false, 3, [[.v (.string nm), .v (.int .i64 cl), .h 3 0 (acc ++ [paFld l e i bad]).length]]⟩ :: some ⟨true, 6, (acc ++ [paFld l e i bad]).map fldC⟩ :: List.map (fun o => Option.map (Root.kill 3) o) (T ++ [some ⟨false, 6, [fldC (paFld l e i bad)]⟩] ++ [some ⟨true, 6, [fldC (paFld l e i bad)]⟩])⟩, ⟨(by rw [show (acc ++ [paFld l e i bad]).length = acc.length + 1 from by simp]; repeat (first | exact .nil | refine .same ?_ | refine .o ?_)), (by rw [show (acc ++ [paFld l e i bad]).map fldC = acc.map fldC ++ [fldC (paFld l e i bad)] from List.map_append, show (acc ++ [paFld l e i bad]).length = acc.length + 1 from by simp]; rfl)⟩, k, c + 1, (paV l e i bad).2.1, (paV l e i bad).2.2, (acc ++ [paFld l e i bad]), _, rfl, by omega, (by omega), by omega, paV_le hi, (by simp [hacc]), hk, rfl⟩)
  ·
   simp only [Bool.not_eq_false'] at a1
   refine tri_exit ?_
   show Tri _ _ _ _
   refine Y3 okJ1 rfl (by repeat first | with_reducible exact Y2 | refine Y1 (by simp only [Y5, Y4, Y6, evsA, qev, St.ev, St.put, St.with, D.cell, C.cpy, C.cp, C.dat, Y8, Y7, Bool.and_true, Bool.true_and, Nat.reduceEqDiff, if_true, if_false, Bool.not_true, beq_self_eq_true, Bool.true_or, callP, callO, dedup, rootsD, rootsC, List.flatMap_cons, List.flatMap_nil, List.filterMap_cons, List.filterMap_nil, Yg, argD, argC, List.contains_nil, objsAt, objOf, List.idxOf?, List.findIdx?, List.findIdx?.go, setObjs, D.ni, settle, settleDs, FsJ1, hR, a1, ZA]; rfl) ?_) ?_
   refine Y3 okJ1 rfl (by repeat first | with_reducible exact Y2 | refine Y1 (by simp only [Y5, Y4, Y6, qev, St.ev, St.put, D.cells, qload, Y9, qmk, C.cpy, TK.agg, liveR, C.st, C.cp, C.dat, storeA, putCells, Bool.and_true, Nat.reduceAdd, if_true, ne_eq, reduceCtorEq, Nat.le_refl, Bool.and_false, tk48, tsz48, false_implies, false_implies, ZA]; rfl) ?_) ?_
   refine Yo (Yp (by simp only [outRes, Yi, resD, outD, outC, outCs, qload, Y9, qmk, C.cpy, TK.agg, C.cp, C.dat, Nat.reduceAdd, if_true, ne_eq, reduceCtorEq, tk48, tsz48, List.length_map, ZA]; rfl) rfl (by simp) (by simp) ?_)
   simp only [Z12]
   (simp only [paperGo, reduceIte, ↓reduceIte, eq_true a0, a1] at hk; with_reducible exact hQ2 _ _ _ hk)
 ·
  refine Y3 okJ1 rfl (by repeat first | with_reducible exact Y2 | refine Y1 (by simp only [Y5, Y4, Y6, evsA, qev, St.ev, St.put, D.cell, qload, Y9, qmk, C.cpy, TK.agg, qnil, Yb, qpick, qint, Yc, Ya, qbin, qun, liveR, C.cp, C.dat, Y8, Y7, Nat.reduceEqDiff, if_true, if_false, decide_false, cond_false, reduceCtorEq, callP, callO, dedup, rootsD, rootsC, List.flatMap_cons, List.flatMap_nil, List.filterMap_cons, List.filterMap_nil, Yg, argD, argC, objsAt, FsJ1, tsz3, tk80, tk3, eq_false a0, ZA]; rfl) ?_) ?_
  refine Yf (b := false) rfl (fun h => by cases h) (fun _ => ?_)
  refine tri_exit ?_
  show Tri _ _ _ _
  refine Y3 okJ1 rfl (by repeat first | with_reducible exact Y2 | refine Y1 (by simp only [Y5, Y4, Y6, evsA, qev, St.ev, St.put, St.with, D.cell, C.cpy, C.cp, C.dat, Y8, Y7, Bool.and_true, Bool.true_and, Nat.reduceEqDiff, if_true, if_false, beq_self_eq_true, Bool.true_or, callP, callO, dedup, rootsD, rootsC, List.flatMap_cons, List.flatMap_nil, List.filterMap_cons, List.filterMap_nil, Yg, argD, argC, List.contains_nil, objsAt, objOf, List.idxOf?, List.findIdx?, List.findIdx?.go, setObjs, D.ni, settle, settleDs, FsJ1, hR, ZA]; rfl) ?_) ?_
  refine Y3 okJ1 rfl (by repeat first | with_reducible exact Y2 | refine Y1 (by simp only [Y5, Y4, Y6, qev, St.ev, St.put, D.cells, qload, Y9, qmk, C.cpy, TK.agg, liveR, C.st, C.cp, C.dat, storeA, putCells, Bool.and_true, Nat.reduceAdd, if_true, ne_eq, reduceCtorEq, Nat.le_refl, Bool.and_false, tk48, tsz48, false_implies, false_implies, ZA]; rfl) ?_) ?_
  refine Yo (Yp (by simp only [outRes, Yi, resD, outD, outC, outCs, qload, Y9, qmk, C.cpy, TK.agg, C.cp, C.dat, Nat.reduceAdd, if_true, ne_eq, reduceCtorEq, tk48, tsz48, List.length_map, ZA]; rfl) rfl (by simp) (by simp) ?_)
  simp only [Z12]
  (simp only [paperGo, reduceIte, ↓reduceIte, eq_false a0] at hk; with_reducible exact hQ2 _ _ _ hk)
end Go.Dl

namespace Go.Dl
open Go.RowKit
open Go.Proofs
set_option linter.unusedSimpArgs false
set_option linter.unusedVariables false
theorem takeF_ge (l : List Tok) (i : Nat) (e bad k : Int) : i ≤ (takeF l i e bad k).2.1 := by
 rcases take_le l i e bad k with h | ⟨h, h2⟩ <;> omega
theorem markF_ge (l : List Tok) (i : Nat) (e bad : Int) (m : ByteArray) : i ≤ (markF l i e bad m).1 := by
 unfold markF
 split
 · exact Nat.le_succ i
 · exact Nat.le_refl i
theorem numberF_ge {l : List Tok} {i : Nat} {e bad : Int} {r : Int × Nat × Int} (h : numberF l i e bad = some r) : i ≤ r.2.1 := by
 have ht := takeF_ge l i e bad 1
 unfold numberF at h
 repeat' split at h
 all_goals first | (cases h; first | exact ht | exact Nat.le_refl i) | cases h
theorem numT_ge (l : List Tok) (i : Nat) (e bad : Int) : i ≤ (numT l i e bad).2.1 := by
 unfold numT
 cases h : numberF l i e bad with
 | none => exact Nat.le_refl i
 | some r => exact numberF_ge h
theorem floatF_ge (l : List Tok) (i : Nat) (e bad : Int) : i ≤ (floatF l i e bad).2.1 := by
 have hA : i ≤ (flA l i e bad).1 := markF_ge ..
 have hB : (flA l i e bad).1 ≤ (flB l i e bad).2.1 := takeF_ge ..
 have h1 : ∀ b, (flA l i e bad).1 ≤ (markF l (flA l i e bad).1 e b rpar).1 := fun _ => markF_ge ..
 have h2 : (flB l i e bad).2.1 ≤ (markF l (flB l i e bad).2.1 e (flB l i e bad).2.2 rpar).1 := markF_ge ..
 unfold floatF
 split
 · exact Nat.le_trans hA hB
 · split
   · exact hA
   · split
     · exact Nat.le_trans hA (h1 _)
     · exact Nat.le_trans (Nat.le_trans hA hB) h2
theorem wordF_ge (l : List Tok) (i : Nat) (e bad : Int) (w : ByteArray) : i ≤ (wordF l i e bad w).2.1 := by
 unfold wordF
 split
 · exact Nat.le_succ i
 split
 · exact Nat.le_succ i
 split
 · exact Nat.le_succ i
 split
 · exact Nat.le_trans (Nat.le_succ i) (floatF_ge ..)
 · exact Nat.le_refl i
theorem valueF_ge (l : List Tok) (i : Nat) (e bad : Int) : i ≤ (valueF l i e bad).2.1 := by
 unfold valueF
 split
 · exact Nat.le_refl i
 · split
   · exact Nat.le_refl i
   · split
     · split
       · rename_i r hr; exact numberF_ge hr
       · exact Nat.le_refl i
     split
     · exact Nat.le_succ i
     split
     · exact wordF_ge ..
     · exact Nat.le_refl i
theorem paV_ge (l : List Tok) (e : Int) (i : Nat) (bad : Int) : i ≤ (paV l e i bad).2.1 :=
 Nat.le_trans (takeF_ge l i e bad 2) (Nat.le_trans (markF_ge _ _ _ _ eqm) (valueF_ge ..))
theorem paperGo_in {l : List Tok} {e : Int} : ∀ (k c i : Nat) (bad : Int) (acc : List Fld), i ≤ l.length → i ≤ (paperGo l e k c i bad acc).2.1 ∧ (paperGo l e k c i bad acc).2.1 ≤ l.length
 | 0, c, i, bad, acc, hi => ⟨Nat.le_refl i, hi⟩
 | k + 1, c, i, bad, acc, hi => by
  have hm : i ≤ (markF l i e bad comma).1 := markF_ge ..
  have hm2 : (markF l i e bad comma).1 ≤ l.length := markF_le hi
  simp only [paperGo]
  split
  · split
    · exact ⟨Nat.le_refl i, hi⟩
    · split
      · split
        · obtain ⟨h1, h2⟩ := paperGo_in k (c + 1) (paV l e (markF l i e bad comma).1 (failF l (markF l i e bad comma).1 e (markF l i e bad comma).2)).2.1 (paV l e (markF l i e bad comma).1 (failF l (markF l i e bad comma).1 e (markF l i e bad comma).2)).2.2 (acc ++ [paFld l e (markF l i e bad comma).1 (failF l (markF l i e bad comma).1 e (markF l i e bad comma).2)]) (paV_le hm2)
          exact ⟨Nat.le_trans hm (Nat.le_trans (paV_ge ..) h1), h2⟩
        · obtain ⟨h1, h2⟩ := paperGo_in k (c + 1) (paV l e (markF l i e bad comma).1 (markF l i e bad comma).2).2.1 (paV l e (markF l i e bad comma).1 (markF l i e bad comma).2).2.2 (acc ++ [paFld l e (markF l i e bad comma).1 (markF l i e bad comma).2]) (paV_le hm2)
          exact ⟨Nat.le_trans hm (Nat.le_trans (paV_ge ..) h1), h2⟩
      · obtain ⟨h1, h2⟩ := paperGo_in k (c + 1) (paV l e i bad).2.1 (paV l e i bad).2.2 (acc ++ [paFld l e i bad]) (paV_le hi)
        exact ⟨Nat.le_trans (paV_ge ..) h1, h2⟩
  · exact ⟨Nat.le_refl i, hi⟩
theorem paperF_in {l : List Tok} {i : Nat} {e bad : Int} (h : okPre l i e) : i ≤ (paperF l i e bad).2.1 ∧ (paperF l i e bad).2.1 ≤ l.length := by
 obtain ⟨r, hr⟩ : ∃ r, paperR l i e bad = r := ⟨_, rfl⟩
 have h1 : i ≤ (takeF l i e bad 2).2.1 := takeF_ge ..
 have h1' : (takeF l i e bad 2).2.1 ≤ l.length := takeF_le h.1.2.1
 have h2 : (takeF l i e bad 2).2.1 ≤ (paI l i e bad).2.1 := numT_ge ..
 have h2' : (paI l i e bad).2.1 ≤ l.length := numT_le (h.at h1')
 have h3 : (paI l i e bad).2.1 ≤ (paM l i e bad).1 := markF_ge ..
 have h3' : (paM l i e bad).1 ≤ l.length := markF_le h2'
 have h4 := paperGo_in (e := e) 102 0 (paM l i e bad).1 (paM l i e bad).2 [] h3'
 rw [show paperGo l e 102 0 (paM l i e bad).1 (paM l i e bad).2 [] = r from hr] at h4
 rw [paper_eq hr]
 have h5 := markF_ge l r.2.1 e r.2.2 rpar
 have h5' : (markF l r.2.1 e r.2.2 rpar).1 ≤ l.length := markF_le h4.2
 exact ⟨by dsimp only; omega, h5'⟩
theorem namesGo_in {l : List Tok} {e : Int} : ∀ (k c i : Nat) (bad : Int) (acc : List ByteArray), i ≤ l.length → i ≤ (namesGo l e k c i bad acc).2.1 ∧ (namesGo l e k c i bad acc).2.1 ≤ l.length
 | 0, c, i, bad, acc, hi => ⟨Nat.le_refl i, hi⟩
 | k + 1, c, i, bad, acc, hi => by
  have hm : i ≤ (markF l i e bad comma).1 := markF_ge ..
  have hm2 : (markF l i e bad comma).1 ≤ l.length := markF_le hi
  simp only [namesGo]
  split
  · split
    · exact ⟨Nat.le_refl i, hi⟩
    · split
      · split
        · obtain ⟨h1, h2⟩ := namesGo_in k (c + 1) (takeF l (markF l i e bad comma).1 e (failF l (markF l i e bad comma).1 e (markF l i e bad comma).2) 2).2.1 (takeF l (markF l i e bad comma).1 e (failF l (markF l i e bad comma).1 e (markF l i e bad comma).2) 2).2.2 (acc ++ [(takeF l (markF l i e bad comma).1 e (failF l (markF l i e bad comma).1 e (markF l i e bad comma).2) 2).1]) (takeF_le hm2)
          exact ⟨Nat.le_trans hm (Nat.le_trans (takeF_ge ..) h1), h2⟩
        · obtain ⟨h1, h2⟩ := namesGo_in k (c + 1) (takeF l (markF l i e bad comma).1 e (markF l i e bad comma).2 2).2.1 (takeF l (markF l i e bad comma).1 e (markF l i e bad comma).2 2).2.2 (acc ++ [(takeF l (markF l i e bad comma).1 e (markF l i e bad comma).2 2).1]) (takeF_le hm2)
          exact ⟨Nat.le_trans hm (Nat.le_trans (takeF_ge ..) h1), h2⟩
      · obtain ⟨h1, h2⟩ := namesGo_in k (c + 1) (takeF l i e bad 2).2.1 (takeF l i e bad 2).2.2 (acc ++ [(takeF l i e bad 2).1]) (takeF_le hi)
        exact ⟨Nat.le_trans (takeF_ge ..) h1, h2⟩
  · exact ⟨Nat.le_refl i, hi⟩
theorem namesF_in {l : List Tok} {i : Nat} {e bad : Int} (h : okPre l i e) : i ≤ (namesF l i e bad).2.1 ∧ (namesF l i e bad).2.1 ≤ l.length := by
 obtain ⟨r, hr⟩ : ∃ r, namesR l i e bad = r := ⟨_, rfl⟩
 have h3 := markF_ge l i e bad lbr
 have h3' : (markF l i e bad lbr).1 ≤ l.length := markF_le h.1.2.1
 have h4 := namesGo_in (e := e) 102 0 (markF l i e bad lbr).1 (markF l i e bad lbr).2 [] h3'
 rw [show namesGo l e 102 0 (markF l i e bad lbr).1 (markF l i e bad lbr).2 [] = r from hr] at h4
 rw [names_eq hr]
 have h5 := markF_ge l r.2.1 e r.2.2 rbr
 have h5' : (markF l r.2.1 e r.2.2 rbr).1 ≤ l.length := markF_le h4.2
 exact ⟨by dsimp only; omega, h5'⟩
theorem countF_in {l : List Tok} {i : Nat} {e bad : Int} (hi : i ≤ l.length) : i ≤ (countF l i e bad).2.1 ∧ (countF l i e bad).2.1 ≤ l.length := by
 have h1 := takeF_ge l i e bad 1
 have h2 : (takeF l i e bad 1).2.1 ≤ l.length := takeF_le hi
 unfold countF
 split
 · split
   · exact ⟨h1, h2⟩
   · exact ⟨Nat.le_refl i, hi⟩
 · split <;> exact ⟨h1, h2⟩
/-- A step. -/
structure ActM where
 kind : Int
 pid : ByteArray
 cls : Int
 flds : Option (List Fld)
 id : ByteArray
 name : ByteArray
 names : Option (List ByteArray)
 draw : ByteArray
 n : Int
 m : Int
 keep : Int
 tear : Int
def fldsC (z : Bool) (f : Option (List Fld)) : C := .s (z && f.isNone) (f.elim 0 fun _ => 6) (f.elim [] fun l => l.map fldC)
def namesC (z : Bool) (f : Option (List ByteArray)) : C := .s (z && f.isNone) (f.elim 0 fun _ => 1) (f.elim [] fun l => l.map strC)
theorem flds_some (z : Bool) (l : List Fld) : fldsC z (some l) = .s false 6 (l.map fldC) := by cases z <;> rfl
theorem names_some (z : Bool) (l : List ByteArray) : namesC z (some l) = .s false 1 (l.map strC) := by cases z <;> rfl
def actC (z : Bool) (a : ActM) : List C := [.v (.int .i64 a.kind), .v (.string a.pid), .v (.int .i64 a.cls), fldsC z a.flds, .v (.string a.id), .v (.string a.name), namesC z a.names, .v (.string a.draw), .v (.int .i64 a.n), .v (.int .i64 a.m), .v (.int .u64 a.keep), .v (.int .i64 a.tear)]
def act0 (k : Int) : ActM := ⟨k, noText, 0, none, noText, noText, none, noText, 0, 0, 0, 0⟩
theorem strs_inj : ∀ {l l' : List ByteArray}, l.map strC = l'.map strC → l = l'
 | [], [], _ => rfl
 | [], _ :: _, h => by simp at h
 | _ :: _, [], h => by simp at h
 | a :: l, b :: l', h => by
  simp only [Z24, List.cons.injEq, strC, C.v.injEq, Value.string.injEq, and_true] at h
  rw [h.1, strs_inj h.2]
theorem fldC_inj {x y : Fld} (h : fldC x = fldC y) : x = y := by
 obtain ⟨a, b, c, d, f, g⟩ := x
 obtain ⟨a', b', c', d', f', g'⟩ := y
 simp only [fldC, List.cons.injEq, C.v.injEq, Value.int.injEq, Value.string.injEq, Value.bool.injEq, true_and, and_true] at h
 obtain ⟨rfl, rfl, rfl, rfl, rfl, rfl⟩ := h; rfl
theorem flds_inj : ∀ {l l' : List Fld}, l.map fldC = l'.map fldC → l = l'
 | [], [], _ => rfl
 | [], _ :: _, h => by simp at h
 | _ :: _, [], h => by simp at h
 | a :: l, b :: l', h => by
  simp only [Z24, List.cons.injEq] at h
  rw [fldC_inj h.1, flds_inj h.2]
theorem fldsC_inj {f g : Option (List Fld)} (h : fldsC true f = fldsC true g) : f = g := by
 unfold fldsC at h
 cases f <;> cases g
 · rfl
 · simp at h
 · simp at h
 · simp only [Option.isNone_some, Bool.and_false, Option.elim_some, C.s.injEq, true_and] at h
   rw [flds_inj h]
theorem namesC_inj {f g : Option (List ByteArray)} (h : namesC true f = namesC true g) : f = g := by
 unfold namesC at h
 cases f <;> cases g
 · rfl
 · simp at h
 · simp at h
 · simp only [Option.isNone_some, Bool.and_false, Option.elim_some, C.s.injEq, true_and] at h
   rw [strs_inj h]
theorem actC_inj {a b : ActM} (h : actC true a = actC true b) : a = b := by
 obtain ⟨a1, a2, a3, a4, a5, a6, a7, a8, a9, a10, a11, a12⟩ := a
 obtain ⟨b1, b2, b3, b4, b5, b6, b7, b8, b9, b10, b11, b12⟩ := b
 simp only [actC, List.cons.injEq, C.v.injEq, Value.int.injEq, Value.string.injEq, true_and, and_true] at h
 obtain ⟨rfl, rfl, rfl, h1, rfl, rfl, h2, rfl, rfl, rfl, rfl, rfl⟩ := h
 rw [fldsC_inj h1, namesC_inj h2]
theorem str_cp (l : List ByteArray) : ((l.map strC).all fun row => row.all C.cp) = true := by
 rw [List.all_eq_true]
 intro row h
 obtain ⟨x, _, rfl⟩ := List.mem_map.1 h
 rfl
/-- What a step has. -/
def argsK (k : Int) : List Int := if k = 1 then [8, 7] else if k = 2 then [0] else if k = 4 then [0] else if k = 3 then [0, 1] else if k = 5 then [0, 1] else if k = 6 then [0, 1]
 else if k = 8 then [3] else if k = 11 then [5, 6] else if k = 12 then [3, 5, 6] else if k = 14 then [0, 2, 3] else if k = 15 then [3, 4] else []
def argsE (k : Int) : Nat := if k = 1 then 1 else if k = 2 then 1 else if k = 4 then 1 else if k = 3 then 1 else if k = 5 then 1 else if k = 6 then 1
 else if k = 8 then 1 else if k = 11 then 1 else if k = 12 then 1 else if k = 14 then 1 else if k = 15 then 1 else 0
noncomputable def pArgsA : List D → Option D := famP (fun _ : Int => True) (fun k => [.c (.v (.int .i64 k))]) (fun k => .c (.s true (argsE k) (ints (argsK k))))
theorem meets44A : Meets Try.prog 44 (pureS pArgsA) := by
 refine Yn (show Try.prog.funcs[44]? = some Try.f44 by kernel_rfl) rfl (n := 31) rfl (rs := [ResultVar.tmp 2]) rfl ?_
 intro k _ Q hQ
 refine Y3 ok0 rfl (by repeat first | with_reducible exact Y2 | refine Y1 (by simp only [Y5, Y4, Y6, qev, St.ev, St.put, Y8, Y7, List.replicate, Nat.reduceSub, ZA]; rfl) ?_) ?_
 refine seq_in ?_
 refine Y3 ok0 rfl (by repeat first | with_reducible exact Y2 | refine Y1 (by simp only [Y5, Y4, Y6, qev, St.ev, St.put, ZA]; rfl) ?_) ?_
 refine tri_block ?_
 refine Y3 ok0 rfl (by repeat first | with_reducible exact Y2 | refine Y1 (by simp only [Y5, Y4, Y6, qev, St.ev, St.put, qint, Yc, Ya, qbin, Y8, Y7, if_true, if_false, ZA]; rfl) ?_) ?_
 refine Yf rfl (fun a0 => ?_) (fun a0 => ?_)
 ·
  simp only [decide_eq_true_eq] at a0
  refine Y3 ok0 rfl (by repeat first | with_reducible exact Y2 | refine Y1 (by simp only [Y5, Y4, Y6, qev, St.ev, St.put, St.with, D.cells, C.st, C.dat, putCells, Y8, Y7, Nat.reduceAdd, Nat.reduceMul, if_true, decide_true, ne_eq, reduceCtorEq, Nat.reduceLeDiff, Nat.le_refl, buildSliceA, partsA, fillA, reps, chop, a0, tk27, tz3, tsz3, ZA]; rfl) ?_) ?_
  refine Yo (Yp (by simp only [outRes, Yi, resD, outD, outC, Nat.reduceAdd, if_true, ne_eq, reduceCtorEq, ZA]; rfl) rfl (by simp) (by simp) ?_)
  (simp only [reduceIte, ↓reduceIte, argsK, argsE, ints, Z24, Z13, a0] at hQ; with_reducible exact hQ)
 ·
  simp only [decide_eq_false_iff_not] at a0
  refine seq_in ?_
  refine Y3 ok0 rfl (by repeat first | with_reducible exact Y2 | refine Y1 (by simp only [Y5, Y4, Y6, qev, St.ev, St.put, qint, Yc, Ya, qbin, Y8, Y7, if_true, if_false, decide_false, a0, ZA]; rfl) ?_) ?_
  refine Yf rfl (fun a1 => ?_) (fun a1 => ?_)
  ·
   simp only [decide_eq_true_eq] at a1
   refine Ye ?_
   refine Yf rfl (fun a2 => ?_) (fun a2 => ?_)
   ·
    simp only [decide_eq_true_eq] at a2
    refine Y3 ok0 rfl (by repeat first | with_reducible exact Y2 | refine Y1 (by simp only [Y5, Y4, Y6, qev, St.ev, St.put, St.with, D.cells, C.st, C.dat, putCells, Y8, Y7, Nat.reduceMul, if_true, decide_true, ne_eq, reduceCtorEq, Nat.reduceLeDiff, Nat.le_refl, buildSliceA, partsA, fillA, reps, chop, a1, tk27, tz3, tsz3, ZA]; rfl) ?_) ?_
    refine Yo (Yp (by simp only [outRes, Yi, resD, outD, outC, if_true, ne_eq, reduceCtorEq, ZA]; rfl) rfl (by simp) (by simp) ?_)
    (simp only [reduceIte, ↓reduceIte, Int.reduceEq, argsK, argsE, ints, Z24, Z13, a1] at hQ; with_reducible exact hQ)
   ·
    simp only [decide_eq_false_iff_not] at a2
    (exfalso; omega)
  ·
   simp only [decide_eq_false_iff_not] at a1
   refine Yk ok0 rfl (by repeat first | with_reducible exact Y2 | refine Y1 (by simp only [Y5, Y4, Y6, qev, St.ev, St.put, qint, Yc, Ya, qbin, Y8, Y7, if_true, if_false, decide_false, a1, ZA]; rfl) ?_) ?_
   show Tri _ _ _ _
   refine Yf rfl (fun a3 => ?_) (fun a3 => ?_)
   ·
    simp only [decide_eq_true_eq] at a3
    refine Y3 ok0 rfl (by repeat first | with_reducible exact Y2 | refine Y1 (by simp only [Y5, Y4, Y6, qev, St.ev, St.put, St.with, D.cells, C.st, C.dat, putCells, Y8, Y7, Nat.reduceMul, if_true, decide_true, ne_eq, reduceCtorEq, Nat.reduceLeDiff, Nat.le_refl, buildSliceA, partsA, fillA, reps, chop, a3, tk27, tz3, tsz3, ZA]; rfl) ?_) ?_
    refine Yo (Yp (by simp only [outRes, Yi, resD, outD, outC, if_true, ne_eq, reduceCtorEq, ZA]; rfl) rfl (by simp) (by simp) ?_)
    (simp only [reduceIte, ↓reduceIte, Int.reduceEq, argsK, argsE, ints, Z24, Z13, a3] at hQ; with_reducible exact hQ)
   ·
    simp only [decide_eq_false_iff_not] at a3
    refine seq_in ?_
    refine Y3 ok0 rfl (by repeat first | with_reducible exact Y2 | refine Y1 (by simp only [Y5, Y4, Y6, qev, St.ev, St.put, qint, Yc, Ya, qbin, Y8, Y7, if_true, if_false, decide_false, a3, ZA]; rfl) ?_) ?_
    refine Yf rfl (fun a4 => ?_) (fun a4 => ?_)
    ·
     simp only [decide_eq_true_eq] at a4
     refine Ye ?_
     refine Yf rfl (fun a5 => ?_) (fun a5 => ?_)
     ·
      simp only [decide_eq_true_eq] at a5
      refine Y3 ok0 rfl (by repeat first | with_reducible exact Y2 | refine Y1 (by simp only [Y5, Y4, Y6, qev, St.ev, St.put, St.with, D.cells, C.st, C.dat, putCells, Y8, Y7, Nat.reduceAdd, Nat.reduceMul, if_true, decide_true, ne_eq, reduceCtorEq, Nat.reduceLeDiff, Nat.le_refl, buildSliceA, partsA, fillA, reps, chop, a4, tk27, tz3, tsz3, ZA]; rfl) ?_) ?_
      refine Yo (Yp (by simp only [outRes, Yi, resD, outD, outC, Nat.reduceAdd, if_true, ne_eq, reduceCtorEq, ZA]; rfl) rfl (by simp) (by simp) ?_)
      (simp only [reduceIte, ↓reduceIte, Int.reduceEq, argsK, argsE, ints, Z24, Z13, a4] at hQ; with_reducible exact hQ)
     ·
      simp only [decide_eq_false_iff_not] at a5
      (exfalso; omega)
    ·
     simp only [decide_eq_false_iff_not] at a4
     refine Y3 ok0 rfl (by repeat first | with_reducible exact Y2 | refine Y1 (by simp only [Y5, Y4, Y6, qev, St.ev, St.put, qint, Yc, Ya, qbin, Y8, Y7, if_true, if_false, decide_false, a4, ZA]; rfl) ?_) ?_
     refine Yf rfl (fun a6 => ?_) (fun a6 => ?_)
     ·
      simp only [decide_eq_true_eq] at a6
      refine Ye ?_
      refine Yf rfl (fun a7 => ?_) (fun a7 => ?_)
      ·
       simp only [decide_eq_true_eq] at a7
       refine Y3 ok0 rfl (by repeat first | with_reducible exact Y2 | refine Y1 (by simp only [Y5, Y4, Y6, qev, St.ev, St.put, St.with, D.cells, C.st, C.dat, putCells, Y8, Y7, Nat.reduceAdd, Nat.reduceMul, if_true, decide_true, ne_eq, reduceCtorEq, Nat.reduceLeDiff, Nat.le_refl, buildSliceA, partsA, fillA, reps, chop, a6, tk27, tz3, tsz3, ZA]; rfl) ?_) ?_
       refine Yo (Yp (by simp only [outRes, Yi, resD, outD, outC, Nat.reduceAdd, if_true, ne_eq, reduceCtorEq, ZA]; rfl) rfl (by simp) (by simp) ?_)
       (simp only [reduceIte, ↓reduceIte, Int.reduceEq, argsK, argsE, ints, Z24, Z13, a6] at hQ; with_reducible exact hQ)
      ·
       simp only [decide_eq_false_iff_not] at a7
       (exfalso; omega)
     ·
      simp only [decide_eq_false_iff_not] at a6
      refine Yk ok0 rfl (by repeat first | with_reducible exact Y2 | refine Y1 (by simp only [Y5, Y4, Y6, qev, St.ev, St.put, qint, Yc, Ya, qbin, Y8, Y7, if_true, if_false, decide_false, a6, ZA]; rfl) ?_) ?_
      show Tri _ _ _ _
      refine Yf rfl (fun a8 => ?_) (fun a8 => ?_)
      ·
       simp only [decide_eq_true_eq] at a8
       refine Y3 ok0 rfl (by repeat first | with_reducible exact Y2 | refine Y1 (by simp only [Y5, Y4, Y6, qev, St.ev, St.put, St.with, D.cells, C.st, C.dat, putCells, Y8, Y7, Nat.reduceAdd, Nat.reduceMul, if_true, decide_true, ne_eq, reduceCtorEq, Nat.reduceLeDiff, Nat.le_refl, buildSliceA, partsA, fillA, reps, chop, a8, tk27, tz3, tsz3, ZA]; rfl) ?_) ?_
       refine Yo (Yp (by simp only [outRes, Yi, resD, outD, outC, Nat.reduceAdd, if_true, ne_eq, reduceCtorEq, ZA]; rfl) rfl (by simp) (by simp) ?_)
       (simp only [reduceIte, ↓reduceIte, Int.reduceEq, argsK, argsE, ints, Z24, Z13, a8] at hQ; with_reducible exact hQ)
      ·
       simp only [decide_eq_false_iff_not] at a8
       refine Y3 ok0 rfl (by repeat first | with_reducible exact Y2 | refine Y1 (by simp only [Y5, Y4, Y6, qev, St.ev, St.put, qint, Yc, Ya, qbin, Y8, Y7, if_true, if_false, decide_false, a8, ZA]; rfl) ?_) ?_
       refine Yf rfl (fun a9 => ?_) (fun a9 => ?_)
       ·
        simp only [decide_eq_true_eq] at a9
        refine Y3 ok0 rfl (by repeat first | with_reducible exact Y2 | refine Y1 (by simp only [Y5, Y4, Y6, qev, St.ev, St.put, St.with, D.cells, C.st, C.dat, putCells, Y8, Y7, Nat.reduceMul, if_true, decide_true, ne_eq, reduceCtorEq, Nat.reduceLeDiff, Nat.le_refl, buildSliceA, partsA, fillA, reps, chop, a9, tk27, tz3, tsz3, ZA]; rfl) ?_) ?_
        refine Yo (Yp (by simp only [outRes, Yi, resD, outD, outC, if_true, ne_eq, reduceCtorEq, ZA]; rfl) rfl (by simp) (by simp) ?_)
        (simp only [reduceIte, ↓reduceIte, Int.reduceEq, argsK, argsE, ints, Z24, Z13, a9] at hQ; with_reducible exact hQ)
       ·
        simp only [decide_eq_false_iff_not] at a9
        refine Y3 ok0 rfl (by repeat first | with_reducible exact Y2 | refine Y1 (by simp only [Y5, Y4, Y6, qev, St.ev, St.put, qint, Yc, Ya, qbin, Y8, Y7, if_true, if_false, decide_false, a9, ZA]; rfl) ?_) ?_
        refine Yf rfl (fun a10 => ?_) (fun a10 => ?_)
        ·
         simp only [decide_eq_true_eq] at a10
         refine Y3 ok0 rfl (by repeat first | with_reducible exact Y2 | refine Y1 (by simp only [Y5, Y4, Y6, qev, St.ev, St.put, St.with, D.cells, C.st, C.dat, putCells, Y8, Y7, Nat.reduceAdd, Nat.reduceMul, if_true, decide_true, ne_eq, reduceCtorEq, Nat.reduceLeDiff, Nat.le_refl, buildSliceA, partsA, fillA, reps, chop, a10, tk27, tz3, tsz3, ZA]; rfl) ?_) ?_
         refine Yo (Yp (by simp only [outRes, Yi, resD, outD, outC, Nat.reduceAdd, if_true, ne_eq, reduceCtorEq, ZA]; rfl) rfl (by simp) (by simp) ?_)
         (simp only [reduceIte, ↓reduceIte, Int.reduceEq, argsK, argsE, ints, Z24, Z13, a10] at hQ; with_reducible exact hQ)
        ·
         simp only [decide_eq_false_iff_not] at a10
         refine Y3 ok0 rfl (by repeat first | with_reducible exact Y2 | refine Y1 (by simp only [Y5, Y4, Y6, qev, St.ev, St.put, qint, Yc, Ya, qbin, Y8, Y7, if_true, if_false, decide_false, a10, ZA]; rfl) ?_) ?_
         refine Yf rfl (fun a11 => ?_) (fun a11 => ?_)
         ·
          simp only [decide_eq_true_eq] at a11
          refine Y3 ok0 rfl (by repeat first | with_reducible exact Y2 | refine Y1 (by simp only [Y5, Y4, Y6, qev, St.ev, St.put, St.with, D.cells, C.st, C.dat, putCells, Y8, Y7, Nat.reduceAdd, Nat.reduceMul, if_true, decide_true, ne_eq, reduceCtorEq, Nat.reduceLeDiff, Nat.le_refl, buildSliceA, partsA, fillA, reps, chop, a11, tk27, tz3, tsz3, ZA]; rfl) ?_) ?_
          refine Yo (Yp (by simp only [outRes, Yi, resD, outD, outC, Nat.reduceAdd, if_true, ne_eq, reduceCtorEq, ZA]; rfl) rfl (by simp) (by simp) ?_)
          (simp only [reduceIte, ↓reduceIte, Int.reduceEq, argsK, argsE, ints, Z24, Z13, a11] at hQ; with_reducible exact hQ)
         ·
          simp only [decide_eq_false_iff_not] at a11
          refine Y3 ok0 rfl (by repeat first | with_reducible exact Y2 | refine Y1 (by simp only [Y5, Y4, Y6, qev, St.ev, St.put, qint, Yc, Ya, qbin, Y8, Y7, if_true, if_false, decide_false, a11, ZA]; rfl) ?_) ?_
          refine Yf rfl (fun a12 => ?_) (fun a12 => ?_)
          ·
           simp only [decide_eq_true_eq] at a12
           refine Y3 ok0 rfl (by repeat first | with_reducible exact Y2 | refine Y1 (by simp only [Y5, Y4, Y6, qev, St.ev, St.put, St.with, D.cells, C.st, C.dat, putCells, Y8, Y7, Nat.reduceAdd, Nat.reduceMul, if_true, decide_true, ne_eq, reduceCtorEq, Nat.reduceLeDiff, Nat.le_refl, buildSliceA, partsA, fillA, reps, chop, a12, tk27, tz3, tsz3, ZA]; rfl) ?_) ?_
           refine Yo (Yp (by simp only [outRes, Yi, resD, outD, outC, Nat.reduceAdd, if_true, ne_eq, reduceCtorEq, ZA]; rfl) rfl (by simp) (by simp) ?_)
           (simp only [reduceIte, ↓reduceIte, Int.reduceEq, argsK, argsE, ints, Z24, Z13, a12] at hQ; with_reducible exact hQ)
          ·
           simp only [decide_eq_false_iff_not] at a12
           refine Y3 ok0 rfl (by repeat first | with_reducible exact Y2 | refine Y1 (by simp only [Y5, Y4, Y6, qev, St.ev, St.put, qint, Yc, Ya, qbin, Y8, Y7, if_true, if_false, decide_false, a12, ZA]; rfl) ?_) ?_
           refine Yf rfl (fun a13 => ?_) (fun a13 => ?_)
           ·
            simp only [decide_eq_true_eq] at a13
            refine Y3 ok0 rfl (by repeat first | with_reducible exact Y2 | refine Y1 (by simp only [Y5, Y4, Y6, qev, St.ev, St.put, St.with, D.cells, C.st, C.dat, putCells, Y8, Y7, Nat.reduceAdd, Nat.reduceMul, if_true, decide_true, ne_eq, reduceCtorEq, Nat.reduceLeDiff, Nat.le_refl, buildSliceA, partsA, fillA, reps, chop, a13, tk27, tz3, tsz3, ZA]; rfl) ?_) ?_
            refine Yo (Yp (by simp only [outRes, Yi, resD, outD, outC, Nat.reduceAdd, if_true, ne_eq, reduceCtorEq, ZA]; rfl) rfl (by simp) (by simp) ?_)
            (simp only [reduceIte, ↓reduceIte, Int.reduceEq, argsK, argsE, ints, Z24, Z13, a13] at hQ; with_reducible exact hQ)
           ·
            simp only [decide_eq_false_iff_not] at a13
            refine tri_skip ?_
            show Tri _ _ _ _
            refine Y3 ok0 rfl (by repeat first | with_reducible exact Y2 | refine Y1 (by simp only [Y5, Y4, Y6, qev, St.ev, St.put, Y8, Y7, decide_false, a13, ZA]; rfl) ?_) ?_
            refine Yo (Yp (by simp only [outRes, Yi, resD, outD, outC, C.dat, if_true, ZA]; rfl) rfl (by simp) (by simp) ?_)
            (simp only [reduceIte, ↓reduceIte, argsK, argsE, ints, Z13, a0, a1, a3, a4, a6, a8, a9, a10, a11, a12, a13] at hQ; with_reducible exact hQ)
theorem ints_cp (l : List Int) : ((ints l).all fun row => row.all C.cp) = true := by
 rw [List.all_eq_true]
 intro row h
 obtain ⟨x, _, rfl⟩ := List.mem_map.1 h
 rfl
noncomputable def pArgsZ : List D → Option D := fun a => (pArgsA a).map D.frz
theorem meets44Z : Meets Try.prog 44 (pureS pArgsZ) := meets_frzP meets44A
theorem args_at (k : Int) : pArgsZ [.c (.v (.int .i64 k))] = some (.c (.s false (argsE k) (ints (argsK k)))) := by
 have h : pArgsA [.c (.v (.int .i64 k))] = some (.c (.s true (argsE k) (ints (argsK k)))) := Ym (by
  intro a b h
  simp only [List.cons.injEq, D.c.injEq, C.v.injEq, Value.int.injEq, and_true, true_and] at h
  subst h; rfl) k trivial rfl
 unfold pArgsZ
 rw [h, Option.map_some]
 unfold D.frz
 simp only [if_pos (ints_cp _)]
noncomputable def oNamesZ : List D → List Obj → Option (D × List Obj) := fun a o => (oNames a o).map fun r => (r.1.frz, r.2)
theorem meets79Z : Meets Try.prog 79 (detS oNamesZ) := meets_frzO meets79
theorem names_at {l : List Tok} (i : Nat) (e bad : Int) (h : okPre l i e) : oNamesZ [.c (.p 0 0 0)] [⟨4, [[.s false 3 (l.map tokC), .v (.int .i64 i), .v (.int .i64 e), .v (.int .i64 bad)]]⟩] =
  some (.c (.s false 1 ((namesF l i e bad).1.map strC)), [⟨4, [[.s false 3 (l.map tokC), .v (.int .i64 (namesF l i e bad).2.1), .v (.int .i64 e), .v (.int .i64 (namesF l i e bad).2.2)]]⟩]) := by
 have h1 : oNames [.c (.p 0 0 0)] [⟨4, [[.s false 3 (l.map tokC), .v (.int .i64 i), .v (.int .i64 e), .v (.int .i64 bad)]]⟩] =
  some (.c (.s true 1 ((namesF l i e bad).1.map strC)), [⟨4, [[.s false 3 (l.map tokC), .v (.int .i64 (namesF l i e bad).2.1), .v (.int .i64 e), .v (.int .i64 (namesF l i e bad).2.2)]]⟩]) :=
  famO_at (fun x y h => pa_inj4 x y h) (l, i, e, bad) ⟨h.1, h.2.2⟩ rfl
 unfold oNamesZ
 rw [h1, Option.map_some]
 unfold D.frz
 simp only [if_pos (str_cp _)]
noncomputable def oPaperZ : List D → List Obj → Option (D × List Obj) := fun a o => (oPaper0 a o).map fun r => (r.1.frzA, r.2)
theorem meets81Z : Meets Try.prog 81 (detS oPaperZ) := meets_frzAO meets81
theorem paper_at {l : List Tok} (i : Nat) (e bad : Int) (h : okPre l i e) : oPaperZ [.c (.p 0 0 0)] [⟨4, [[.s false 3 (l.map tokC), .v (.int .i64 i), .v (.int .i64 e), .v (.int .i64 bad)]]⟩] =
  some (.agg [.v (.string (paperF l i e bad).1.1), .v (.int .i64 (paperF l i e bad).1.2.1), .s false 6 ((paperF l i e bad).1.2.2.map fldC)], [⟨4, [[.s false 3 (l.map tokC), .v (.int .i64 (paperF l i e bad).2.1), .v (.int .i64 e), .v (.int .i64 (paperF l i e bad).2.2)]]⟩]) := by
 have h1 : oPaper0 [.c (.p 0 0 0)] [⟨4, [[.s false 3 (l.map tokC), .v (.int .i64 i), .v (.int .i64 e), .v (.int .i64 bad)]]⟩] =
  some (.agg (papC true (paperF l i e bad).1), [⟨4, [[.s false 3 (l.map tokC), .v (.int .i64 (paperF l i e bad).2.1), .v (.int .i64 e), .v (.int .i64 (paperF l i e bad).2.2)]]⟩]) :=
  famO_at (fun x y h => pa_inj4 x y h) (l, i, e, bad) h rfl
 unfold oPaperZ
 rw [h1, Option.map_some]
 unfold D.frzA papC
 simp only [Z24, Z13, C.frz, if_pos (fld_cp _)]
/-- What a step has, taken. -/
def argT (l : List Tok) (e : Int) (k : Int) (a : ActM) (i : Nat) (bad : Int) : ActM × Nat × Int :=
 if k = 0 then ({ a with id := (takeF l i e bad 2).1 }, (takeF l i e bad 2).2)
 else if k = 1 then ({ a with name := (takeF l i e bad 2).1 }, (takeF l i e bad 2).2)
 else if k = 2 then ({ a with names := some (namesF l i e bad).1 }, (namesF l i e bad).2)
 else if k = 3 then ({ a with n := (numT l i e bad).1 }, (numT l i e bad).2)
 else if k = 4 then ({ a with m := (numT l i e bad).1 }, (numT l i e bad).2)
 else if k = 5 then ({ a with keep := (countF l i e bad).1 }, (countF l i e bad).2)
 else if k = 6 then ({ a with tear := (numT l i e bad).1 }, (numT l i e bad).2)
 else if k = 7 then ({ a with draw := (takeF l i e bad 2).1 }, (takeF l i e bad 2).2)
 else if k = 8 then ({ a with pid := (paperF l i e bad).1.1, cls := (paperF l i e bad).1.2.1, flds := some (paperF l i e bad).1.2.2 }, (paperF l i e bad).2)
 else (a, i, bad)
theorem argT_in {l : List Tok} {e k : Int} {a : ActM} {i : Nat} {bad : Int} (h : okPre l i e) : i ≤ (argT l e k a i bad).2.1 ∧ (argT l e k a i bad).2.1 ≤ l.length := by
 have hi := h.1.2.1
 unfold argT
 split
 · exact ⟨takeF_ge .., takeF_le hi⟩
 split
 · exact ⟨takeF_ge .., takeF_le hi⟩
 split
 · exact namesF_in h
 split
 · exact ⟨numT_ge .., numT_le h⟩
 split
 · exact ⟨numT_ge .., numT_le h⟩
 split
 · exact countF_in hi
 split
 · exact ⟨numT_ge .., numT_le h⟩
 split
 · exact ⟨takeF_ge .., takeF_le hi⟩
 split
 · exact paperF_in h
 · exact ⟨Nat.le_refl i, hi⟩
noncomputable def FsA1 : Fs := { pure := fun _ => none, objs := fun k => if k = 68 then some oTakeP else if k = 79 then some oNamesZ else if k = 63 then some oNumber else if k = 80 then some oCount else if k = 81 then some oPaperZ else none }
theorem okA1 : FsOK Try.prog FsA1 := by
 refine ⟨fun k f h => ?_, fun k f h => ?_⟩
 · cases h
 · simp only [FsA1] at h
   split at h
   · rename_i hk; subst hk; cases h; exact ⟨by kernel_rfl, meets68⟩
   split at h
   · rename_i hk; subst hk; cases h; exact ⟨by kernel_rfl, meets79Z⟩
   split at h
   · rename_i hk; subst hk; cases h; exact ⟨by kernel_rfl, meets63⟩
   split at h
   · rename_i hk; subst hk; cases h; exact ⟨by kernel_rfl, meets80⟩
   split at h
   · rename_i hk; subst hk; cases h; exact ⟨by kernel_rfl, meets81Z⟩
   · cases h
noncomputable def oArgA := famO (fun x : (List Tok × Nat × Int × Int) × Int × ActM => okPre x.1.1 x.1.2.1 x.1.2.2.1) (fun x => ([.c (.p 0 0 0), .c (.p 1 0 0), .c (.v (.int .i64 x.2.1))], [paObj x.1.1 x.1.2.1 x.1.2.2.1 x.1.2.2.2, ⟨12, [actC true x.2.2]⟩]))
 (fun x => (.t [], [paObj x.1.1 (argT x.1.1 x.1.2.2.1 x.2.1 x.2.2 x.1.2.1 x.1.2.2.2).2.1 x.1.2.2.1 (argT x.1.1 x.1.2.2.1 x.2.1 x.2.2 x.1.2.1 x.1.2.2.2).2.2, ⟨12, [actC true (argT x.1.1 x.1.2.2.1 x.2.1 x.2.2 x.1.2.1 x.1.2.2.2).1]⟩]))
theorem meets69 : Meets Try.prog 69 (detS oArgA) := by
 refine meets_famO (show Try.prog.funcs[69]? = some Try.f69 by kernel_rfl) rfl (n := 70) rfl (rs := []) rfl ?_
 rintro ⟨⟨l, i, e, bad⟩, k, b⟩ hpre Q hQ
 dsimp only at hpre hQ
 simp only [paObj] at hQ
 have hl : l.length ≤ 1000000 := hpre.1.1
 have hi : i ≤ l.length := hpre.1.2.1
 have hT := take_at hl i e bad 2 hi
 have hN := num_at i e bad hpre
 have hS := names_at i e bad hpre
 have hC := count_at i e bad hpre.1
 have hP := paper_at i e bad hpre
 refine Y3 okA1 rfl (by repeat first | with_reducible exact Y2 | refine Y1 (by simp only [Y5, Y4, Y6, qev, St.ev, St.put, List.replicate, Nat.reduceAdd, Nat.reduceSub, paObj, actC, ZA]; rfl) ?_) ?_
 refine tri_block ?_
 refine Y3 okA1 rfl (by repeat first | with_reducible exact Y2 | refine Y1 (by simp only [Y5, Y4, Y6, qev, St.ev, St.put, qint, Yc, Ya, qbin, Y8, Y7, if_true, if_false, ZA]; rfl) ?_) ?_
 refine Yf rfl (fun a0 => ?_) (fun a0 => ?_)
 ·
  simp only [decide_eq_true_eq] at a0
  refine Yk okA1 rfl (by repeat first | with_reducible exact Y2 | refine Y1 (by simp only [Y5, Y4, Y6, evsA, qev, St.ev, St.put, St.with, D.cells, D.cell, C.cpy, qnil, Yb, liveR, C.st, C.cp, C.dat, storeA, putCells, Y8, Y7, Bool.and_true, Nat.reduceAdd, Nat.reduceEqDiff, if_true, if_false, decide_true, ne_eq, reduceCtorEq, Nat.reduceLeDiff, implies_true, beq_self_eq_true, Bool.true_or, callP, callO, dedup, rootsD, rootsC, List.flatMap_cons, List.flatMap_nil, List.filterMap_cons, List.filterMap_nil, Yg, argD, argC, List.contains_nil, objsAt, objOf, List.idxOf?, List.findIdx?, List.findIdx?.go, setObjs, settle, settle1, settleC, FsA1, hT, tk50, a0, tsz9, ZA]; rfl) ?_) ?_
  refine ends_norm rfl rfl .nil (by simp) ?_
  simp only [Z12, Z23]
  (simp only [reduceIte, ↓reduceIte, argT, actC, a0] at hQ; with_reducible exact hQ)
 ·
  simp only [decide_eq_false_iff_not] at a0
  refine Y3 okA1 rfl (by repeat first | with_reducible exact Y2 | refine Y1 (by simp only [Y5, Y4, Y6, qev, St.ev, St.put, qint, Yc, Ya, qbin, Y8, Y7, if_true, if_false, decide_false, a0, ZA]; rfl) ?_) ?_
  refine Yf rfl (fun a1 => ?_) (fun a1 => ?_)
  ·
   simp only [decide_eq_true_eq] at a1
   refine Yk okA1 rfl (by repeat first | with_reducible exact Y2 | refine Y1 (by simp only [Y5, Y4, Y6, evsA, qev, St.ev, St.put, St.with, D.cells, D.cell, C.cpy, qnil, Yb, liveR, C.st, C.cp, C.dat, storeA, putCells, Y8, Y7, Bool.and_true, Nat.reduceAdd, Nat.reduceEqDiff, if_true, if_false, decide_true, ne_eq, reduceCtorEq, Nat.reduceLeDiff, implies_true, beq_self_eq_true, Bool.true_or, callP, callO, dedup, rootsD, rootsC, List.flatMap_cons, List.flatMap_nil, List.filterMap_cons, List.filterMap_nil, Yg, argD, argC, List.contains_nil, objsAt, objOf, List.idxOf?, List.findIdx?, List.findIdx?.go, setObjs, settle, settle1, settleC, FsA1, hT, tk50, a1, tsz9, ZA]; rfl) ?_) ?_
   refine ends_norm rfl rfl .nil (by simp) ?_
   simp only [Z12, Z23]
   (simp only [reduceIte, ↓reduceIte, Int.reduceEq, argT, actC, a1] at hQ; with_reducible exact hQ)
  ·
   simp only [decide_eq_false_iff_not] at a1
   refine Y3 okA1 rfl (by repeat first | with_reducible exact Y2 | refine Y1 (by simp only [Y5, Y4, Y6, qev, St.ev, St.put, qint, Yc, Ya, qbin, Y8, Y7, if_true, if_false, decide_false, a1, ZA]; rfl) ?_) ?_
   refine Yf rfl (fun a2 => ?_) (fun a2 => ?_)
   ·
    simp only [decide_eq_true_eq] at a2
    refine Yk okA1 rfl (by repeat first | with_reducible exact Y2 | refine Y1 (by simp only [Y5, Y4, Y6, evsA, qev, St.ev, St.put, St.with, D.cells, D.cell, qnil, Yb, liveR, C.st, C.dat, storeA, putCells, Bool.and_true, Nat.reduceAdd, Nat.reduceEqDiff, if_true, if_false, decide_true, ne_eq, reduceCtorEq, Nat.reduceLeDiff, implies_true, beq_self_eq_true, Bool.true_or, callP, callO, dedup, rootsD, rootsC, List.flatMap_cons, List.flatMap_nil, List.filterMap_cons, List.filterMap_nil, Yg, argD, argC, List.contains_nil, objsAt, objOf, List.idxOf?, List.findIdx?, List.findIdx?.go, setObjs, settle, settle1, settleC, FsA1, hS, tk50, a2, tsz28, ZA]; rfl) ?_) ?_
    refine ends_norm rfl rfl .nil (by simp) ?_
    simp only [Z12, Z23]
    (simp only [reduceIte, ↓reduceIte, Int.reduceEq, argT, actC, names_some, a2] at hQ; with_reducible exact hQ)
   ·
    simp only [decide_eq_false_iff_not] at a2
    refine Y3 okA1 rfl (by repeat first | with_reducible exact Y2 | refine Y1 (by simp only [Y5, Y4, Y6, qev, St.ev, St.put, qint, Yc, Ya, qbin, Y8, Y7, if_true, if_false, decide_false, a2, ZA]; rfl) ?_) ?_
    refine Yf rfl (fun a3 => ?_) (fun a3 => ?_)
    ·
     simp only [decide_eq_true_eq] at a3
     refine Yk okA1 rfl (by repeat first | with_reducible exact Y2 | refine Y1 (by simp only [Y5, Y4, Y6, evsA, qev, St.ev, St.put, St.with, D.cells, D.cell, qnil, Yb, liveR, C.st, C.dat, storeA, putCells, Bool.and_true, Nat.reduceAdd, Nat.reduceEqDiff, if_true, if_false, decide_true, ne_eq, reduceCtorEq, Nat.reduceLeDiff, implies_true, beq_self_eq_true, Bool.true_or, callP, callO, dedup, rootsD, rootsC, List.flatMap_cons, List.flatMap_nil, List.filterMap_cons, List.filterMap_nil, Yg, argD, argC, List.contains_nil, objsAt, objOf, List.idxOf?, List.findIdx?, List.findIdx?.go, setObjs, settle, settle1, settleC, FsA1, hN, tk50, a3, tsz3, ZA]; rfl) ?_) ?_
     refine ends_norm rfl rfl .nil (by simp) ?_
     simp only [Z12, Z23]
     (simp only [reduceIte, ↓reduceIte, Int.reduceEq, argT, actC, a3] at hQ; with_reducible exact hQ)
    ·
     simp only [decide_eq_false_iff_not] at a3
     refine Y3 okA1 rfl (by repeat first | with_reducible exact Y2 | refine Y1 (by simp only [Y5, Y4, Y6, qev, St.ev, St.put, qint, Yc, Ya, qbin, Y8, Y7, if_true, if_false, decide_false, a3, ZA]; rfl) ?_) ?_
     refine Yf rfl (fun a4 => ?_) (fun a4 => ?_)
     ·
      simp only [decide_eq_true_eq] at a4
      refine Yk okA1 rfl (by repeat first | with_reducible exact Y2 | refine Y1 (by simp only [Y5, Y4, Y6, evsA, qev, St.ev, St.put, St.with, D.cells, D.cell, qnil, Yb, liveR, C.st, C.dat, storeA, putCells, Bool.and_true, Nat.reduceAdd, Nat.reduceEqDiff, if_true, if_false, decide_true, ne_eq, reduceCtorEq, Nat.reduceLeDiff, implies_true, beq_self_eq_true, Bool.true_or, callP, callO, dedup, rootsD, rootsC, List.flatMap_cons, List.flatMap_nil, List.filterMap_cons, List.filterMap_nil, Yg, argD, argC, List.contains_nil, objsAt, objOf, List.idxOf?, List.findIdx?, List.findIdx?.go, setObjs, settle, settle1, settleC, FsA1, hN, tk50, a4, tsz3, ZA]; rfl) ?_) ?_
      refine ends_norm rfl rfl .nil (by simp) ?_
      simp only [Z12, Z23]
      (simp only [reduceIte, ↓reduceIte, Int.reduceEq, argT, actC, a4] at hQ; with_reducible exact hQ)
     ·
      simp only [decide_eq_false_iff_not] at a4
      refine Y3 okA1 rfl (by repeat first | with_reducible exact Y2 | refine Y1 (by simp only [Y5, Y4, Y6, qev, St.ev, St.put, qint, Yc, Ya, qbin, Y8, Y7, if_true, if_false, decide_false, a4, ZA]; rfl) ?_) ?_
      refine Yf rfl (fun a5 => ?_) (fun a5 => ?_)
      ·
       simp only [decide_eq_true_eq] at a5
       refine Yk okA1 rfl (by repeat first | with_reducible exact Y2 | refine Y1 (by simp only [Y5, Y4, Y6, evsA, qev, St.ev, St.put, St.with, D.cells, D.cell, qnil, Yb, liveR, C.st, C.dat, storeA, putCells, Bool.and_true, Nat.reduceAdd, Nat.reduceEqDiff, if_true, if_false, decide_true, ne_eq, reduceCtorEq, Nat.reduceLeDiff, implies_true, beq_self_eq_true, Bool.true_or, callP, callO, dedup, rootsD, rootsC, List.flatMap_cons, List.flatMap_nil, List.filterMap_cons, List.filterMap_nil, Yg, argD, argC, List.contains_nil, objsAt, objOf, List.idxOf?, List.findIdx?, List.findIdx?.go, setObjs, settle, settle1, settleC, FsA1, hC, tk50, a5, tsz37, ZA]; rfl) ?_) ?_
       refine ends_norm rfl rfl .nil (by simp) ?_
       simp only [Z12, Z23]
       (simp only [reduceIte, ↓reduceIte, Int.reduceEq, argT, actC, a5] at hQ; with_reducible exact hQ)
      ·
       simp only [decide_eq_false_iff_not] at a5
       refine Y3 okA1 rfl (by repeat first | with_reducible exact Y2 | refine Y1 (by simp only [Y5, Y4, Y6, qev, St.ev, St.put, qint, Yc, Ya, qbin, Y8, Y7, if_true, if_false, decide_false, a5, ZA]; rfl) ?_) ?_
       refine Yf rfl (fun a6 => ?_) (fun a6 => ?_)
       ·
        simp only [decide_eq_true_eq] at a6
        refine Yk okA1 rfl (by repeat first | with_reducible exact Y2 | refine Y1 (by simp only [Y5, Y4, Y6, evsA, qev, St.ev, St.put, St.with, D.cells, D.cell, qnil, Yb, liveR, C.st, C.dat, storeA, putCells, Bool.and_true, Nat.reduceAdd, Nat.reduceEqDiff, if_true, if_false, decide_true, ne_eq, reduceCtorEq, Nat.le_refl, implies_true, beq_self_eq_true, Bool.true_or, callP, callO, dedup, rootsD, rootsC, List.flatMap_cons, List.flatMap_nil, List.filterMap_cons, List.filterMap_nil, Yg, argD, argC, List.contains_nil, objsAt, objOf, List.idxOf?, List.findIdx?, List.findIdx?.go, setObjs, settle, settle1, settleC, FsA1, hN, tk50, a6, tsz3, ZA]; rfl) ?_) ?_
        refine ends_norm rfl rfl .nil (by simp) ?_
        simp only [Z12, Z23]
        (simp only [reduceIte, ↓reduceIte, Int.reduceEq, argT, actC, a6] at hQ; with_reducible exact hQ)
       ·
        simp only [decide_eq_false_iff_not] at a6
        refine Y3 okA1 rfl (by repeat first | with_reducible exact Y2 | refine Y1 (by simp only [Y5, Y4, Y6, qev, St.ev, St.put, qint, Yc, Ya, qbin, Y8, Y7, if_true, if_false, decide_false, a6, ZA]; rfl) ?_) ?_
        refine Yf rfl (fun a7 => ?_) (fun a7 => ?_)
        ·
         simp only [decide_eq_true_eq] at a7
         refine Yk okA1 rfl (by repeat first | with_reducible exact Y2 | refine Y1 (by simp only [Y5, Y4, Y6, evsA, qev, St.ev, St.put, St.with, D.cells, D.cell, C.cpy, qnil, Yb, liveR, C.st, C.cp, C.dat, storeA, putCells, Y8, Y7, Bool.and_true, Nat.reduceAdd, Nat.reduceEqDiff, if_true, if_false, decide_true, ne_eq, reduceCtorEq, Nat.reduceLeDiff, implies_true, beq_self_eq_true, Bool.true_or, callP, callO, dedup, rootsD, rootsC, List.flatMap_cons, List.flatMap_nil, List.filterMap_cons, List.filterMap_nil, Yg, argD, argC, List.contains_nil, objsAt, objOf, List.idxOf?, List.findIdx?, List.findIdx?.go, setObjs, settle, settle1, settleC, FsA1, hT, tk50, a7, tsz9, ZA]; rfl) ?_) ?_
         refine ends_norm rfl rfl .nil (by simp) ?_
         simp only [Z12, Z23]
         (simp only [reduceIte, ↓reduceIte, Int.reduceEq, argT, actC, a7] at hQ; with_reducible exact hQ)
        ·
         simp only [decide_eq_false_iff_not] at a7
         refine Y3 okA1 rfl (by repeat first | with_reducible exact Y2 | refine Y1 (by simp only [Y5, Y4, Y6, qev, St.ev, St.put, qint, Yc, Ya, qbin, Y8, Y7, if_true, if_false, decide_false, a7, ZA]; rfl) ?_) ?_
         refine Yf rfl (fun a8 => ?_) (fun a8 => ?_)
         ·
          simp only [decide_eq_true_eq] at a8
          refine Yk okA1 rfl (by repeat first | with_reducible exact Y2 | refine Y1 (by simp only [Y5, Y4, Y6, evsA, qev, St.ev, St.put, St.with, D.cells, D.cell, qnil, Yb, liveR, C.st, C.dat, storeA, putCells, Bool.and_true, Nat.reduceAdd, Nat.reduceEqDiff, if_true, if_false, decide_true, ne_eq, reduceCtorEq, Nat.reduceLeDiff, implies_true, beq_self_eq_true, Bool.true_or, callP, callO, dedup, rootsD, rootsC, List.flatMap_cons, List.flatMap_nil, List.filterMap_cons, List.filterMap_nil, Yg, argD, argC, List.contains_nil, objsAt, objOf, List.idxOf?, List.findIdx?, List.findIdx?.go, setObjs, settle, settle1, settleC, Yl, FsA1, hP, tsz48, tk50, a8, ZA]; rfl) ?_) ?_
          refine ends_norm rfl rfl .nil (by simp) ?_
          simp only [Z12, Z23]
          (simp only [reduceIte, ↓reduceIte, Int.reduceEq, argT, actC, flds_some, a8] at hQ; with_reducible exact hQ)
         ·
          simp only [decide_eq_false_iff_not] at a8
          refine tri_skip ?_
          refine ends_norm rfl rfl .nil (by simp) ?_
          simp only [Z12, Z23]
          (simp only [reduceIte, ↓reduceIte, argT, actC, a0, a1, a2, a3, a4, a5, a6, a7, a8] at hQ; with_reducible exact hQ)
theorem arg_at {l : List Tok} (i : Nat) (e bad : Int) (k : Int) (a : ActM) (h : okPre l i e) : oArgA [.c (.p 0 0 0), .c (.p 1 0 0), .c (.v (.int .i64 k))] [⟨4, [[.s false 3 (l.map tokC), .v (.int .i64 i), .v (.int .i64 e), .v (.int .i64 bad)]]⟩, ⟨12, [actC true a]⟩] =
  some (.t [], [⟨4, [[.s false 3 (l.map tokC), .v (.int .i64 (argT l e k a i bad).2.1), .v (.int .i64 e), .v (.int .i64 (argT l e k a i bad).2.2)]]⟩, ⟨12, [actC true (argT l e k a i bad).1]⟩]) :=
 famO_at (fun x y h => by
  simp only [Prod.mk.injEq, List.cons.injEq, and_true, true_and, D.c.injEq, C.v.injEq, Value.int.injEq, Obj.mk.injEq] at h
  obtain ⟨⟨a, b, c, d⟩, k, z⟩ := x
  obtain ⟨⟨a', b', c', d'⟩, k', z'⟩ := y
  obtain ⟨h0, hp, ha⟩ := h
  obtain ⟨h1, h2, h3, h4⟩ := pa_inj hp
  have h5 := actC_inj ha
  dsimp only at h0 h1 h2 h3 h4 h5
  subst h0 h1 h2 h3 h4 h5; rfl) ((l, i, e, bad), k, a) h rfl
end Go.Dl
