/- Plain facts of the parser's parts; the walk of paper. -/
import Derived.Test.YtbefgbljlmnfoaaC19
namespace Go.Dl
open Go.RowKit
open Go.Proofs
set_option linter.unusedSimpArgs false
set_option linter.unusedVariables false

def okPre (l : List Tok) (i : Nat) (e : Int) : Prop := paPre l i ∧ numPre l ∧ posPre l e
theorem okPre.at {l : List Tok} {i : Nat} {e : Int} (h : okPre l i e) {j : Nat} (hj : j ≤ l.length) : okPre l j e := ⟨⟨h.1.1, hj, h.1.2.2⟩, h.2⟩
def numT (l : List Tok) (i : Nat) (e bad : Int) : Int × Nat × Int := (numberF l i e bad).getD (0, i, bad)
theorem numT_some {l : List Tok} {i : Nat} {e bad : Int} (h : okPre l i e) : numberF l i e bad = some (numT l i e bad) := by
  have hx : ∃ r, numberF l i e bad = some r := by
    by_cases h0 : 0 ≤ (takeF l i e bad 1).2.2
    · unfold numberF; rw [if_pos h0]; exact ⟨_, rfl⟩
    · have h1 : ∃ t, l[i]? = some t ∧ t.1 = 1 := by
        have hf := fail_pos h.2.2 i bad
        unfold takeF at h0
        split at h0
        · exfalso; apply h0; assumption
        · split at h0
          · rename_i t ht
            split at h0
            · rename_i hk; exact ⟨t, ht, hk⟩
            · exact absurd hf h0
          · exact absurd hf h0
      obtain ⟨t, ht, hk⟩ := h1
      exact numberF_some h.1 h.2.1 ht hk
  obtain ⟨r, hr⟩ := hx
  unfold numT; rw [hr]; rfl
theorem numberF_le {l : List Tok} {i : Nat} {e bad : Int} {r : Int × Nat × Int} (h : numberF l i e bad = some r) (hi : i ≤ l.length) : r.2.1 ≤ l.length := by
  have ht := takeF_le (e := e) (bad := bad) (k := 1) hi
  unfold numberF at h
  repeat' split at h
  all_goals first | (cases h; first | exact ht | exact hi) | cases h
theorem numT_le {l : List Tok} {i : Nat} {e bad : Int} (h : okPre l i e) : (numT l i e bad).2.1 ≤ l.length := numberF_le (numT_some h) h.1.2.1
theorem floatF_le {l : List Tok} {i : Nat} {e bad : Int} (hi : i ≤ l.length) : (floatF l i e bad).2.1 ≤ l.length := by
  have hA : (flA l i e bad).1 ≤ l.length := markF_le hi
  have hB : (flB l i e bad).2.1 ≤ l.length := takeF_le hA
  unfold floatF
  split
  · exact hB
  · split
    · exact hA
    · split
      · exact markF_le hA
      · exact markF_le hB
theorem wordF_le {l : List Tok} {i : Nat} {e bad : Int} {w : ByteArray} (hi : i < l.length) : (wordF l i e bad w).2.1 ≤ l.length := by
  unfold wordF
  split
  · exact hi
  split
  · exact hi
  split
  · exact hi
  split
  · exact floatF_le hi
  · exact Nat.le_of_lt hi
theorem valueF_le {l : List Tok} {i : Nat} {e bad : Int} (hi : i ≤ l.length) : (valueF l i e bad).2.1 ≤ l.length := by
  unfold valueF
  split
  · exact hi
  · split
    · exact hi
    · rename_i t ht
      have hlt : i < l.length := (List.getElem?_eq_some_iff.1 ht).1
      split
      · split
        · rename_i r hr; exact numberF_le hr hi
        · exact hi
      split
      · exact hlt
      split
      · exact wordF_le hlt
      · exact hi
theorem num_at {l : List Tok} (i : Nat) (e bad : Int) (h : okPre l i e) : oNumber [.c (.p 0 0 0)] [⟨4, [[.s false 3 (l.map tokC), .v (.int .i64 i), .v (.int .i64 e), .v (.int .i64 bad)]]⟩] =
    some (.c (.v (.int .i64 (numT l i e bad).1)), [⟨4, [[.s false 3 (l.map tokC), .v (.int .i64 (numT l i e bad).2.1), .v (.int .i64 e), .v (.int .i64 (numT l i e bad).2.2)]]⟩]) :=
  number_at i e bad h.1 (numT_some h)
theorem value_at {l : List Tok} (i : Nat) (e bad : Int) (h : okPre l i e) : oValue [.c (.p 0 0 0)] [⟨4, [[.s false 3 (l.map tokC), .v (.int .i64 i), .v (.int .i64 e), .v (.int .i64 bad)]]⟩] =
    some (.agg (valC (valueF l i e bad).1), [⟨4, [[.s false 3 (l.map tokC), .v (.int .i64 (valueF l i e bad).2.1), .v (.int .i64 e), .v (.int .i64 (valueF l i e bad).2.2)]]⟩]) :=
  famO_at (fun x y h => pa_inj4 x y h) (l, i, e, bad) ⟨h.1, h.2.1⟩ rfl

abbrev Fld := ByteArray × Val
def fldC (f : Fld) : List C := [.v (.string f.1), .v (.int .i64 f.2.1), .v (.bool f.2.2.1), .v (.int .i64 f.2.2.2.1), .v (.int .u64 f.2.2.2.2.1), .v (.string f.2.2.2.2.2)]
theorem fld_nb (l : List Fld) : rowsNB (l.map fldC) = true := nb_map (fun _ => rfl)
theorem fld_cp (l : List Fld) : ((l.map fldC).all fun row => row.all C.cp) = true := by
  rw [List.all_eq_true]
  intro row h
  obtain ⟨x, _, rfl⟩ := List.mem_map.1 h
  rfl
def eqm : ByteArray := ⟨#[61]⟩
def paQ (l : List Tok) (e : Int) (i : Nat) (bad : Int) : Nat × Int := markF l (takeF l i e bad 2).2.1 e (takeF l i e bad 2).2.2 eqm
def paV (l : List Tok) (e : Int) (i : Nat) (bad : Int) : Val × Nat × Int := valueF l (paQ l e i bad).1 e (paQ l e i bad).2
def paFld (l : List Tok) (e : Int) (i : Nat) (bad : Int) : Fld := ((takeF l i e bad 2).1, (paV l e i bad).1)
theorem paQ_le {l : List Tok} {e : Int} {i : Nat} {bad : Int} (hi : i ≤ l.length) : (paQ l e i bad).1 ≤ l.length := markF_le (takeF_le hi)
theorem paV_le {l : List Tok} {e : Int} {i : Nat} {bad : Int} (hi : i ≤ l.length) : (paV l e i bad).2.1 ≤ l.length := valueF_le (paQ_le hi)
theorem fail_bad {l : List Tok} {i : Nat} {e bad : Int} (h : 0 ≤ bad) : failF l i e bad = bad := by unfold failF; rw [if_neg (by omega)]
theorem peek_bad {l : List Tok} {i : Nat} {bad : Int} {m : ByteArray} (h : 0 ≤ bad) : peekF l i bad m = false := by unfold peekF; rw [show decide (bad < 0) = false from decide_eq_false (by omega)]; rfl
theorem mark_bad {l : List Tok} {i : Nat} {e bad : Int} {m : ByteArray} (h : 0 ≤ bad) : markF l i e bad m = (i, bad) := by
  unfold markF
  rw [peek_bad h, fail_bad h]; rfl
theorem take_bad2 {l : List Tok} {i : Nat} {e bad k : Int} (h : 0 ≤ bad) : (takeF l i e bad k).2 = (i, bad) := by unfold takeF; rw [if_pos h]
theorem value_bad {l : List Tok} {i : Nat} {e bad : Int} (h : 0 ≤ bad) : valueF l i e bad = (val0, i, bad) := by unfold valueF; rw [if_pos h, fail_bad h]
theorem paV_bad {l : List Tok} {e : Int} {i : Nat} {bad : Int} (h : 0 ≤ bad) : (paV l e i bad).2.2 = bad := by
  unfold paV paQ
  rw [take_bad2 h, mark_bad h, value_bad h]
/-- The fields of a paper. -/
def paperGo (l : List Tok) (e : Int) : Nat → Nat → Nat → Int → List Fld → List Fld × Nat × Int
  | 0, _, i, bad, acc => (acc, i, bad)
  | k + 1, c, i, bad, acc => if bad < 0 then (if peekF l i bad rpar = true then (acc, i, bad)
      else if (0 : Int) < (c : Int) then (if (100 : Int) ≤ (c : Int) then paperGo l e k (c + 1) (paV l e (markF l i e bad comma).1 (failF l (markF l i e bad comma).1 e (markF l i e bad comma).2)).2.1 (paV l e (markF l i e bad comma).1 (failF l (markF l i e bad comma).1 e (markF l i e bad comma).2)).2.2 (acc ++ [paFld l e (markF l i e bad comma).1 (failF l (markF l i e bad comma).1 e (markF l i e bad comma).2)])
        else paperGo l e k (c + 1) (paV l e (markF l i e bad comma).1 (markF l i e bad comma).2).2.1 (paV l e (markF l i e bad comma).1 (markF l i e bad comma).2).2.2 (acc ++ [paFld l e (markF l i e bad comma).1 (markF l i e bad comma).2]))
      else paperGo l e k (c + 1) (paV l e i bad).2.1 (paV l e i bad).2.2 (acc ++ [paFld l e i bad]))
    else (acc, i, bad)
abbrev Paper := ByteArray × Int × List Fld
def paI (l : List Tok) (i : Nat) (e bad : Int) : Int × Nat × Int := numT l (takeF l i e bad 2).2.1 e (takeF l i e bad 2).2.2
def paM (l : List Tok) (i : Nat) (e bad : Int) : Nat × Int := markF l (paI l i e bad).2.1 e (paI l i e bad).2.2 lpar
def paperR (l : List Tok) (i : Nat) (e bad : Int) : List Fld × Nat × Int := paperGo l e 102 0 (paM l i e bad).1 (paM l i e bad).2 []
def paperF (l : List Tok) (i : Nat) (e bad : Int) : Paper × Nat × Int := (((takeF l i e bad 2).1, (paI l i e bad).1, (paperR l i e bad).1), markF l (paperR l i e bad).2.1 e (paperR l i e bad).2.2 rpar)
theorem paper_eq {l : List Tok} {i : Nat} {e bad : Int} {r : List Fld × Nat × Int} (h : paperR l i e bad = r) : paperF l i e bad = (((takeF l i e bad 2).1, (paI l i e bad).1, r.1), markF l r.2.1 e r.2.2 rpar) := by subst h; rfl

noncomputable def FsJ1 : Fs := { pure := fun _ => none, objs := fun k => if k = 62 then some oFail else if k = 68 then some oTakeP else if k = 70 then some oMark else if k = 82 then some oPeek else if k = 63 then some oNumber else if k = 39 then some oValue else none }
theorem okJ1 : FsOK Try.prog FsJ1 := by
  refine ⟨fun k f h => ?_, fun k f h => ?_⟩
  · cases h
  · simp only [FsJ1] at h
    split at h
    · rename_i hk; subst hk; cases h; exact ⟨by kernel_rfl, meets62⟩
    split at h
    · rename_i hk; subst hk; cases h; exact ⟨by kernel_rfl, meets68⟩
    split at h
    · rename_i hk; subst hk; cases h; exact ⟨by kernel_rfl, meets70⟩
    split at h
    · rename_i hk; subst hk; cases h; exact ⟨by kernel_rfl, meets82⟩
    split at h
    · rename_i hk; subst hk; cases h; exact ⟨by kernel_rfl, meets63⟩
    split at h
    · rename_i hk; subst hk; cases h; exact ⟨by kernel_rfl, meets39⟩
    · cases h
def papC (own : Bool) (p : Paper) : List C := [.v (.string p.1), .v (.int .i64 p.2.1), .s own 6 (p.2.2.map fldC)]
noncomputable def oPaper0 := famO (fun x : List Tok × Nat × Int × Int => okPre x.1 x.2.1 x.2.2.1) (fun x => ([.c (.p 0 0 0)], [paObj x.1 x.2.1 x.2.2.1 x.2.2.2]))
  (fun x => (.agg (papC true (paperF x.1 x.2.1 x.2.2.1 x.2.2.2).1), [paObj x.1 (paperF x.1 x.2.1 x.2.2.1 x.2.2.2).2.1 x.2.2.1 (paperF x.1 x.2.1 x.2.2.1 x.2.2.2).2.2]))
theorem meets81 : Meets Try.prog 81 (detS oPaper0) := by
  refine meets_famO (show Try.prog.funcs[81]? = some Try.f81 by kernel_rfl) rfl (n := 50) rfl (rs := [ResultVar.cell 2 48]) rfl ?_
  rintro ⟨l, i0, e, bad0⟩ hpre Q hQ
  dsimp only at hpre hQ
  simp only [paObj] at hQ
  have hl : l.length ≤ 1000000 := hpre.1.1
  have hi0 : i0 ≤ l.length := hpre.1.2.1
  have hT0 := take_at hl i0 e bad0 2 hi0
  have hj1 : (takeF l i0 e bad0 2).2.1 ≤ l.length := takeF_le hi0
  have hN0 : oNumber [.c (.p 0 0 0)] [⟨4, [[.s false 3 (l.map tokC), .v (.int .i64 (takeF l i0 e bad0 2).2.1), .v (.int .i64 e), .v (.int .i64 (takeF l i0 e bad0 2).2.2)]]⟩] =
    some (.c (.v (.int .i64 (paI l i0 e bad0).1)), [⟨4, [[.s false 3 (l.map tokC), .v (.int .i64 (paI l i0 e bad0).2.1), .v (.int .i64 e), .v (.int .i64 (paI l i0 e bad0).2.2)]]⟩]) := num_at _ e _ (hpre.at hj1)
  have hj2 : (paI l i0 e bad0).2.1 ≤ l.length := numT_le (hpre.at hj1)
  have hM0 : oMark [.c (.p 0 0 0), .c (.v (.string ⟨#[40]⟩))] [⟨4, [[.s false 3 (l.map tokC), .v (.int .i64 (paI l i0 e bad0).2.1), .v (.int .i64 e), .v (.int .i64 (paI l i0 e bad0).2.2)]]⟩] =
    some (.t [], [⟨4, [[.s false 3 (l.map tokC), .v (.int .i64 (paM l i0 e bad0).1), .v (.int .i64 e), .v (.int .i64 (paM l i0 e bad0).2)]]⟩]) := mark_at hl _ e _ lpar hj2
  have hj0 : (paM l i0 e bad0).1 ≤ l.length := markF_le hj2
  obtain ⟨res, hres⟩ : ∃ res, paperR l i0 e bad0 = res := ⟨_, rfl⟩
  rw [paper_eq hres] at hQ
  have hQ2 : ∀ a j b, (a, j, b) = res → Q (.agg [.v (.string (takeF l i0 e bad0 2).1), .v (.int .i64 (paI l i0 e bad0).1), .s true 6 (a.map fldC)]) [⟨4, [[.s false 3 (l.map tokC), .v (.int .i64 (markF l j e b rpar).1), .v (.int .i64 e), .v (.int .i64 (markF l j e b rpar).2)]]⟩] := by
    intro a j b h
    subst h
    exact hQ
  clear hQ
  simp only [paperR] at hres
  generalize hk0 : (102 : Nat) = k0 at hres
  generalize hm0 : paM l i0 e bad0 = m0 at hres hM0 hj0
  obtain ⟨i1, bad1⟩ := m0
  dsimp only at hres hM0 hj0
  generalize (takeF l i0 e bad0 2).1 = nm at hT0 hQ2
  generalize (paI l i0 e bad0).1 = cl at hN0 hQ2
  have hpos := hpre.2.2
  refine seq_run okJ1 rfl (by repeat (first | with_reducible exact runf_nil | refine runf_cons (by simp only [xstep, stepf, stepx, St.put, St.with, boxA, C.st, List.set_cons_zero, List.set_cons_succ, List.replicate, List.length_cons, List.length_nil, List.cons_append, List.nil_append, List.map_nil, List.map_cons, List.all_cons, List.all_nil, Option.bind_some, Option.map_some, Nat.reduceAdd, Nat.reduceSub, if_true, Option.some.injEq, Nat.zero_add, Bool.and_self, paObj, tz48]; rfl) ?_)) ?_
  refine seq_run okJ1 rfl (by repeat (first | with_reducible exact runf_nil | refine runf_cons (by simp only [xstep, stepf, stepx, evsA, qev, St.ev, St.put, St.with, D.cells, D.cell, boxA, C.cpy, C.st, C.cp, C.dat, storeA, putCells, constD, constC, List.getElem?_cons_zero, List.getElem?_cons_succ, List.set_cons_zero, List.set_cons_succ, List.length_cons, List.length_nil, List.cons_append, List.nil_append, List.append_nil, List.map_nil, List.all_cons, List.all_nil, List.take_succ_cons, List.take_zero, List.drop_succ_cons, List.drop_zero, Option.bind_some, Option.map_some, Bool.and_true, Bool.true_and, Nat.reduceAdd, Nat.reduceEqDiff, if_true, if_false, and_self, Option.some.injEq, ne_eq, not_false_eq_true, reduceCtorEq, Nat.reduceLeDiff, Nat.le_refl, Nat.reduceBNe, Bool.false_eq_true, implies_true, Nat.zero_add, beq_self_eq_true, Bool.and_self, Bool.true_or, callP, callO, dedup, rootsD, rootsC, List.flatMap_cons, List.flatMap_nil, List.filterMap_cons, List.filterMap_nil, argDs, argD, argC, List.contains_nil, objsAt, objOf, List.idxOf?, List.findIdx?, List.findIdx?.go, setObjs, D.ni, D.ni1, C.ni, settle, settle1, settleC, List.isEmpty_nil, FsJ1, hT0, hN0, buildA, partsA, fillA, placeSt, tk48, tsz48, tz48, tsz9, tsz3, tsz46]; rfl) ?_)) ?_
  refine seq_run okJ1 rfl (by repeat (first | with_reducible exact runf_nil | refine runf_cons (by simp only [xstep, stepf, stepx, evsA, qev, St.ev, St.put, St.with, D.cell, C.cpy, C.cp, C.dat, constD, constC, List.getElem?_cons_zero, List.getElem?_cons_succ, List.set_cons_zero, List.set_cons_succ, List.length_cons, List.length_nil, List.nil_append, List.append_nil, List.map_nil, List.all_cons, List.all_nil, Option.bind_some, Option.map_some, Bool.and_true, Bool.true_and, Nat.reduceEqDiff, if_true, if_false, and_self, Option.some.injEq, Bool.false_eq_true, Nat.zero_add, beq_self_eq_true, Bool.and_self, Bool.true_or, callP, callO, dedup, rootsD, rootsC, List.flatMap_cons, List.flatMap_nil, List.filterMap_cons, List.filterMap_nil, argDs, argD, argC, List.contains_nil, objsAt, objOf, List.idxOf?, List.findIdx?, List.findIdx?.go, setObjs, D.ni, settle, settleDs, List.isEmpty_nil, FsJ1, hM0]; rfl) ?_)) ?_
  refine seq_in ?_
  refine seq_run okJ1 rfl (by repeat (first | with_reducible exact runf_nil | refine runf_cons (by simp only [xstep, stepf, stepx, qev, St.ev, St.put, constD, constC, List.set_cons_zero, List.set_cons_succ, Option.map_some, Option.some.injEq]; rfl) ?_)) ?_
  refine tri_block ?_
  refine tri_open 2 0 2 6 rfl ?_
  show Tri _ _ _ _
  refine tri_loop_le (fun m A => ∃ (k c i : Nat) (bad : Int) (acc : List Fld) (T : List (Option Root)), m = k ∧ c + k = 102 ∧ (c = 101 → 0 ≤ bad) ∧ c ≤ 101 ∧ i ≤ l.length ∧ acc.length = c ∧ paperGo l e k c i bad acc = res ∧ A = ⟨[.c (.p 0 0 0), .top, .c (.p 1 0 0), .c (.p 2 0 0), .c (.v (.int .i64 (c : Nat))), .top, .top, .top, .top, .top, .top, .top, .top, .top, .top, .top, .top, .top, .top, .top, .top, .top, .top, .top, .top, .top, .top, .top, .top, .top, .top, .top, .top, .top, .top, .top, .top, .top, .top, .top, .top, .top, .top, .top, .top, .top, .top, .top, .top, .top], some ⟨false, 4, [[.s false 3 (l.map tokC), .v (.int .i64 i), .v (.int .i64 e), .v (.int .i64 bad)]]⟩ :: some ⟨false, 3, [[.v (.string ⟨#[]⟩), .v (.int .i64 0), .s true 0 []]]⟩ :: some ⟨false, 3, [[.v (.string nm), .v (.int .i64 cl), .h 3 0 acc.length]]⟩ :: some ⟨true, 6, acc.map fldC⟩ :: T⟩) k0 (B := ⟨[.c (.p 0 0 0), .top, .c (.p 1 0 0), .c (.p 2 0 0), .c (.v (.int .i64 (0 : Nat))), .top, .top, .top, .top, .top, .top, .top, .top, .top, .top, .top, .top, .top, .top, .top, .top, .top, .top, .top, .top, .top, .top, .top, .top, .top, .top, .top, .top, .top, .top, .top, .top, .top, .top, .top, .top, .top, .top, .top, .top, .top, .top, .top, .top, .top], [some ⟨false, 4, [[.s false 3 (l.map tokC), .v (.int .i64 i1), .v (.int .i64 e), .v (.int .i64 bad1)]]⟩, some ⟨false, 3, [[.v (.string ⟨#[]⟩), .v (.int .i64 0), .s true 0 []]]⟩, some ⟨false, 3, [[.v (.string nm), .v (.int .i64 cl), .h 3 0 0]]⟩, some ⟨true, 6, []⟩]⟩) ⟨by repeat (first | exact .nil | refine .same ?_ | refine .top ?_), rfl⟩ ⟨k0, 0, i1, bad1, [], [], rfl, by omega, by omega, by omega, hj0, rfl, hres, rfl⟩ ?_
  rintro m A ⟨k, c, i, bad, acc, T, rfl, hck, hcb, hc, hi, hacc, hk, rfl⟩
  obtain ⟨k, rfl⟩ : ∃ k, m = k + 1 := ⟨m - 1, by omega⟩
  have hq1 : (c : Int) + 1 = ((c + 1 : Nat) : Int) := by omega
  have hP : oPeek [.c (.p 0 0 0), .c (.v (.string ⟨#[41]⟩))] _ = _ := peek_at hl i e bad rpar hi
  have hR : oMark [.c (.p 0 0 0), .c (.v (.string ⟨#[41]⟩))] _ = _ := mark_at hl i e bad rpar hi
  have hC : oMark [.c (.p 0 0 0), .c (.v (.string ⟨#[44]⟩))] _ = _ := mark_at hl i e bad comma hi
  have hm : (markF l i e bad comma).1 ≤ l.length := markF_le hi
  have hF := fail_at hl (markF l i e bad comma).1 e (markF l i e bad comma).2 hm
  have hT1 := take_at hl i e bad 2 hi
  have hE1 : oMark [.c (.p 0 0 0), .c (.v (.string ⟨#[61]⟩))] [⟨4, [[.s false 3 (l.map tokC), .v (.int .i64 (takeF l i e bad 2).2.1), .v (.int .i64 e), .v (.int .i64 (takeF l i e bad 2).2.2)]]⟩] = some (.t [], [⟨4, [[.s false 3 (l.map tokC), .v (.int .i64 (paQ l e i bad).1), .v (.int .i64 e), .v (.int .i64 (paQ l e i bad).2)]]⟩]) := mark_at hl _ e _ eqm (takeF_le hi)
  have hV1 : oValue [.c (.p 0 0 0)] [⟨4, [[.s false 3 (l.map tokC), .v (.int .i64 (paQ l e i bad).1), .v (.int .i64 e), .v (.int .i64 (paQ l e i bad).2)]]⟩] = some (.agg (valC (paV l e i bad).1), [⟨4, [[.s false 3 (l.map tokC), .v (.int .i64 (paV l e i bad).2.1), .v (.int .i64 e), .v (.int .i64 (paV l e i bad).2.2)]]⟩]) := value_at _ e _ (hpre.at (paQ_le hi))
  have hT2 := take_at hl (markF l i e bad comma).1 e (markF l i e bad comma).2 2 hm
  have hE2 : oMark [.c (.p 0 0 0), .c (.v (.string ⟨#[61]⟩))] [⟨4, [[.s false 3 (l.map tokC), .v (.int .i64 (takeF l (markF l i e bad comma).1 e (markF l i e bad comma).2 2).2.1), .v (.int .i64 e), .v (.int .i64 (takeF l (markF l i e bad comma).1 e (markF l i e bad comma).2 2).2.2)]]⟩] = some (.t [], [⟨4, [[.s false 3 (l.map tokC), .v (.int .i64 (paQ l e (markF l i e bad comma).1 (markF l i e bad comma).2).1), .v (.int .i64 e), .v (.int .i64 (paQ l e (markF l i e bad comma).1 (markF l i e bad comma).2).2)]]⟩]) := mark_at hl _ e _ eqm (takeF_le hm)
  have hV2 : oValue [.c (.p 0 0 0)] [⟨4, [[.s false 3 (l.map tokC), .v (.int .i64 (paQ l e (markF l i e bad comma).1 (markF l i e bad comma).2).1), .v (.int .i64 e), .v (.int .i64 (paQ l e (markF l i e bad comma).1 (markF l i e bad comma).2).2)]]⟩] = some (.agg (valC (paV l e (markF l i e bad comma).1 (markF l i e bad comma).2).1), [⟨4, [[.s false 3 (l.map tokC), .v (.int .i64 (paV l e (markF l i e bad comma).1 (markF l i e bad comma).2).2.1), .v (.int .i64 e), .v (.int .i64 (paV l e (markF l i e bad comma).1 (markF l i e bad comma).2).2.2)]]⟩]) := value_at _ e _ (hpre.at (paQ_le hm))
  have hT3 := take_at hl (markF l i e bad comma).1 e (failF l (markF l i e bad comma).1 e (markF l i e bad comma).2) 2 hm
  have hE3 : oMark [.c (.p 0 0 0), .c (.v (.string ⟨#[61]⟩))] [⟨4, [[.s false 3 (l.map tokC), .v (.int .i64 (takeF l (markF l i e bad comma).1 e (failF l (markF l i e bad comma).1 e (markF l i e bad comma).2) 2).2.1), .v (.int .i64 e), .v (.int .i64 (takeF l (markF l i e bad comma).1 e (failF l (markF l i e bad comma).1 e (markF l i e bad comma).2) 2).2.2)]]⟩] = some (.t [], [⟨4, [[.s false 3 (l.map tokC), .v (.int .i64 (paQ l e (markF l i e bad comma).1 (failF l (markF l i e bad comma).1 e (markF l i e bad comma).2)).1), .v (.int .i64 e), .v (.int .i64 (paQ l e (markF l i e bad comma).1 (failF l (markF l i e bad comma).1 e (markF l i e bad comma).2)).2)]]⟩]) := mark_at hl _ e _ eqm (takeF_le hm)
  have hV3 : oValue [.c (.p 0 0 0)] [⟨4, [[.s false 3 (l.map tokC), .v (.int .i64 (paQ l e (markF l i e bad comma).1 (failF l (markF l i e bad comma).1 e (markF l i e bad comma).2)).1), .v (.int .i64 e), .v (.int .i64 (paQ l e (markF l i e bad comma).1 (failF l (markF l i e bad comma).1 e (markF l i e bad comma).2)).2)]]⟩] = some (.agg (valC (paV l e (markF l i e bad comma).1 (failF l (markF l i e bad comma).1 e (markF l i e bad comma).2)).1), [⟨4, [[.s false 3 (l.map tokC), .v (.int .i64 (paV l e (markF l i e bad comma).1 (failF l (markF l i e bad comma).1 e (markF l i e bad comma).2)).2.1), .v (.int .i64 e), .v (.int .i64 (paV l e (markF l i e bad comma).1 (failF l (markF l i e bad comma).1 e (markF l i e bad comma).2)).2.2)]]⟩]) := value_at _ e _ (hpre.at (paQ_le hm))
  have ht0 : (acc.map fldC).take acc.length = acc.map fldC := List.take_of_length_le (by simp)
  have hne : ∀ k : Nat, (k + 1 + 1 + 1 + 1 != 3) = true := (by intro k; simp)
  have hz : (acc.length + 1) * 64 ≤ 140737488355328 := by omega
  refine seq_in ?_
  by_cases a0 : (bad < 0)
  ·
    refine seq_run okJ1 rfl (by repeat (first | with_reducible exact runf_nil | refine runf_cons (by simp only [xstep, stepf, stepx, evsA, qev, St.ev, St.put, St.with, D.cell, qload, cellsAt, qmk, C.cpy, TK.agg, qnil, qfieldAddr, qpick, qint, qshift, isShift, qbin, qun, liveR, C.cp, C.dat, constD, constC, List.getElem?_cons_zero, List.getElem?_cons_succ, List.set_cons_zero, List.set_cons_succ, List.length_cons, List.length_nil, List.nil_append, List.append_nil, List.map_nil, List.map_cons, List.all_cons, List.all_nil, List.take_succ_cons, List.take_zero, List.drop_succ_cons, List.drop_zero, Option.bind_some, Option.map_some, Option.map_none, Bool.and_true, Bool.true_and, Nat.reduceEqDiff, if_true, if_false, and_self, decide_true, cond_true, List.getElem?_toArray, Option.some.injEq, reduceCtorEq, Bool.false_eq_true, Nat.zero_add, beq_self_eq_true, Bool.and_self, Bool.true_or, callP, callO, dedup, rootsD, rootsC, List.flatMap_cons, List.flatMap_nil, List.filterMap_cons, List.filterMap_nil, argDs, argD, argC, List.contains_nil, objsAt, objOf, List.idxOf?, List.findIdx?, List.findIdx?.go, setObjs, D.ni, D.ni1, C.ni, settle, settle1, settleC, List.isEmpty_nil, FsJ1, hP, tsz3, tk80, tk3, eq_true a0]; rfl) ?_)) ?_
    refine tri_cond rfl (fun a1 => ?_) (fun a1 => ?_)
    ·
      simp only [Bool.not_eq_true'] at a1
      refine then_skip ?_
      refine seq_in (tri_block ?_)
      refine seq_in ?_
      refine seq_run okJ1 rfl (by repeat (first | with_reducible exact runf_nil | refine runf_cons (by simp only [xstep, stepf, stepx, qev, St.ev, St.put, qint, qshift, isShift, qbin, constD, constC, List.getElem?_cons_zero, List.getElem?_cons_succ, List.set_cons_zero, List.set_cons_succ, Option.map_some, Option.map_none, if_true, if_false, Bool.not_false, Option.some.injEq, Bool.false_eq_true, a1]; rfl) ?_)) ?_
      refine tri_cond rfl (fun a2 => ?_) (fun a2 => ?_)
      ·
        simp only [decide_eq_true_eq] at a2
        refine run_end okJ1 rfl (by repeat (first | with_reducible exact runf_nil | refine runf_cons (by simp only [xstep, stepf, stepx, evsA, qev, St.ev, St.put, St.with, D.cell, C.cpy, C.cp, C.dat, constD, constC, List.getElem?_cons_zero, List.getElem?_cons_succ, List.set_cons_zero, List.set_cons_succ, List.length_cons, List.length_nil, List.nil_append, List.append_nil, List.map_nil, List.all_cons, List.all_nil, Option.bind_some, Option.map_some, Bool.and_true, Bool.true_and, Nat.reduceEqDiff, if_true, if_false, and_self, decide_true, Option.some.injEq, Bool.false_eq_true, Nat.zero_add, beq_self_eq_true, Bool.and_self, Bool.true_or, callP, callO, dedup, rootsD, rootsC, List.flatMap_cons, List.flatMap_nil, List.filterMap_cons, List.filterMap_nil, argDs, argD, argC, List.contains_nil, objsAt, objOf, List.idxOf?, List.findIdx?, List.findIdx?.go, setObjs, D.ni, settle, settleDs, List.isEmpty_nil, FsJ1, hC, a2]; rfl) ?_)) ?_
        show Tri _ _ _ _
        refine seq_in ?_
        refine seq_run okJ1 rfl (by repeat (first | with_reducible exact runf_nil | refine runf_cons (by simp only [xstep, stepf, stepx, qev, St.ev, St.put, qint, qshift, isShift, qbin, constD, constC, List.getElem?_cons_zero, List.getElem?_cons_succ, List.set_cons_zero, List.set_cons_succ, Option.map_some, Option.map_none, if_true, if_false, Option.some.injEq, Bool.false_eq_true]; rfl) ?_)) ?_
        refine tri_cond rfl (fun a3 => ?_) (fun a3 => ?_)
        ·
          simp only [decide_eq_true_eq] at a3
          refine run_end okJ1 rfl (by repeat (first | with_reducible exact runf_nil | refine runf_cons (by simp only [xstep, stepf, stepx, evsA, qev, St.ev, St.put, St.with, D.cell, C.dat, List.getElem?_cons_zero, List.getElem?_cons_succ, List.set_cons_zero, List.set_cons_succ, List.length_cons, List.length_nil, List.nil_append, List.append_nil, List.map_nil, List.all_cons, List.all_nil, Option.bind_some, Option.map_some, Bool.and_true, Bool.true_and, Nat.reduceEqDiff, if_true, if_false, and_self, decide_true, Option.some.injEq, Bool.false_eq_true, Nat.zero_add, beq_self_eq_true, Bool.and_self, Bool.true_or, callP, callO, dedup, rootsD, rootsC, List.flatMap_cons, List.flatMap_nil, List.filterMap_cons, List.filterMap_nil, argDs, argD, argC, List.contains_nil, objsAt, objOf, List.idxOf?, List.findIdx?, List.findIdx?.go, setObjs, D.ni, settle, settleDs, List.isEmpty_nil, FsJ1, hF, a3]; rfl) ?_)) ?_
          show Tri _ _ _ _
          refine seq_run okJ1 rfl (by repeat (first | with_reducible exact runf_nil | refine runf_cons (by simp only [xstep, stepf, stepx, evsA, qev, St.ev, St.put, St.with, D.cells, D.cell, boxA, C.cpy, C.st, C.cp, C.dat, storeA, putCells, constD, constC, List.getElem?_cons_zero, List.getElem?_cons_succ, List.set_cons_zero, List.set_cons_succ, List.length_cons, List.length_nil, List.cons_append, List.nil_append, List.append_nil, List.map_nil, List.all_cons, List.all_nil, List.take_zero, List.drop_succ_cons, List.drop_zero, Option.bind_some, Option.map_some, Bool.and_true, Bool.true_and, Nat.reduceAdd, Nat.reduceEqDiff, if_true, if_false, and_self, Option.some.injEq, ne_eq, not_false_eq_true, reduceCtorEq, Nat.reduceLeDiff, Nat.le_refl, Nat.reduceBNe, Bool.false_eq_true, implies_true, Nat.zero_add, beq_self_eq_true, Bool.and_self, Bool.true_or, callP, callO, dedup, rootsD, rootsC, List.flatMap_cons, List.flatMap_nil, List.filterMap_cons, List.filterMap_nil, argDs, argD, argC, List.contains_nil, objsAt, objOf, List.idxOf?, List.findIdx?, List.findIdx?.go, setObjs, D.ni, D.ni1, C.ni, settle, settle1, settleC, List.isEmpty_nil, FsJ1, buildA, partsA, fillA, placeSt, tk91, tsz91, tsz39, hT3, last_get, last_set, partsA, fillA, placeSt, tsz9, tz91]; rfl) ?_)) ?_
          refine seq_run okJ1 rfl (by repeat (first | with_reducible exact runf_nil | refine runf_cons (by simp only [xstep, stepf, stepx, evsA, qev, St.ev, St.put, St.with, D.cell, C.cpy, C.cp, C.dat, constD, constC, List.getElem?_cons_zero, List.getElem?_cons_succ, List.set_cons_zero, List.set_cons_succ, List.length_cons, List.length_nil, List.nil_append, List.append_nil, List.map_nil, List.all_cons, List.all_nil, Option.bind_some, Option.map_some, Bool.and_true, Bool.true_and, Nat.reduceEqDiff, if_true, if_false, and_self, Option.some.injEq, Bool.false_eq_true, Nat.zero_add, beq_self_eq_true, Bool.and_self, Bool.true_or, callP, callO, dedup, rootsD, rootsC, List.flatMap_cons, List.flatMap_nil, List.filterMap_cons, List.filterMap_nil, argDs, argD, argC, List.contains_nil, objsAt, objOf, List.idxOf?, List.findIdx?, List.findIdx?.go, setObjs, D.ni, settle, settleDs, List.isEmpty_nil, FsJ1, hE3]; rfl) ?_)) ?_
          refine seq_run okJ1 rfl (by repeat (first | with_reducible exact runf_nil | refine runf_cons (by simp only [xstep, stepf, stepx, evsA, qev, St.ev, St.put, St.with, D.cells, D.cell, qfieldAddr, liveR, C.st, C.dat, storeA, putCells, List.getElem?_cons_zero, List.getElem?_cons_succ, List.set_cons_zero, List.set_cons_succ, List.length_cons, List.length_nil, List.cons_append, List.nil_append, List.append_nil, List.map_nil, List.all_cons, List.all_nil, List.take_succ_cons, List.take_zero, List.drop_succ_cons, List.drop_zero, Option.bind_some, Option.map_some, Bool.and_true, Bool.true_and, Nat.reduceAdd, Nat.reduceEqDiff, if_true, if_false, and_self, Option.some.injEq, ne_eq, not_false_eq_true, reduceCtorEq, Nat.le_refl, Bool.false_eq_true, implies_true, Nat.zero_add, beq_self_eq_true, Bool.and_self, Bool.true_or, callP, callO, dedup, rootsD, rootsC, List.flatMap_cons, List.flatMap_nil, List.filterMap_cons, List.filterMap_nil, argDs, argD, argC, List.contains_nil, objsAt, objOf, List.idxOf?, List.findIdx?, List.findIdx?.go, setObjs, D.ni, D.ni1, C.ni, C.niRow, settle, settle1, settleC, settleCs, List.isEmpty_nil, FsJ1, tk91, tsz39, hV3, last_get, last_set, valC]; rfl) ?_)) ?_
          refine run_end okJ1 rfl (by repeat (first | with_reducible exact runf_nil | refine runf_cons (by simp only [xstep, stepf, stepx, qev, St.ev, St.put, St.with, D.cells, qload, cellsAt, qmk, C.cpy, TK.agg, qfieldAddr, liveR, C.st, C.cp, C.dat, storeA, putCells, List.getElem?_cons_zero, List.getElem?_cons_succ, List.set_cons_zero, List.set_cons_succ, List.length_cons, List.length_nil, List.cons_append, List.nil_append, List.append_nil, List.map_nil, List.map_cons, List.all_cons, List.all_nil, List.take_succ_cons, List.take_zero, List.drop_succ_cons, List.drop_zero, Option.bind_some, Option.map_some, Bool.and_true, Nat.reduceAdd, Nat.reduceMul, if_true, if_false, and_self, forall_const, Option.some.injEq, ne_eq, not_false_eq_true, reduceCtorEq, Nat.reduceLeDiff, Nat.le_refl, Nat.reduceBNe, Bool.false_eq_true, Nat.zero_add, bne_self_eq_false, Bool.and_self, nb_map, C.nb, partsA, fillA, tk48, tk91, tsz91, false_implies, ht0, hne, hz, last_get, buildSliceA, partsA, fillA, reps, chop, tkApp, appendA, srcRows, srcOther, D.kill, D.no, C.no, C.kill, killH, Root.kill, C.nos, D.nos, fldC, false_implies, tsz46, tz91, tk46, bo91]; rfl) ?_)) ?_
          show Tri _ _ _ _
          refine run_end okJ1 rfl (by repeat (first | with_reducible exact runf_nil | refine runf_cons (by simp only [xstep, stepf, stepx, qev, St.ev, St.put, qint, qshift, isShift, qbin, constD, constC, List.getElem?_cons_zero, List.getElem?_cons_succ, List.set_cons_zero, List.set_cons_succ, Option.map_some, Option.map_none, if_true, if_false, Option.some.injEq, Bool.false_eq_true, hq1, show IntKind.i64.wrap (↑(c + 1) : Int) = _ from wrap_i64 _ (by omega) (by omega)]; rfl) ?_)) ?_
          simp only []
          (simp only [paperGo, reduceIte, Bool.false_eq_true, ↓reduceIte, eq_true a0, a1, a2, a3] at hk; exact ⟨k, by omega, ⟨[.c (.p 0 0 0), .top, .c (.p 1 0 0), .c (.p 2 0 0), .c (.v (.int .i64 (c + 1 : Nat))), .top, .top, .top, .top, .top, .top, .top, .top, .top, .top, .top, .top, .top, .top, .top, .top, .top, .top, .top, .top, .top, .top, .top, .top, .top, .top, .top, .top, .top, .top, .top, .top, .top, .top, .top, .top, .top, .top, .top, .top, .top, .top, .top, .top, .top], some ⟨false, 4, [[.s false 3 (l.map tokC), .v (.int .i64 (paV l e (markF l i e bad comma).1 (failF l (markF l i e bad comma).1 e (markF l i e bad comma).2)).2.1), .v (.int .i64 e), .v (.int .i64 (paV l e (markF l i e bad comma).1 (failF l (markF l i e bad comma).1 e (markF l i e bad comma).2)).2.2)]]⟩ :: some ⟨false, 3, [[.v (.string ⟨#[]⟩), .v (.int .i64 0), .s true 0 []]]⟩ :: some ⟨false, 3, [[.v (.string nm), .v (.int .i64 cl), .h 3 0 (acc ++ [paFld l e (markF l i e bad comma).1 (failF l (markF l i e bad comma).1 e (markF l i e bad comma).2)]).length]]⟩ :: some ⟨true, 6, (acc ++ [paFld l e (markF l i e bad comma).1 (failF l (markF l i e bad comma).1 e (markF l i e bad comma).2)]).map fldC⟩ :: List.map (fun o => Option.map (Root.kill 3) o) (T ++ [some ⟨false, 6, [fldC (paFld l e (markF l i e bad comma).1 (failF l (markF l i e bad comma).1 e (markF l i e bad comma).2))]⟩] ++ [some ⟨true, 6, [fldC (paFld l e (markF l i e bad comma).1 (failF l (markF l i e bad comma).1 e (markF l i e bad comma).2))]⟩])⟩, ⟨(by rw [show (acc ++ [paFld l e (markF l i e bad comma).1 (failF l (markF l i e bad comma).1 e (markF l i e bad comma).2)]).length = acc.length + 1 from by simp]; repeat (first | exact .nil | refine .same ?_ | refine .top ?_)), (by rw [show (acc ++ [paFld l e (markF l i e bad comma).1 (failF l (markF l i e bad comma).1 e (markF l i e bad comma).2)]).map fldC = acc.map fldC ++ [fldC (paFld l e (markF l i e bad comma).1 (failF l (markF l i e bad comma).1 e (markF l i e bad comma).2))] from List.map_append, show (acc ++ [paFld l e (markF l i e bad comma).1 (failF l (markF l i e bad comma).1 e (markF l i e bad comma).2)]).length = acc.length + 1 from by simp]; rfl)⟩, k, c + 1, (paV l e (markF l i e bad comma).1 (failF l (markF l i e bad comma).1 e (markF l i e bad comma).2)).2.1, (paV l e (markF l i e bad comma).1 (failF l (markF l i e bad comma).1 e (markF l i e bad comma).2)).2.2, (acc ++ [paFld l e (markF l i e bad comma).1 (failF l (markF l i e bad comma).1 e (markF l i e bad comma).2)]), _, rfl, by omega, (fun _ => by rw [paV_bad (fail_pos hpos _ _)]; exact fail_pos hpos _ _), by omega, paV_le hm, (by simp [hacc]), hk, rfl⟩)
        ·
          simp only [decide_eq_false_iff_not] at a3
          refine then_skip ?_
          refine seq_run okJ1 rfl (by repeat (first | with_reducible exact runf_nil | refine runf_cons (by simp only [xstep, stepf, stepx, evsA, qev, St.ev, St.put, St.with, D.cells, D.cell, boxA, C.cpy, C.st, C.cp, C.dat, storeA, putCells, constD, constC, List.getElem?_cons_zero, List.getElem?_cons_succ, List.set_cons_zero, List.set_cons_succ, List.length_cons, List.length_nil, List.cons_append, List.nil_append, List.append_nil, List.map_nil, List.all_cons, List.all_nil, List.take_zero, List.drop_succ_cons, List.drop_zero, Option.bind_some, Option.map_some, Bool.and_true, Bool.true_and, Nat.reduceAdd, Nat.reduceEqDiff, if_true, if_false, and_self, decide_false, Option.some.injEq, ne_eq, not_false_eq_true, reduceCtorEq, Nat.reduceLeDiff, Nat.le_refl, Nat.reduceBNe, Bool.false_eq_true, implies_true, Nat.zero_add, beq_self_eq_true, Bool.and_self, Bool.true_or, callP, callO, dedup, rootsD, rootsC, List.flatMap_cons, List.flatMap_nil, List.filterMap_cons, List.filterMap_nil, argDs, argD, argC, List.contains_nil, objsAt, objOf, List.idxOf?, List.findIdx?, List.findIdx?.go, setObjs, D.ni, D.ni1, C.ni, settle, settle1, settleC, List.isEmpty_nil, FsJ1, buildA, partsA, fillA, placeSt, tk91, tsz91, tsz39, hT2, last_get, last_set, partsA, fillA, placeSt, tsz9, a3, tz91]; rfl) ?_)) ?_
          refine seq_run okJ1 rfl (by repeat (first | with_reducible exact runf_nil | refine runf_cons (by simp only [xstep, stepf, stepx, evsA, qev, St.ev, St.put, St.with, D.cell, C.cpy, C.cp, C.dat, constD, constC, List.getElem?_cons_zero, List.getElem?_cons_succ, List.set_cons_zero, List.set_cons_succ, List.length_cons, List.length_nil, List.nil_append, List.append_nil, List.map_nil, List.all_cons, List.all_nil, Option.bind_some, Option.map_some, Bool.and_true, Bool.true_and, Nat.reduceEqDiff, if_true, if_false, and_self, Option.some.injEq, Bool.false_eq_true, Nat.zero_add, beq_self_eq_true, Bool.and_self, Bool.true_or, callP, callO, dedup, rootsD, rootsC, List.flatMap_cons, List.flatMap_nil, List.filterMap_cons, List.filterMap_nil, argDs, argD, argC, List.contains_nil, objsAt, objOf, List.idxOf?, List.findIdx?, List.findIdx?.go, setObjs, D.ni, settle, settleDs, List.isEmpty_nil, FsJ1, hE2]; rfl) ?_)) ?_
          refine seq_run okJ1 rfl (by repeat (first | with_reducible exact runf_nil | refine runf_cons (by simp only [xstep, stepf, stepx, evsA, qev, St.ev, St.put, St.with, D.cells, D.cell, qfieldAddr, liveR, C.st, C.dat, storeA, putCells, List.getElem?_cons_zero, List.getElem?_cons_succ, List.set_cons_zero, List.set_cons_succ, List.length_cons, List.length_nil, List.cons_append, List.nil_append, List.append_nil, List.map_nil, List.all_cons, List.all_nil, List.take_succ_cons, List.take_zero, List.drop_succ_cons, List.drop_zero, Option.bind_some, Option.map_some, Bool.and_true, Bool.true_and, Nat.reduceAdd, Nat.reduceEqDiff, if_true, if_false, and_self, Option.some.injEq, ne_eq, not_false_eq_true, reduceCtorEq, Nat.le_refl, Bool.false_eq_true, implies_true, Nat.zero_add, beq_self_eq_true, Bool.and_self, Bool.true_or, callP, callO, dedup, rootsD, rootsC, List.flatMap_cons, List.flatMap_nil, List.filterMap_cons, List.filterMap_nil, argDs, argD, argC, List.contains_nil, objsAt, objOf, List.idxOf?, List.findIdx?, List.findIdx?.go, setObjs, D.ni, D.ni1, C.ni, C.niRow, settle, settle1, settleC, settleCs, List.isEmpty_nil, FsJ1, tk91, tsz39, hV2, last_get, last_set, valC]; rfl) ?_)) ?_
          refine run_end okJ1 rfl (by repeat (first | with_reducible exact runf_nil | refine runf_cons (by simp only [xstep, stepf, stepx, qev, St.ev, St.put, St.with, D.cells, qload, cellsAt, qmk, C.cpy, TK.agg, qfieldAddr, liveR, C.st, C.cp, C.dat, storeA, putCells, List.getElem?_cons_zero, List.getElem?_cons_succ, List.set_cons_zero, List.set_cons_succ, List.length_cons, List.length_nil, List.cons_append, List.nil_append, List.append_nil, List.map_nil, List.map_cons, List.all_cons, List.all_nil, List.take_succ_cons, List.take_zero, List.drop_succ_cons, List.drop_zero, Option.bind_some, Option.map_some, Bool.and_true, Nat.reduceAdd, Nat.reduceMul, if_true, if_false, and_self, forall_const, Option.some.injEq, ne_eq, not_false_eq_true, reduceCtorEq, Nat.reduceLeDiff, Nat.le_refl, Nat.reduceBNe, Bool.false_eq_true, Nat.zero_add, bne_self_eq_false, Bool.and_self, nb_map, C.nb, partsA, fillA, tk48, tk91, tsz91, false_implies, ht0, hne, hz, last_get, buildSliceA, partsA, fillA, reps, chop, tkApp, appendA, srcRows, srcOther, D.kill, D.no, C.no, C.kill, killH, Root.kill, C.nos, D.nos, fldC, false_implies, tsz46, tz91, tk46, bo91]; rfl) ?_)) ?_
          show Tri _ _ _ _
          refine run_end okJ1 rfl (by repeat (first | with_reducible exact runf_nil | refine runf_cons (by simp only [xstep, stepf, stepx, qev, St.ev, St.put, qint, qshift, isShift, qbin, constD, constC, List.getElem?_cons_zero, List.getElem?_cons_succ, List.set_cons_zero, List.set_cons_succ, Option.map_some, Option.map_none, if_true, if_false, Option.some.injEq, Bool.false_eq_true, hq1, show IntKind.i64.wrap (↑(c + 1) : Int) = _ from wrap_i64 _ (by omega) (by omega)]; rfl) ?_)) ?_
          simp only []
          (simp only [paperGo, reduceIte, Bool.false_eq_true, ↓reduceIte, eq_true a0, a1, a2, a3] at hk; exact ⟨k, by omega, ⟨[.c (.p 0 0 0), .top, .c (.p 1 0 0), .c (.p 2 0 0), .c (.v (.int .i64 (c + 1 : Nat))), .top, .top, .top, .top, .top, .top, .top, .top, .top, .top, .top, .top, .top, .top, .top, .top, .top, .top, .top, .top, .top, .top, .top, .top, .top, .top, .top, .top, .top, .top, .top, .top, .top, .top, .top, .top, .top, .top, .top, .top, .top, .top, .top, .top, .top], some ⟨false, 4, [[.s false 3 (l.map tokC), .v (.int .i64 (paV l e (markF l i e bad comma).1 (markF l i e bad comma).2).2.1), .v (.int .i64 e), .v (.int .i64 (paV l e (markF l i e bad comma).1 (markF l i e bad comma).2).2.2)]]⟩ :: some ⟨false, 3, [[.v (.string ⟨#[]⟩), .v (.int .i64 0), .s true 0 []]]⟩ :: some ⟨false, 3, [[.v (.string nm), .v (.int .i64 cl), .h 3 0 (acc ++ [paFld l e (markF l i e bad comma).1 (markF l i e bad comma).2]).length]]⟩ :: some ⟨true, 6, (acc ++ [paFld l e (markF l i e bad comma).1 (markF l i e bad comma).2]).map fldC⟩ :: List.map (fun o => Option.map (Root.kill 3) o) (T ++ [some ⟨false, 6, [fldC (paFld l e (markF l i e bad comma).1 (markF l i e bad comma).2)]⟩] ++ [some ⟨true, 6, [fldC (paFld l e (markF l i e bad comma).1 (markF l i e bad comma).2)]⟩])⟩, ⟨(by rw [show (acc ++ [paFld l e (markF l i e bad comma).1 (markF l i e bad comma).2]).length = acc.length + 1 from by simp]; repeat (first | exact .nil | refine .same ?_ | refine .top ?_)), (by rw [show (acc ++ [paFld l e (markF l i e bad comma).1 (markF l i e bad comma).2]).map fldC = acc.map fldC ++ [fldC (paFld l e (markF l i e bad comma).1 (markF l i e bad comma).2)] from List.map_append, show (acc ++ [paFld l e (markF l i e bad comma).1 (markF l i e bad comma).2]).length = acc.length + 1 from by simp]; rfl)⟩, k, c + 1, (paV l e (markF l i e bad comma).1 (markF l i e bad comma).2).2.1, (paV l e (markF l i e bad comma).1 (markF l i e bad comma).2).2.2, (acc ++ [paFld l e (markF l i e bad comma).1 (markF l i e bad comma).2]), _, rfl, by omega, (by omega), by omega, paV_le hm, (by simp [hacc]), hk, rfl⟩)
      ·
        simp only [decide_eq_false_iff_not] at a2
        refine then_skip ?_
        refine seq_in ?_
        refine seq_run okJ1 rfl (by repeat (first | with_reducible exact runf_nil | refine runf_cons (by simp only [xstep, stepf, stepx, qev, St.ev, St.put, qint, qshift, isShift, qbin, constD, constC, List.getElem?_cons_zero, List.getElem?_cons_succ, List.set_cons_zero, List.set_cons_succ, Option.map_some, Option.map_none, if_true, if_false, decide_false, Option.some.injEq, Bool.false_eq_true, a2]; rfl) ?_)) ?_
        refine tri_cond rfl (fun a4 => ?_) (fun a4 => ?_)
        ·
          simp only [decide_eq_true_eq] at a4
          (exfalso; omega)
        ·
          simp only [decide_eq_false_iff_not] at a4
          refine then_skip ?_
          refine seq_run okJ1 rfl (by repeat (first | with_reducible exact runf_nil | refine runf_cons (by simp only [xstep, stepf, stepx, evsA, qev, St.ev, St.put, St.with, D.cells, D.cell, boxA, C.cpy, C.st, C.cp, C.dat, storeA, putCells, constD, constC, List.getElem?_cons_zero, List.getElem?_cons_succ, List.set_cons_zero, List.set_cons_succ, List.length_cons, List.length_nil, List.cons_append, List.nil_append, List.append_nil, List.map_nil, List.all_cons, List.all_nil, List.take_zero, List.drop_succ_cons, List.drop_zero, Option.bind_some, Option.map_some, Bool.and_true, Bool.true_and, Nat.reduceAdd, Nat.reduceEqDiff, if_true, if_false, and_self, decide_false, Option.some.injEq, ne_eq, not_false_eq_true, reduceCtorEq, Nat.reduceLeDiff, Nat.le_refl, Nat.reduceBNe, Bool.false_eq_true, implies_true, Nat.zero_add, beq_self_eq_true, Bool.and_self, Bool.true_or, callP, callO, dedup, rootsD, rootsC, List.flatMap_cons, List.flatMap_nil, List.filterMap_cons, List.filterMap_nil, argDs, argD, argC, List.contains_nil, objsAt, objOf, List.idxOf?, List.findIdx?, List.findIdx?.go, setObjs, D.ni, D.ni1, C.ni, settle, settle1, settleC, List.isEmpty_nil, FsJ1, buildA, partsA, fillA, placeSt, tk91, tsz91, tsz39, hT1, last_get, last_set, partsA, fillA, placeSt, tsz9, a4, tz91]; rfl) ?_)) ?_
          refine seq_run okJ1 rfl (by repeat (first | with_reducible exact runf_nil | refine runf_cons (by simp only [xstep, stepf, stepx, evsA, qev, St.ev, St.put, St.with, D.cell, C.cpy, C.cp, C.dat, constD, constC, List.getElem?_cons_zero, List.getElem?_cons_succ, List.set_cons_zero, List.set_cons_succ, List.length_cons, List.length_nil, List.nil_append, List.append_nil, List.map_nil, List.all_cons, List.all_nil, Option.bind_some, Option.map_some, Bool.and_true, Bool.true_and, Nat.reduceEqDiff, if_true, if_false, and_self, Option.some.injEq, Bool.false_eq_true, Nat.zero_add, beq_self_eq_true, Bool.and_self, Bool.true_or, callP, callO, dedup, rootsD, rootsC, List.flatMap_cons, List.flatMap_nil, List.filterMap_cons, List.filterMap_nil, argDs, argD, argC, List.contains_nil, objsAt, objOf, List.idxOf?, List.findIdx?, List.findIdx?.go, setObjs, D.ni, settle, settleDs, List.isEmpty_nil, FsJ1, hE1]; rfl) ?_)) ?_
          refine seq_run okJ1 rfl (by repeat (first | with_reducible exact runf_nil | refine runf_cons (by simp only [xstep, stepf, stepx, evsA, qev, St.ev, St.put, St.with, D.cells, D.cell, qfieldAddr, liveR, C.st, C.dat, storeA, putCells, List.getElem?_cons_zero, List.getElem?_cons_succ, List.set_cons_zero, List.set_cons_succ, List.length_cons, List.length_nil, List.cons_append, List.nil_append, List.append_nil, List.map_nil, List.all_cons, List.all_nil, List.take_succ_cons, List.take_zero, List.drop_succ_cons, List.drop_zero, Option.bind_some, Option.map_some, Bool.and_true, Bool.true_and, Nat.reduceAdd, Nat.reduceEqDiff, if_true, if_false, and_self, Option.some.injEq, ne_eq, not_false_eq_true, reduceCtorEq, Nat.le_refl, Bool.false_eq_true, implies_true, Nat.zero_add, beq_self_eq_true, Bool.and_self, Bool.true_or, callP, callO, dedup, rootsD, rootsC, List.flatMap_cons, List.flatMap_nil, List.filterMap_cons, List.filterMap_nil, argDs, argD, argC, List.contains_nil, objsAt, objOf, List.idxOf?, List.findIdx?, List.findIdx?.go, setObjs, D.ni, D.ni1, C.ni, C.niRow, settle, settle1, settleC, settleCs, List.isEmpty_nil, FsJ1, tk91, tsz39, hV1, last_get, last_set, valC]; rfl) ?_)) ?_
          refine run_end okJ1 rfl (by repeat (first | with_reducible exact runf_nil | refine runf_cons (by simp only [xstep, stepf, stepx, qev, St.ev, St.put, St.with, D.cells, qload, cellsAt, qmk, C.cpy, TK.agg, qfieldAddr, liveR, C.st, C.cp, C.dat, storeA, putCells, List.getElem?_cons_zero, List.getElem?_cons_succ, List.set_cons_zero, List.set_cons_succ, List.length_cons, List.length_nil, List.cons_append, List.nil_append, List.append_nil, List.map_nil, List.map_cons, List.all_cons, List.all_nil, List.take_succ_cons, List.take_zero, List.drop_succ_cons, List.drop_zero, Option.bind_some, Option.map_some, Bool.and_true, Nat.reduceAdd, Nat.reduceMul, if_true, if_false, and_self, forall_const, Option.some.injEq, ne_eq, not_false_eq_true, reduceCtorEq, Nat.reduceLeDiff, Nat.le_refl, Nat.reduceBNe, Bool.false_eq_true, Nat.zero_add, bne_self_eq_false, Bool.and_self, nb_map, C.nb, partsA, fillA, tk48, tk91, tsz91, false_implies, ht0, hne, hz, last_get, buildSliceA, partsA, fillA, reps, chop, tkApp, appendA, srcRows, srcOther, D.kill, D.no, C.no, C.kill, killH, Root.kill, C.nos, D.nos, fldC, false_implies, tsz46, tz91, tk46, bo91]; rfl) ?_)) ?_
          show Tri _ _ _ _
          refine run_end okJ1 rfl (by repeat (first | with_reducible exact runf_nil | refine runf_cons (by simp only [xstep, stepf, stepx, qev, St.ev, St.put, qint, qshift, isShift, qbin, constD, constC, List.getElem?_cons_zero, List.getElem?_cons_succ, List.set_cons_zero, List.set_cons_succ, Option.map_some, Option.map_none, if_true, if_false, Option.some.injEq, Bool.false_eq_true, hq1, show IntKind.i64.wrap (↑(c + 1) : Int) = _ from wrap_i64 _ (by omega) (by omega)]; rfl) ?_)) ?_
          simp only []
          (simp only [paperGo, reduceIte, Bool.false_eq_true, ↓reduceIte, eq_true a0, a1, a2] at hk; exact ⟨k, by omega, ⟨[.c (.p 0 0 0), .top, .c (.p 1 0 0), .c (.p 2 0 0), .c (.v (.int .i64 (c + 1 : Nat))), .top, .top, .top, .top, .top, .top, .top, .top, .top, .top, .top, .top, .top, .top, .top, .top, .top, .top, .top, .top, .top, .top, .top, .top, .top, .top, .top, .top, .top, .top, .top, .top, .top, .top, .top, .top, .top, .top, .top, .top, .top, .top, .top, .top, .top], some ⟨false, 4, [[.s false 3 (l.map tokC), .v (.int .i64 (paV l e i bad).2.1), .v (.int .i64 e), .v (.int .i64 (paV l e i bad).2.2)]]⟩ :: some ⟨false, 3, [[.v (.string ⟨#[]⟩), .v (.int .i64 0), .s true 0 []]]⟩ :: some ⟨false, 3, [[.v (.string nm), .v (.int .i64 cl), .h 3 0 (acc ++ [paFld l e i bad]).length]]⟩ :: some ⟨true, 6, (acc ++ [paFld l e i bad]).map fldC⟩ :: List.map (fun o => Option.map (Root.kill 3) o) (T ++ [some ⟨false, 6, [fldC (paFld l e i bad)]⟩] ++ [some ⟨true, 6, [fldC (paFld l e i bad)]⟩])⟩, ⟨(by rw [show (acc ++ [paFld l e i bad]).length = acc.length + 1 from by simp]; repeat (first | exact .nil | refine .same ?_ | refine .top ?_)), (by rw [show (acc ++ [paFld l e i bad]).map fldC = acc.map fldC ++ [fldC (paFld l e i bad)] from List.map_append, show (acc ++ [paFld l e i bad]).length = acc.length + 1 from by simp]; rfl)⟩, k, c + 1, (paV l e i bad).2.1, (paV l e i bad).2.2, (acc ++ [paFld l e i bad]), _, rfl, by omega, (by omega), by omega, paV_le hi, (by simp [hacc]), hk, rfl⟩)
    ·
      simp only [Bool.not_eq_false'] at a1
      refine tri_exit ?_
      show Tri _ _ _ _
      refine seq_run okJ1 rfl (by repeat (first | with_reducible exact runf_nil | refine runf_cons (by simp only [xstep, stepf, stepx, evsA, qev, St.ev, St.put, St.with, D.cell, C.cpy, C.cp, C.dat, constD, constC, List.getElem?_cons_zero, List.getElem?_cons_succ, List.set_cons_zero, List.set_cons_succ, List.length_cons, List.length_nil, List.nil_append, List.append_nil, List.map_nil, List.all_cons, List.all_nil, Option.bind_some, Option.map_some, Bool.and_true, Bool.true_and, Nat.reduceEqDiff, if_true, if_false, and_self, Bool.not_true, Option.some.injEq, Bool.false_eq_true, Nat.zero_add, beq_self_eq_true, Bool.and_self, Bool.true_or, callP, callO, dedup, rootsD, rootsC, List.flatMap_cons, List.flatMap_nil, List.filterMap_cons, List.filterMap_nil, argDs, argD, argC, List.contains_nil, objsAt, objOf, List.idxOf?, List.findIdx?, List.findIdx?.go, setObjs, D.ni, settle, settleDs, List.isEmpty_nil, FsJ1, hR, a1]; rfl) ?_)) ?_
      refine seq_run okJ1 rfl (by repeat (first | with_reducible exact runf_nil | refine runf_cons (by simp only [xstep, stepf, stepx, qev, St.ev, St.put, D.cells, qload, cellsAt, qmk, C.cpy, TK.agg, liveR, C.st, C.cp, C.dat, storeA, putCells, List.getElem?_cons_zero, List.getElem?_cons_succ, List.set_cons_zero, List.set_cons_succ, List.length_cons, List.length_nil, List.nil_append, List.append_nil, List.map_nil, List.map_cons, List.all_cons, List.all_nil, List.take_succ_cons, List.take_zero, List.drop_succ_cons, List.drop_zero, Option.bind_some, Option.map_some, Bool.and_true, Nat.reduceAdd, if_true, and_self, Option.some.injEq, ne_eq, not_false_eq_true, reduceCtorEq, Nat.le_refl, Bool.false_eq_true, Nat.zero_add, Bool.and_self, Bool.and_false, tk48, tsz48, false_implies, false_implies]; rfl) ?_)) ?_
      refine tri_ret (ends_ret (by simp only [outRes, resDs, resD, outD, outC, outCs, qload, cellsAt, qmk, C.cpy, TK.agg, C.cp, C.dat, List.getElem?_cons_zero, List.getElem?_cons_succ, List.length_cons, List.length_nil, List.nil_append, List.append_nil, List.map_nil, List.map_cons, List.all_cons, List.all_nil, List.take_succ_cons, List.take_zero, List.drop_zero, Option.bind_some, Option.map_some, Nat.reduceAdd, if_true, and_self, Option.some.injEq, ne_eq, not_false_eq_true, reduceCtorEq, Nat.zero_add, Bool.and_self, tk48, tsz48, List.length_map]; rfl) rfl (by simp) (by simp) ?_)
      simp only [List.nil_append]
      (simp only [paperGo, reduceIte, ↓reduceIte, eq_true a0, a1] at hk; with_reducible exact hQ2 _ _ _ hk)
  ·
    refine seq_run okJ1 rfl (by repeat (first | with_reducible exact runf_nil | refine runf_cons (by simp only [xstep, stepf, stepx, evsA, qev, St.ev, St.put, D.cell, qload, cellsAt, qmk, C.cpy, TK.agg, qnil, qfieldAddr, qpick, qint, qshift, isShift, qbin, qun, liveR, C.cp, C.dat, constD, constC, List.getElem?_cons_zero, List.getElem?_cons_succ, List.set_cons_zero, List.set_cons_succ, List.length_cons, List.length_nil, List.nil_append, List.append_nil, List.map_nil, List.map_cons, List.all_cons, List.all_nil, List.take_succ_cons, List.take_zero, List.drop_succ_cons, List.drop_zero, Option.bind_some, Option.map_some, Option.map_none, Nat.reduceEqDiff, if_true, if_false, and_self, decide_false, cond_false, List.getElem?_toArray, Option.some.injEq, reduceCtorEq, Bool.false_eq_true, Nat.zero_add, Bool.and_self, callP, callO, dedup, rootsD, rootsC, List.flatMap_cons, List.flatMap_nil, List.filterMap_cons, List.filterMap_nil, argDs, argD, argC, objsAt, FsJ1, tsz3, tk80, tk3, eq_false a0]; rfl) ?_)) ?_
    refine tri_cond (b := false) rfl (fun h => by cases h) (fun _ => ?_)
    refine tri_exit ?_
    show Tri _ _ _ _
    refine seq_run okJ1 rfl (by repeat (first | with_reducible exact runf_nil | refine runf_cons (by simp only [xstep, stepf, stepx, evsA, qev, St.ev, St.put, St.with, D.cell, C.cpy, C.cp, C.dat, constD, constC, List.getElem?_cons_zero, List.getElem?_cons_succ, List.set_cons_zero, List.set_cons_succ, List.length_cons, List.length_nil, List.nil_append, List.append_nil, List.map_nil, List.all_cons, List.all_nil, Option.bind_some, Option.map_some, Bool.and_true, Bool.true_and, Nat.reduceEqDiff, if_true, if_false, and_self, Option.some.injEq, Bool.false_eq_true, Nat.zero_add, beq_self_eq_true, Bool.and_self, Bool.true_or, callP, callO, dedup, rootsD, rootsC, List.flatMap_cons, List.flatMap_nil, List.filterMap_cons, List.filterMap_nil, argDs, argD, argC, List.contains_nil, objsAt, objOf, List.idxOf?, List.findIdx?, List.findIdx?.go, setObjs, D.ni, settle, settleDs, List.isEmpty_nil, FsJ1, hR]; rfl) ?_)) ?_
    refine seq_run okJ1 rfl (by repeat (first | with_reducible exact runf_nil | refine runf_cons (by simp only [xstep, stepf, stepx, qev, St.ev, St.put, D.cells, qload, cellsAt, qmk, C.cpy, TK.agg, liveR, C.st, C.cp, C.dat, storeA, putCells, List.getElem?_cons_zero, List.getElem?_cons_succ, List.set_cons_zero, List.set_cons_succ, List.length_cons, List.length_nil, List.nil_append, List.append_nil, List.map_nil, List.map_cons, List.all_cons, List.all_nil, List.take_succ_cons, List.take_zero, List.drop_succ_cons, List.drop_zero, Option.bind_some, Option.map_some, Bool.and_true, Nat.reduceAdd, if_true, and_self, Option.some.injEq, ne_eq, not_false_eq_true, reduceCtorEq, Nat.le_refl, Bool.false_eq_true, Nat.zero_add, Bool.and_self, Bool.and_false, tk48, tsz48, false_implies, false_implies]; rfl) ?_)) ?_
    refine tri_ret (ends_ret (by simp only [outRes, resDs, resD, outD, outC, outCs, qload, cellsAt, qmk, C.cpy, TK.agg, C.cp, C.dat, List.getElem?_cons_zero, List.getElem?_cons_succ, List.length_cons, List.length_nil, List.nil_append, List.append_nil, List.map_nil, List.map_cons, List.all_cons, List.all_nil, List.take_succ_cons, List.take_zero, List.drop_zero, Option.bind_some, Option.map_some, Nat.reduceAdd, if_true, and_self, Option.some.injEq, ne_eq, not_false_eq_true, reduceCtorEq, Nat.zero_add, Bool.and_self, tk48, tsz48, List.length_map]; rfl) rfl (by simp) (by simp) ?_)
    simp only [List.nil_append]
    (simp only [paperGo, reduceIte, ↓reduceIte, eq_false a0] at hk; with_reducible exact hQ2 _ _ _ hk)
end Go.Dl
