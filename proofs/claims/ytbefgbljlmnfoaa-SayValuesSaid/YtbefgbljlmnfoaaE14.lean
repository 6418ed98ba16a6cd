/- Plain facts: how far the parser's parts go; the walks of args, arg; The walk of step. -/
import Derived.Test.YtbefgbljlmnfoaaE13
namespace Go.Dl
open Go.RowKit
open Go.Proofs
set_option linter.unusedSimpArgs false
set_option linter.unusedVariables false

theorem takeF_ge (l : List Tok) (i : Nat) (e bad k : Int) : i ≤ (takeF l i e bad k).2.1 := by
  rcases take_le l i e bad k with h | ⟨h, h2⟩ <;> omega
theorem markF_ge (l : List Tok) (i : Nat) (e bad : Int) (m : ByteArray) : i ≤ (markF l i e bad m).1 := by
  unfold markF
  split
  · exact Nat.le_succ i
  · exact Nat.le_refl i
theorem numberF_ge {l : List Tok} {i : Nat} {e bad : Int} {r : Int × Nat × Int} (h : numberF l i e bad = some r) : i ≤ r.2.1 := by
  have ht := takeF_ge l i e bad 1
  unfold numberF at h
  repeat' split at h
  all_goals first | (cases h; first | exact ht | exact Nat.le_refl i) | cases h
theorem numT_ge (l : List Tok) (i : Nat) (e bad : Int) : i ≤ (numT l i e bad).2.1 := by
  unfold numT
  cases h : numberF l i e bad with
  | none => exact Nat.le_refl i
  | some r => exact numberF_ge h
theorem floatF_ge (l : List Tok) (i : Nat) (e bad : Int) : i ≤ (floatF l i e bad).2.1 := by
  have hA : i ≤ (flA l i e bad).1 := markF_ge ..
  have hB : (flA l i e bad).1 ≤ (flB l i e bad).2.1 := takeF_ge ..
  have h1 : ∀ b, (flA l i e bad).1 ≤ (markF l (flA l i e bad).1 e b rpar).1 := fun _ => markF_ge ..
  have h2 : (flB l i e bad).2.1 ≤ (markF l (flB l i e bad).2.1 e (flB l i e bad).2.2 rpar).1 := markF_ge ..
  unfold floatF
  split
  · exact Nat.le_trans hA hB
  · split
    · exact hA
    · split
      · exact Nat.le_trans hA (h1 _)
      · exact Nat.le_trans (Nat.le_trans hA hB) h2
theorem wordF_ge (l : List Tok) (i : Nat) (e bad : Int) (w : ByteArray) : i ≤ (wordF l i e bad w).2.1 := by
  unfold wordF
  split
  · exact Nat.le_succ i
  split
  · exact Nat.le_succ i
  split
  · exact Nat.le_succ i
  split
  · exact Nat.le_trans (Nat.le_succ i) (floatF_ge ..)
  · exact Nat.le_refl i
theorem valueF_ge (l : List Tok) (i : Nat) (e bad : Int) : i ≤ (valueF l i e bad).2.1 := by
  unfold valueF
  split
  · exact Nat.le_refl i
  · split
    · exact Nat.le_refl i
    · split
      · split
        · rename_i r hr; exact numberF_ge hr
        · exact Nat.le_refl i
      split
      · exact Nat.le_succ i
      split
      · exact wordF_ge ..
      · exact Nat.le_refl i
theorem paV_ge (l : List Tok) (e : Int) (i : Nat) (bad : Int) : i ≤ (paV l e i bad).2.1 :=
  Nat.le_trans (takeF_ge l i e bad 2) (Nat.le_trans (markF_ge _ _ _ _ eqm) (valueF_ge ..))
theorem paperGo_in {l : List Tok} {e : Int} : ∀ (k c i : Nat) (bad : Int) (acc : List Fld), i ≤ l.length → i ≤ (paperGo l e k c i bad acc).2.1 ∧ (paperGo l e k c i bad acc).2.1 ≤ l.length
  | 0, c, i, bad, acc, hi => ⟨Nat.le_refl i, hi⟩
  | k + 1, c, i, bad, acc, hi => by
    have hm : i ≤ (markF l i e bad comma).1 := markF_ge ..
    have hm2 : (markF l i e bad comma).1 ≤ l.length := markF_le hi
    simp only [paperGo]
    split
    · split
      · exact ⟨Nat.le_refl i, hi⟩
      · split
        · split
          · obtain ⟨h1, h2⟩ := paperGo_in k (c + 1) (paV l e (markF l i e bad comma).1 (failF l (markF l i e bad comma).1 e (markF l i e bad comma).2)).2.1 (paV l e (markF l i e bad comma).1 (failF l (markF l i e bad comma).1 e (markF l i e bad comma).2)).2.2 (acc ++ [paFld l e (markF l i e bad comma).1 (failF l (markF l i e bad comma).1 e (markF l i e bad comma).2)]) (paV_le hm2)
            exact ⟨Nat.le_trans hm (Nat.le_trans (paV_ge ..) h1), h2⟩
          · obtain ⟨h1, h2⟩ := paperGo_in k (c + 1) (paV l e (markF l i e bad comma).1 (markF l i e bad comma).2).2.1 (paV l e (markF l i e bad comma).1 (markF l i e bad comma).2).2.2 (acc ++ [paFld l e (markF l i e bad comma).1 (markF l i e bad comma).2]) (paV_le hm2)
            exact ⟨Nat.le_trans hm (Nat.le_trans (paV_ge ..) h1), h2⟩
        · obtain ⟨h1, h2⟩ := paperGo_in k (c + 1) (paV l e i bad).2.1 (paV l e i bad).2.2 (acc ++ [paFld l e i bad]) (paV_le hi)
          exact ⟨Nat.le_trans (paV_ge ..) h1, h2⟩
    · exact ⟨Nat.le_refl i, hi⟩
theorem paperF_in {l : List Tok} {i : Nat} {e bad : Int} (h : okPre l i e) : i ≤ (paperF l i e bad).2.1 ∧ (paperF l i e bad).2.1 ≤ l.length := by
  obtain ⟨r, hr⟩ : ∃ r, paperR l i e bad = r := ⟨_, rfl⟩
  have h1 : i ≤ (takeF l i e bad 2).2.1 := takeF_ge ..
  have h1' : (takeF l i e bad 2).2.1 ≤ l.length := takeF_le h.1.2.1
  have h2 : (takeF l i e bad 2).2.1 ≤ (paI l i e bad).2.1 := numT_ge ..
  have h2' : (paI l i e bad).2.1 ≤ l.length := numT_le (h.at h1')
  have h3 : (paI l i e bad).2.1 ≤ (paM l i e bad).1 := markF_ge ..
  have h3' : (paM l i e bad).1 ≤ l.length := markF_le h2'
  have h4 := paperGo_in (e := e) 102 0 (paM l i e bad).1 (paM l i e bad).2 [] h3'
  rw [show paperGo l e 102 0 (paM l i e bad).1 (paM l i e bad).2 [] = r from hr] at h4
  rw [paper_eq hr]
  have h5 := markF_ge l r.2.1 e r.2.2 rpar
  have h5' : (markF l r.2.1 e r.2.2 rpar).1 ≤ l.length := markF_le h4.2
  exact ⟨by dsimp only; omega, h5'⟩
theorem namesGo_in {l : List Tok} {e : Int} : ∀ (k c i : Nat) (bad : Int) (acc : List ByteArray), i ≤ l.length → i ≤ (namesGo l e k c i bad acc).2.1 ∧ (namesGo l e k c i bad acc).2.1 ≤ l.length
  | 0, c, i, bad, acc, hi => ⟨Nat.le_refl i, hi⟩
  | k + 1, c, i, bad, acc, hi => by
    have hm : i ≤ (markF l i e bad comma).1 := markF_ge ..
    have hm2 : (markF l i e bad comma).1 ≤ l.length := markF_le hi
    simp only [namesGo]
    split
    · split
      · exact ⟨Nat.le_refl i, hi⟩
      · split
        · split
          · obtain ⟨h1, h2⟩ := namesGo_in k (c + 1) (takeF l (markF l i e bad comma).1 e (failF l (markF l i e bad comma).1 e (markF l i e bad comma).2) 2).2.1 (takeF l (markF l i e bad comma).1 e (failF l (markF l i e bad comma).1 e (markF l i e bad comma).2) 2).2.2 (acc ++ [(takeF l (markF l i e bad comma).1 e (failF l (markF l i e bad comma).1 e (markF l i e bad comma).2) 2).1]) (takeF_le hm2)
            exact ⟨Nat.le_trans hm (Nat.le_trans (takeF_ge ..) h1), h2⟩
          · obtain ⟨h1, h2⟩ := namesGo_in k (c + 1) (takeF l (markF l i e bad comma).1 e (markF l i e bad comma).2 2).2.1 (takeF l (markF l i e bad comma).1 e (markF l i e bad comma).2 2).2.2 (acc ++ [(takeF l (markF l i e bad comma).1 e (markF l i e bad comma).2 2).1]) (takeF_le hm2)
            exact ⟨Nat.le_trans hm (Nat.le_trans (takeF_ge ..) h1), h2⟩
        · obtain ⟨h1, h2⟩ := namesGo_in k (c + 1) (takeF l i e bad 2).2.1 (takeF l i e bad 2).2.2 (acc ++ [(takeF l i e bad 2).1]) (takeF_le hi)
          exact ⟨Nat.le_trans (takeF_ge ..) h1, h2⟩
    · exact ⟨Nat.le_refl i, hi⟩
theorem namesF_in {l : List Tok} {i : Nat} {e bad : Int} (h : okPre l i e) : i ≤ (namesF l i e bad).2.1 ∧ (namesF l i e bad).2.1 ≤ l.length := by
  obtain ⟨r, hr⟩ : ∃ r, namesR l i e bad = r := ⟨_, rfl⟩
  have h3 := markF_ge l i e bad lbr
  have h3' : (markF l i e bad lbr).1 ≤ l.length := markF_le h.1.2.1
  have h4 := namesGo_in (e := e) 102 0 (markF l i e bad lbr).1 (markF l i e bad lbr).2 [] h3'
  rw [show namesGo l e 102 0 (markF l i e bad lbr).1 (markF l i e bad lbr).2 [] = r from hr] at h4
  rw [names_eq hr]
  have h5 := markF_ge l r.2.1 e r.2.2 rbr
  have h5' : (markF l r.2.1 e r.2.2 rbr).1 ≤ l.length := markF_le h4.2
  exact ⟨by dsimp only; omega, h5'⟩
theorem countF_in {l : List Tok} {i : Nat} {e bad : Int} (hi : i ≤ l.length) : i ≤ (countF l i e bad).2.1 ∧ (countF l i e bad).2.1 ≤ l.length := by
  have h1 := takeF_ge l i e bad 1
  have h2 : (takeF l i e bad 1).2.1 ≤ l.length := takeF_le hi
  unfold countF
  split
  · split
    · exact ⟨h1, h2⟩
    · exact ⟨Nat.le_refl i, hi⟩
  · split <;> exact ⟨h1, h2⟩

/-- A step. -/
structure ActM where
  kind : Int
  pid : ByteArray
  cls : Int
  flds : Option (List Fld)
  id : ByteArray
  name : ByteArray
  names : Option (List ByteArray)
  draw : ByteArray
  n : Int
  m : Int
  keep : Int
  tear : Int
def fldsC (z : Bool) (f : Option (List Fld)) : C := .s (z && f.isNone) (f.elim 0 fun _ => 6) (f.elim [] fun l => l.map fldC)
def namesC (z : Bool) (f : Option (List ByteArray)) : C := .s (z && f.isNone) (f.elim 0 fun _ => 1) (f.elim [] fun l => l.map strC)
theorem flds_some (z : Bool) (l : List Fld) : fldsC z (some l) = .s false 6 (l.map fldC) := by cases z <;> rfl
theorem names_some (z : Bool) (l : List ByteArray) : namesC z (some l) = .s false 1 (l.map strC) := by cases z <;> rfl
def actC (z : Bool) (a : ActM) : List C := [.v (.int .i64 a.kind), .v (.string a.pid), .v (.int .i64 a.cls), fldsC z a.flds, .v (.string a.id), .v (.string a.name), namesC z a.names, .v (.string a.draw), .v (.int .i64 a.n), .v (.int .i64 a.m), .v (.int .u64 a.keep), .v (.int .i64 a.tear)]
def act0 (k : Int) : ActM := ⟨k, noText, 0, none, noText, noText, none, noText, 0, 0, 0, 0⟩
theorem strs_inj : ∀ {l l' : List ByteArray}, l.map strC = l'.map strC → l = l'
  | [], [], _ => rfl
  | [], _ :: _, h => by simp at h
  | _ :: _, [], h => by simp at h
  | a :: l, b :: l', h => by
    simp only [Z24, List.cons.injEq, strC, C.v.injEq, Value.string.injEq, and_true] at h
    rw [h.1, strs_inj h.2]
theorem fldC_inj {x y : Fld} (h : fldC x = fldC y) : x = y := by
  obtain ⟨a, b, c, d, f, g⟩ := x
  obtain ⟨a', b', c', d', f', g'⟩ := y
  simp only [fldC, List.cons.injEq, C.v.injEq, Value.int.injEq, Value.string.injEq, Value.bool.injEq, true_and, and_true] at h
  obtain ⟨rfl, rfl, rfl, rfl, rfl, rfl⟩ := h; rfl
theorem flds_inj : ∀ {l l' : List Fld}, l.map fldC = l'.map fldC → l = l'
  | [], [], _ => rfl
  | [], _ :: _, h => by simp at h
  | _ :: _, [], h => by simp at h
  | a :: l, b :: l', h => by
    simp only [Z24, List.cons.injEq] at h
    rw [fldC_inj h.1, flds_inj h.2]
theorem fldsC_inj {f g : Option (List Fld)} (h : fldsC true f = fldsC true g) : f = g := by
  unfold fldsC at h
  cases f <;> cases g
  · rfl
  · simp at h
  · simp at h
  · simp only [Option.isNone_some, Bool.and_false, Option.elim_some, C.s.injEq, true_and] at h
    rw [flds_inj h]
theorem namesC_inj {f g : Option (List ByteArray)} (h : namesC true f = namesC true g) : f = g := by
  unfold namesC at h
  cases f <;> cases g
  · rfl
  · simp at h
  · simp at h
  · simp only [Option.isNone_some, Bool.and_false, Option.elim_some, C.s.injEq, true_and] at h
    rw [strs_inj h]
theorem actC_inj {a b : ActM} (h : actC true a = actC true b) : a = b := by
  obtain ⟨a1, a2, a3, a4, a5, a6, a7, a8, a9, a10, a11, a12⟩ := a
  obtain ⟨b1, b2, b3, b4, b5, b6, b7, b8, b9, b10, b11, b12⟩ := b
  simp only [actC, List.cons.injEq, C.v.injEq, Value.int.injEq, Value.string.injEq, true_and, and_true] at h
  obtain ⟨rfl, rfl, rfl, h1, rfl, rfl, h2, rfl, rfl, rfl, rfl, rfl⟩ := h
  rw [fldsC_inj h1, namesC_inj h2]
theorem flds_dat (z : Bool) (f : Option (List Fld)) : (fldsC z f).dat = true := by cases f <;> rfl
theorem names_dat (z : Bool) (f : Option (List ByteArray)) : (namesC z f).dat = true := by cases f <;> rfl
theorem str_cp (l : List ByteArray) : ((l.map strC).all fun row => row.all C.cp) = true := by
  rw [List.all_eq_true]
  intro row h
  obtain ⟨x, _, rfl⟩ := List.mem_map.1 h
  rfl

/-- What a step has. -/
def argsK (k : Int) : List Int := if k = 1 then [8, 7] else if k = 2 then [0] else if k = 4 then [0] else if k = 3 then [0, 1] else if k = 5 then [0, 1] else if k = 6 then [0, 1]
  else if k = 8 then [3] else if k = 11 then [5, 6] else if k = 12 then [3, 5, 6] else if k = 14 then [0, 2, 3] else if k = 15 then [3, 4] else []
def argsE (k : Int) : Nat := if k = 1 then 1 else if k = 2 then 1 else if k = 4 then 1 else if k = 3 then 1 else if k = 5 then 1 else if k = 6 then 1
  else if k = 8 then 1 else if k = 11 then 1 else if k = 12 then 1 else if k = 14 then 1 else if k = 15 then 1 else 0
noncomputable def pArgsA : List D → Option D := famP (fun _ : Int => True) (fun k => [.c (.v (.int .i64 k))]) (fun k => .c (.s true (argsE k) (ints (argsK k))))
theorem meets44A : Meets Try.prog 44 (pureS pArgsA) := by
  refine meets_famP (show Try.prog.funcs[44]? = some Try.f44 by kernel_rfl) rfl (n := 31) rfl (rs := [ResultVar.tmp 2]) rfl ?_
  intro k _ Q hQ
  refine seq_run ok0 rfl (by repeat (first | with_reducible exact runf_nil | refine runf_cons (by simp only [xstep, stepf, stepx, qev, St.ev, St.put, constD, constC, Z5, Z6, List.replicate, Z9, Z10, Z23, Z12, Z4, Nat.reduceSub, Z3, Z14]; rfl) ?_)) ?_
  refine seq_in ?_
  refine seq_run ok0 rfl (by repeat (first | with_reducible exact runf_nil | refine runf_cons (by simp only [xstep, stepf, stepx, qev, St.ev, St.put, Z1, Z5, Z6, Z4, Z3]; rfl) ?_)) ?_
  refine tri_block ?_
  refine seq_run ok0 rfl (by repeat (first | with_reducible exact runf_nil | refine runf_cons (by simp only [xstep, stepf, stepx, qev, St.ev, St.put, qint, qshift, isShift, qbin, constD, constC, Z1, Z2, Z5, Z6, Z4, Z11, if_true, if_false, Z3, Z7]; rfl) ?_)) ?_
  refine tri_cond rfl (fun a0 => ?_) (fun a0 => ?_)
  ·
    simp only [decide_eq_true_eq] at a0
    refine seq_run ok0 rfl (by repeat (first | with_reducible exact runf_nil | refine runf_cons (by simp only [xstep, stepf, stepx, qev, St.ev, St.put, St.with, D.cells, C.st, C.dat, putCells, constD, constC, Z1, Z2, Z5, Z6, Z9, Z10, Z23, Z12, Z15, Z16, Z18, Z17, Z20, Z19, Z21, Z8, Z4, Nat.reduceAdd, Nat.reduceMul, if_true, and_self, decide_true, Z3, ne_eq, not_false_eq_true, reduceCtorEq, Nat.reduceLeDiff, Nat.le_refl, Z14, Z26, buildSliceA, partsA, fillA, reps, chop, a0, tk27, tz3, tsz3]; rfl) ?_)) ?_
    refine tri_ret (ends_ret (by simp only [outRes, resDs, resD, outD, outC, Z1, Z2, Z9, Z10, Z4, Nat.reduceAdd, if_true, and_self, Z3, ne_eq, not_false_eq_true, reduceCtorEq, Z14]; rfl) rfl (by simp) (by simp) ?_)
    (simp only [reduceIte, ↓reduceIte, argsK, argsE, ints, Z24, Z13, a0] at hQ; with_reducible exact hQ)
  ·
    simp only [decide_eq_false_iff_not] at a0
    refine seq_in ?_
    refine seq_run ok0 rfl (by repeat (first | with_reducible exact runf_nil | refine runf_cons (by simp only [xstep, stepf, stepx, qev, St.ev, St.put, qint, qshift, isShift, qbin, constD, constC, Z1, Z2, Z5, Z6, Z4, Z11, if_true, if_false, decide_false, Z3, Z7, a0]; rfl) ?_)) ?_
    refine tri_cond rfl (fun a1 => ?_) (fun a1 => ?_)
    ·
      simp only [decide_eq_true_eq] at a1
      refine then_skip ?_
      refine tri_cond rfl (fun a2 => ?_) (fun a2 => ?_)
      ·
        simp only [decide_eq_true_eq] at a2
        refine seq_run ok0 rfl (by repeat (first | with_reducible exact runf_nil | refine runf_cons (by simp only [xstep, stepf, stepx, qev, St.ev, St.put, St.with, D.cells, C.st, C.dat, putCells, constD, constC, Z1, Z2, Z5, Z6, Z9, Z10, Z12, Z15, Z16, Z18, Z17, Z20, Z19, Z21, Z8, Z4, Nat.reduceMul, if_true, and_self, decide_true, Z3, ne_eq, not_false_eq_true, reduceCtorEq, Nat.reduceLeDiff, Nat.le_refl, Z14, Z26, buildSliceA, partsA, fillA, reps, chop, a1, tk27, tz3, tsz3]; rfl) ?_)) ?_
        refine tri_ret (ends_ret (by simp only [outRes, resDs, resD, outD, outC, Z1, Z2, Z9, Z10, Z4, if_true, and_self, Z3, ne_eq, not_false_eq_true, reduceCtorEq, Z14]; rfl) rfl (by simp) (by simp) ?_)
        (simp only [reduceIte, ↓reduceIte, Int.reduceEq, argsK, argsE, ints, Z24, Z13, a1] at hQ; with_reducible exact hQ)
      ·
        simp only [decide_eq_false_iff_not] at a2
        (exfalso; omega)
    ·
      simp only [decide_eq_false_iff_not] at a1
      refine run_end ok0 rfl (by repeat (first | with_reducible exact runf_nil | refine runf_cons (by simp only [xstep, stepf, stepx, qev, St.ev, St.put, qint, qshift, isShift, qbin, constD, constC, Z1, Z2, Z5, Z6, Z4, Z11, if_true, if_false, decide_false, Z3, Z7, a1]; rfl) ?_)) ?_
      show Tri _ _ _ _
      refine tri_cond rfl (fun a3 => ?_) (fun a3 => ?_)
      ·
        simp only [decide_eq_true_eq] at a3
        refine seq_run ok0 rfl (by repeat (first | with_reducible exact runf_nil | refine runf_cons (by simp only [xstep, stepf, stepx, qev, St.ev, St.put, St.with, D.cells, C.st, C.dat, putCells, constD, constC, Z1, Z2, Z5, Z6, Z9, Z10, Z12, Z15, Z16, Z18, Z17, Z20, Z19, Z21, Z8, Z4, Nat.reduceMul, if_true, and_self, decide_true, Z3, ne_eq, not_false_eq_true, reduceCtorEq, Nat.reduceLeDiff, Nat.le_refl, Z14, Z26, buildSliceA, partsA, fillA, reps, chop, a3, tk27, tz3, tsz3]; rfl) ?_)) ?_
        refine tri_ret (ends_ret (by simp only [outRes, resDs, resD, outD, outC, Z1, Z2, Z9, Z10, Z4, if_true, and_self, Z3, ne_eq, not_false_eq_true, reduceCtorEq, Z14]; rfl) rfl (by simp) (by simp) ?_)
        (simp only [reduceIte, ↓reduceIte, Int.reduceEq, argsK, argsE, ints, Z24, Z13, a3] at hQ; with_reducible exact hQ)
      ·
        simp only [decide_eq_false_iff_not] at a3
        refine seq_in ?_
        refine seq_run ok0 rfl (by repeat (first | with_reducible exact runf_nil | refine runf_cons (by simp only [xstep, stepf, stepx, qev, St.ev, St.put, qint, qshift, isShift, qbin, constD, constC, Z1, Z2, Z5, Z6, Z4, Z11, if_true, if_false, decide_false, Z3, Z7, a3]; rfl) ?_)) ?_
        refine tri_cond rfl (fun a4 => ?_) (fun a4 => ?_)
        ·
          simp only [decide_eq_true_eq] at a4
          refine then_skip ?_
          refine tri_cond rfl (fun a5 => ?_) (fun a5 => ?_)
          ·
            simp only [decide_eq_true_eq] at a5
            refine seq_run ok0 rfl (by repeat (first | with_reducible exact runf_nil | refine runf_cons (by simp only [xstep, stepf, stepx, qev, St.ev, St.put, St.with, D.cells, C.st, C.dat, putCells, constD, constC, Z1, Z2, Z5, Z6, Z9, Z10, Z23, Z12, Z15, Z16, Z18, Z17, Z20, Z19, Z21, Z8, Z4, Nat.reduceAdd, Nat.reduceMul, if_true, and_self, decide_true, Z3, ne_eq, not_false_eq_true, reduceCtorEq, Nat.reduceLeDiff, Nat.le_refl, Z14, Z26, buildSliceA, partsA, fillA, reps, chop, a4, tk27, tz3, tsz3]; rfl) ?_)) ?_
            refine tri_ret (ends_ret (by simp only [outRes, resDs, resD, outD, outC, Z1, Z2, Z9, Z10, Z4, Nat.reduceAdd, if_true, and_self, Z3, ne_eq, not_false_eq_true, reduceCtorEq, Z14]; rfl) rfl (by simp) (by simp) ?_)
            (simp only [reduceIte, ↓reduceIte, Int.reduceEq, argsK, argsE, ints, Z24, Z13, a4] at hQ; with_reducible exact hQ)
          ·
            simp only [decide_eq_false_iff_not] at a5
            (exfalso; omega)
        ·
          simp only [decide_eq_false_iff_not] at a4
          refine seq_run ok0 rfl (by repeat (first | with_reducible exact runf_nil | refine runf_cons (by simp only [xstep, stepf, stepx, qev, St.ev, St.put, qint, qshift, isShift, qbin, constD, constC, Z1, Z2, Z5, Z6, Z4, Z11, if_true, if_false, decide_false, Z3, Z7, a4]; rfl) ?_)) ?_
          refine tri_cond rfl (fun a6 => ?_) (fun a6 => ?_)
          ·
            simp only [decide_eq_true_eq] at a6
            refine then_skip ?_
            refine tri_cond rfl (fun a7 => ?_) (fun a7 => ?_)
            ·
              simp only [decide_eq_true_eq] at a7
              refine seq_run ok0 rfl (by repeat (first | with_reducible exact runf_nil | refine runf_cons (by simp only [xstep, stepf, stepx, qev, St.ev, St.put, St.with, D.cells, C.st, C.dat, putCells, constD, constC, Z1, Z2, Z5, Z6, Z9, Z10, Z23, Z12, Z15, Z16, Z18, Z17, Z20, Z19, Z21, Z8, Z4, Nat.reduceAdd, Nat.reduceMul, if_true, and_self, decide_true, Z3, ne_eq, not_false_eq_true, reduceCtorEq, Nat.reduceLeDiff, Nat.le_refl, Z14, Z26, buildSliceA, partsA, fillA, reps, chop, a6, tk27, tz3, tsz3]; rfl) ?_)) ?_
              refine tri_ret (ends_ret (by simp only [outRes, resDs, resD, outD, outC, Z1, Z2, Z9, Z10, Z4, Nat.reduceAdd, if_true, and_self, Z3, ne_eq, not_false_eq_true, reduceCtorEq, Z14]; rfl) rfl (by simp) (by simp) ?_)
              (simp only [reduceIte, ↓reduceIte, Int.reduceEq, argsK, argsE, ints, Z24, Z13, a6] at hQ; with_reducible exact hQ)
            ·
              simp only [decide_eq_false_iff_not] at a7
              (exfalso; omega)
          ·
            simp only [decide_eq_false_iff_not] at a6
            refine run_end ok0 rfl (by repeat (first | with_reducible exact runf_nil | refine runf_cons (by simp only [xstep, stepf, stepx, qev, St.ev, St.put, qint, qshift, isShift, qbin, constD, constC, Z1, Z2, Z5, Z6, Z4, Z11, if_true, if_false, decide_false, Z3, Z7, a6]; rfl) ?_)) ?_
            show Tri _ _ _ _
            refine tri_cond rfl (fun a8 => ?_) (fun a8 => ?_)
            ·
              simp only [decide_eq_true_eq] at a8
              refine seq_run ok0 rfl (by repeat (first | with_reducible exact runf_nil | refine runf_cons (by simp only [xstep, stepf, stepx, qev, St.ev, St.put, St.with, D.cells, C.st, C.dat, putCells, constD, constC, Z1, Z2, Z5, Z6, Z9, Z10, Z23, Z12, Z15, Z16, Z18, Z17, Z20, Z19, Z21, Z8, Z4, Nat.reduceAdd, Nat.reduceMul, if_true, and_self, decide_true, Z3, ne_eq, not_false_eq_true, reduceCtorEq, Nat.reduceLeDiff, Nat.le_refl, Z14, Z26, buildSliceA, partsA, fillA, reps, chop, a8, tk27, tz3, tsz3]; rfl) ?_)) ?_
              refine tri_ret (ends_ret (by simp only [outRes, resDs, resD, outD, outC, Z1, Z2, Z9, Z10, Z4, Nat.reduceAdd, if_true, and_self, Z3, ne_eq, not_false_eq_true, reduceCtorEq, Z14]; rfl) rfl (by simp) (by simp) ?_)
              (simp only [reduceIte, ↓reduceIte, Int.reduceEq, argsK, argsE, ints, Z24, Z13, a8] at hQ; with_reducible exact hQ)
            ·
              simp only [decide_eq_false_iff_not] at a8
              refine seq_run ok0 rfl (by repeat (first | with_reducible exact runf_nil | refine runf_cons (by simp only [xstep, stepf, stepx, qev, St.ev, St.put, qint, qshift, isShift, qbin, constD, constC, Z1, Z2, Z5, Z6, Z4, Z11, if_true, if_false, decide_false, Z3, Z7, a8]; rfl) ?_)) ?_
              refine tri_cond rfl (fun a9 => ?_) (fun a9 => ?_)
              ·
                simp only [decide_eq_true_eq] at a9
                refine seq_run ok0 rfl (by repeat (first | with_reducible exact runf_nil | refine runf_cons (by simp only [xstep, stepf, stepx, qev, St.ev, St.put, St.with, D.cells, C.st, C.dat, putCells, constD, constC, Z1, Z2, Z5, Z6, Z9, Z10, Z12, Z15, Z16, Z18, Z17, Z20, Z19, Z21, Z8, Z4, Nat.reduceMul, if_true, and_self, decide_true, Z3, ne_eq, not_false_eq_true, reduceCtorEq, Nat.reduceLeDiff, Nat.le_refl, Z14, Z26, buildSliceA, partsA, fillA, reps, chop, a9, tk27, tz3, tsz3]; rfl) ?_)) ?_
                refine tri_ret (ends_ret (by simp only [outRes, resDs, resD, outD, outC, Z1, Z2, Z9, Z10, Z4, if_true, and_self, Z3, ne_eq, not_false_eq_true, reduceCtorEq, Z14]; rfl) rfl (by simp) (by simp) ?_)
                (simp only [reduceIte, ↓reduceIte, Int.reduceEq, argsK, argsE, ints, Z24, Z13, a9] at hQ; with_reducible exact hQ)
              ·
                simp only [decide_eq_false_iff_not] at a9
                refine seq_run ok0 rfl (by repeat (first | with_reducible exact runf_nil | refine runf_cons (by simp only [xstep, stepf, stepx, qev, St.ev, St.put, qint, qshift, isShift, qbin, constD, constC, Z1, Z2, Z5, Z6, Z4, Z11, if_true, if_false, decide_false, Z3, Z7, a9]; rfl) ?_)) ?_
                refine tri_cond rfl (fun a10 => ?_) (fun a10 => ?_)
                ·
                  simp only [decide_eq_true_eq] at a10
                  refine seq_run ok0 rfl (by repeat (first | with_reducible exact runf_nil | refine runf_cons (by simp only [xstep, stepf, stepx, qev, St.ev, St.put, St.with, D.cells, C.st, C.dat, putCells, constD, constC, Z1, Z2, Z5, Z6, Z9, Z10, Z23, Z12, Z15, Z16, Z18, Z17, Z20, Z19, Z21, Z8, Z4, Nat.reduceAdd, Nat.reduceMul, if_true, and_self, decide_true, Z3, ne_eq, not_false_eq_true, reduceCtorEq, Nat.reduceLeDiff, Nat.le_refl, Z14, Z26, buildSliceA, partsA, fillA, reps, chop, a10, tk27, tz3, tsz3]; rfl) ?_)) ?_
                  refine tri_ret (ends_ret (by simp only [outRes, resDs, resD, outD, outC, Z1, Z2, Z9, Z10, Z4, Nat.reduceAdd, if_true, and_self, Z3, ne_eq, not_false_eq_true, reduceCtorEq, Z14]; rfl) rfl (by simp) (by simp) ?_)
                  (simp only [reduceIte, ↓reduceIte, Int.reduceEq, argsK, argsE, ints, Z24, Z13, a10] at hQ; with_reducible exact hQ)
                ·
                  simp only [decide_eq_false_iff_not] at a10
                  refine seq_run ok0 rfl (by repeat (first | with_reducible exact runf_nil | refine runf_cons (by simp only [xstep, stepf, stepx, qev, St.ev, St.put, qint, qshift, isShift, qbin, constD, constC, Z1, Z2, Z5, Z6, Z4, Z11, if_true, if_false, decide_false, Z3, Z7, a10]; rfl) ?_)) ?_
                  refine tri_cond rfl (fun a11 => ?_) (fun a11 => ?_)
                  ·
                    simp only [decide_eq_true_eq] at a11
                    refine seq_run ok0 rfl (by repeat (first | with_reducible exact runf_nil | refine runf_cons (by simp only [xstep, stepf, stepx, qev, St.ev, St.put, St.with, D.cells, C.st, C.dat, putCells, constD, constC, Z1, Z2, Z5, Z6, Z9, Z10, Z23, Z12, Z15, Z16, Z18, Z17, Z20, Z19, Z21, Z8, Z4, Nat.reduceAdd, Nat.reduceMul, if_true, and_self, decide_true, Z3, ne_eq, not_false_eq_true, reduceCtorEq, Nat.reduceLeDiff, Nat.le_refl, Z14, Z26, buildSliceA, partsA, fillA, reps, chop, a11, tk27, tz3, tsz3]; rfl) ?_)) ?_
                    refine tri_ret (ends_ret (by simp only [outRes, resDs, resD, outD, outC, Z1, Z2, Z9, Z10, Z4, Nat.reduceAdd, if_true, and_self, Z3, ne_eq, not_false_eq_true, reduceCtorEq, Z14]; rfl) rfl (by simp) (by simp) ?_)
                    (simp only [reduceIte, ↓reduceIte, Int.reduceEq, argsK, argsE, ints, Z24, Z13, a11] at hQ; with_reducible exact hQ)
                  ·
                    simp only [decide_eq_false_iff_not] at a11
                    refine seq_run ok0 rfl (by repeat (first | with_reducible exact runf_nil | refine runf_cons (by simp only [xstep, stepf, stepx, qev, St.ev, St.put, qint, qshift, isShift, qbin, constD, constC, Z1, Z2, Z5, Z6, Z4, Z11, if_true, if_false, decide_false, Z3, Z7, a11]; rfl) ?_)) ?_
                    refine tri_cond rfl (fun a12 => ?_) (fun a12 => ?_)
                    ·
                      simp only [decide_eq_true_eq] at a12
                      refine seq_run ok0 rfl (by repeat (first | with_reducible exact runf_nil | refine runf_cons (by simp only [xstep, stepf, stepx, qev, St.ev, St.put, St.with, D.cells, C.st, C.dat, putCells, constD, constC, Z1, Z2, Z5, Z6, Z9, Z10, Z23, Z12, Z15, Z16, Z18, Z17, Z20, Z19, Z21, Z8, Z4, Nat.reduceAdd, Nat.reduceMul, if_true, and_self, decide_true, Z3, ne_eq, not_false_eq_true, reduceCtorEq, Nat.reduceLeDiff, Nat.le_refl, Z14, Z26, buildSliceA, partsA, fillA, reps, chop, a12, tk27, tz3, tsz3]; rfl) ?_)) ?_
                      refine tri_ret (ends_ret (by simp only [outRes, resDs, resD, outD, outC, Z1, Z2, Z9, Z10, Z4, Nat.reduceAdd, if_true, and_self, Z3, ne_eq, not_false_eq_true, reduceCtorEq, Z14]; rfl) rfl (by simp) (by simp) ?_)
                      (simp only [reduceIte, ↓reduceIte, Int.reduceEq, argsK, argsE, ints, Z24, Z13, a12] at hQ; with_reducible exact hQ)
                    ·
                      simp only [decide_eq_false_iff_not] at a12
                      refine seq_run ok0 rfl (by repeat (first | with_reducible exact runf_nil | refine runf_cons (by simp only [xstep, stepf, stepx, qev, St.ev, St.put, qint, qshift, isShift, qbin, constD, constC, Z1, Z2, Z5, Z6, Z4, Z11, if_true, if_false, decide_false, Z3, Z7, a12]; rfl) ?_)) ?_
                      refine tri_cond rfl (fun a13 => ?_) (fun a13 => ?_)
                      ·
                        simp only [decide_eq_true_eq] at a13
                        refine seq_run ok0 rfl (by repeat (first | with_reducible exact runf_nil | refine runf_cons (by simp only [xstep, stepf, stepx, qev, St.ev, St.put, St.with, D.cells, C.st, C.dat, putCells, constD, constC, Z1, Z2, Z5, Z6, Z9, Z10, Z23, Z12, Z15, Z16, Z18, Z17, Z20, Z19, Z21, Z8, Z4, Nat.reduceAdd, Nat.reduceMul, if_true, and_self, decide_true, Z3, ne_eq, not_false_eq_true, reduceCtorEq, Nat.reduceLeDiff, Nat.le_refl, Z14, Z26, buildSliceA, partsA, fillA, reps, chop, a13, tk27, tz3, tsz3]; rfl) ?_)) ?_
                        refine tri_ret (ends_ret (by simp only [outRes, resDs, resD, outD, outC, Z1, Z2, Z9, Z10, Z4, Nat.reduceAdd, if_true, and_self, Z3, ne_eq, not_false_eq_true, reduceCtorEq, Z14]; rfl) rfl (by simp) (by simp) ?_)
                        (simp only [reduceIte, ↓reduceIte, Int.reduceEq, argsK, argsE, ints, Z24, Z13, a13] at hQ; with_reducible exact hQ)
                      ·
                        simp only [decide_eq_false_iff_not] at a13
                        refine tri_skip ?_
                        show Tri _ _ _ _
                        refine seq_run ok0 rfl (by repeat (first | with_reducible exact runf_nil | refine runf_cons (by simp only [xstep, stepf, stepx, qev, St.ev, St.put, constD, constC, Z5, Z6, Z4, decide_false, Z3, a13]; rfl) ?_)) ?_
                        refine tri_ret (ends_ret (by simp only [outRes, resDs, resD, outD, outC, C.dat, Z1, Z2, Z4, if_true, Z3]; rfl) rfl (by simp) (by simp) ?_)
                        (simp only [reduceIte, ↓reduceIte, argsK, argsE, ints, Z13, a0, a1, a3, a4, a6, a8, a9, a10, a11, a12, a13] at hQ; with_reducible exact hQ)
theorem ints_cp (l : List Int) : ((ints l).all fun row => row.all C.cp) = true := by
  rw [List.all_eq_true]
  intro row h
  obtain ⟨x, _, rfl⟩ := List.mem_map.1 h
  rfl
noncomputable def pArgsZ : List D → Option D := fun a => (pArgsA a).map D.frz
theorem meets44Z : Meets Try.prog 44 (pureS pArgsZ) := meets_frzP meets44A
theorem args_at (k : Int) : pArgsZ [.c (.v (.int .i64 k))] = some (.c (.s false (argsE k) (ints (argsK k)))) := by
  have h : pArgsA [.c (.v (.int .i64 k))] = some (.c (.s true (argsE k) (ints (argsK k)))) := famP_at (by
    intro a b h
    simp only [List.cons.injEq, D.c.injEq, C.v.injEq, Value.int.injEq, and_true, true_and] at h
    subst h; rfl) k trivial rfl
  unfold pArgsZ
  rw [h, Option.map_some]
  unfold D.frz
  simp only [if_pos (ints_cp _)]

noncomputable def oNamesZ : List D → List Obj → Option (D × List Obj) := fun a o => (oNames a o).map fun r => (r.1.frz, r.2)
theorem meets79Z : Meets Try.prog 79 (detS oNamesZ) := meets_frzO meets79
theorem names_at {l : List Tok} (i : Nat) (e bad : Int) (h : okPre l i e) : oNamesZ [.c (.p 0 0 0)] [⟨4, [[.s false 3 (l.map tokC), .v (.int .i64 i), .v (.int .i64 e), .v (.int .i64 bad)]]⟩] =
    some (.c (.s false 1 ((namesF l i e bad).1.map strC)), [⟨4, [[.s false 3 (l.map tokC), .v (.int .i64 (namesF l i e bad).2.1), .v (.int .i64 e), .v (.int .i64 (namesF l i e bad).2.2)]]⟩]) := by
  have h1 : oNames [.c (.p 0 0 0)] [⟨4, [[.s false 3 (l.map tokC), .v (.int .i64 i), .v (.int .i64 e), .v (.int .i64 bad)]]⟩] =
    some (.c (.s true 1 ((namesF l i e bad).1.map strC)), [⟨4, [[.s false 3 (l.map tokC), .v (.int .i64 (namesF l i e bad).2.1), .v (.int .i64 e), .v (.int .i64 (namesF l i e bad).2.2)]]⟩]) :=
    famO_at (fun x y h => pa_inj4 x y h) (l, i, e, bad) ⟨h.1, h.2.2⟩ rfl
  unfold oNamesZ
  rw [h1, Option.map_some]
  unfold D.frz
  simp only [if_pos (str_cp _)]
noncomputable def oPaperZ : List D → List Obj → Option (D × List Obj) := fun a o => (oPaper0 a o).map fun r => (r.1.frzA, r.2)
theorem meets81Z : Meets Try.prog 81 (detS oPaperZ) := meets_frzAO meets81
theorem paper_at {l : List Tok} (i : Nat) (e bad : Int) (h : okPre l i e) : oPaperZ [.c (.p 0 0 0)] [⟨4, [[.s false 3 (l.map tokC), .v (.int .i64 i), .v (.int .i64 e), .v (.int .i64 bad)]]⟩] =
    some (.agg [.v (.string (paperF l i e bad).1.1), .v (.int .i64 (paperF l i e bad).1.2.1), .s false 6 ((paperF l i e bad).1.2.2.map fldC)], [⟨4, [[.s false 3 (l.map tokC), .v (.int .i64 (paperF l i e bad).2.1), .v (.int .i64 e), .v (.int .i64 (paperF l i e bad).2.2)]]⟩]) := by
  have h1 : oPaper0 [.c (.p 0 0 0)] [⟨4, [[.s false 3 (l.map tokC), .v (.int .i64 i), .v (.int .i64 e), .v (.int .i64 bad)]]⟩] =
    some (.agg (papC true (paperF l i e bad).1), [⟨4, [[.s false 3 (l.map tokC), .v (.int .i64 (paperF l i e bad).2.1), .v (.int .i64 e), .v (.int .i64 (paperF l i e bad).2.2)]]⟩]) :=
    famO_at (fun x y h => pa_inj4 x y h) (l, i, e, bad) h rfl
  unfold oPaperZ
  rw [h1, Option.map_some]
  unfold D.frzA papC
  simp only [Z24, Z13, C.frz, if_pos (fld_cp _)]

/-- What a step has, taken. -/
def argT (l : List Tok) (e : Int) (k : Int) (a : ActM) (i : Nat) (bad : Int) : ActM × Nat × Int :=
  if k = 0 then ({ a with id := (takeF l i e bad 2).1 }, (takeF l i e bad 2).2)
  else if k = 1 then ({ a with name := (takeF l i e bad 2).1 }, (takeF l i e bad 2).2)
  else if k = 2 then ({ a with names := some (namesF l i e bad).1 }, (namesF l i e bad).2)
  else if k = 3 then ({ a with n := (numT l i e bad).1 }, (numT l i e bad).2)
  else if k = 4 then ({ a with m := (numT l i e bad).1 }, (numT l i e bad).2)
  else if k = 5 then ({ a with keep := (countF l i e bad).1 }, (countF l i e bad).2)
  else if k = 6 then ({ a with tear := (numT l i e bad).1 }, (numT l i e bad).2)
  else if k = 7 then ({ a with draw := (takeF l i e bad 2).1 }, (takeF l i e bad 2).2)
  else if k = 8 then ({ a with pid := (paperF l i e bad).1.1, cls := (paperF l i e bad).1.2.1, flds := some (paperF l i e bad).1.2.2 }, (paperF l i e bad).2)
  else (a, i, bad)
theorem argT_in {l : List Tok} {e k : Int} {a : ActM} {i : Nat} {bad : Int} (h : okPre l i e) : i ≤ (argT l e k a i bad).2.1 ∧ (argT l e k a i bad).2.1 ≤ l.length := by
  have hi := h.1.2.1
  unfold argT
  split
  · exact ⟨takeF_ge .., takeF_le hi⟩
  split
  · exact ⟨takeF_ge .., takeF_le hi⟩
  split
  · exact namesF_in h
  split
  · exact ⟨numT_ge .., numT_le h⟩
  split
  · exact ⟨numT_ge .., numT_le h⟩
  split
  · exact countF_in hi
  split
  · exact ⟨numT_ge .., numT_le h⟩
  split
  · exact ⟨takeF_ge .., takeF_le hi⟩
  split
  · exact paperF_in h
  · exact ⟨Nat.le_refl i, hi⟩

noncomputable def FsA1 : Fs := { pure := fun _ => none, objs := fun k => if k = 68 then some oTakeP else if k = 79 then some oNamesZ else if k = 63 then some oNumber else if k = 80 then some oCount else if k = 81 then some oPaperZ else none }
theorem okA1 : FsOK Try.prog FsA1 := by
  refine ⟨fun k f h => ?_, fun k f h => ?_⟩
  · cases h
  · simp only [FsA1] at h
    split at h
    · rename_i hk; subst hk; cases h; exact ⟨by kernel_rfl, meets68⟩
    split at h
    · rename_i hk; subst hk; cases h; exact ⟨by kernel_rfl, meets79Z⟩
    split at h
    · rename_i hk; subst hk; cases h; exact ⟨by kernel_rfl, meets63⟩
    split at h
    · rename_i hk; subst hk; cases h; exact ⟨by kernel_rfl, meets80⟩
    split at h
    · rename_i hk; subst hk; cases h; exact ⟨by kernel_rfl, meets81Z⟩
    · cases h
noncomputable def oArgA := famO (fun x : (List Tok × Nat × Int × Int) × Int × ActM => okPre x.1.1 x.1.2.1 x.1.2.2.1) (fun x => ([.c (.p 0 0 0), .c (.p 1 0 0), .c (.v (.int .i64 x.2.1))], [paObj x.1.1 x.1.2.1 x.1.2.2.1 x.1.2.2.2, ⟨12, [actC true x.2.2]⟩]))
  (fun x => (.t [], [paObj x.1.1 (argT x.1.1 x.1.2.2.1 x.2.1 x.2.2 x.1.2.1 x.1.2.2.2).2.1 x.1.2.2.1 (argT x.1.1 x.1.2.2.1 x.2.1 x.2.2 x.1.2.1 x.1.2.2.2).2.2, ⟨12, [actC true (argT x.1.1 x.1.2.2.1 x.2.1 x.2.2 x.1.2.1 x.1.2.2.2).1]⟩]))
theorem meets69 : Meets Try.prog 69 (detS oArgA) := by
  refine meets_famO (show Try.prog.funcs[69]? = some Try.f69 by kernel_rfl) rfl (n := 70) rfl (rs := []) rfl ?_
  rintro ⟨⟨l, i, e, bad⟩, k, b⟩ hpre Q hQ
  dsimp only at hpre hQ
  simp only [paObj] at hQ
  have hl : l.length ≤ 1000000 := hpre.1.1
  have hi : i ≤ l.length := hpre.1.2.1
  have hT := take_at hl i e bad 2 hi
  have hN := num_at i e bad hpre
  have hS := names_at i e bad hpre
  have hC := count_at i e bad hpre.1
  have hP := paper_at i e bad hpre
  refine seq_run okA1 rfl (by repeat (first | with_reducible exact runf_nil | refine runf_cons (by simp only [xstep, stepf, stepx, qev, St.ev, St.put, Z1, Z2, Z5, Z6, List.replicate, Z9, Z10, Z23, Z12, Z13, Z24, Z4, Nat.reduceAdd, Nat.reduceSub, Z3, Z14, paObj, actC]; rfl) ?_)) ?_
  refine tri_block ?_
  refine seq_run okA1 rfl (by repeat (first | with_reducible exact runf_nil | refine runf_cons (by simp only [xstep, stepf, stepx, qev, St.ev, St.put, qint, qshift, isShift, qbin, constD, constC, Z1, Z2, Z5, Z6, Z4, Z11, if_true, if_false, Z3, Z7]; rfl) ?_)) ?_
  refine tri_cond rfl (fun a0 => ?_) (fun a0 => ?_)
  ·
    simp only [decide_eq_true_eq] at a0
    refine run_end okA1 rfl (by repeat (first | with_reducible exact runf_nil | refine runf_cons (by simp only [xstep, stepf, stepx, evsA, qev, St.ev, St.put, St.with, D.cells, D.cell, C.cpy, qnil, qfieldAddr, liveR, C.st, C.cp, C.dat, storeA, putCells, constD, constC, Z1, Z2, Z5, Z6, Z9, Z10, Z23, Z12, Z15, Z13, Z16, Z18, Z17, Z20, Z19, Z21, Z8, Z4, Bool.and_true, Nat.reduceAdd, Nat.reduceEqDiff, if_true, if_false, and_self, decide_true, Z3, ne_eq, not_false_eq_true, reduceCtorEq, Nat.reduceLeDiff, Z7, implies_true, Z14, beq_self_eq_true, Z26, Bool.true_or, callP, callO, dedup, rootsD, rootsC, List.flatMap_cons, List.flatMap_nil, List.filterMap_cons, List.filterMap_nil, argDs, argD, argC, List.contains_nil, objsAt, objOf, List.idxOf?, List.findIdx?, List.findIdx?.go, setObjs, settle, settle1, settleC, Z25, FsA1, hT, tk50, a0, tsz9]; rfl) ?_)) ?_
    refine ends_norm rfl rfl .nil (by simp) ?_
    simp only [Z12, Z23]
    (simp only [reduceIte, ↓reduceIte, argT, actC, a0] at hQ; with_reducible exact hQ)
  ·
    simp only [decide_eq_false_iff_not] at a0
    refine seq_run okA1 rfl (by repeat (first | with_reducible exact runf_nil | refine runf_cons (by simp only [xstep, stepf, stepx, qev, St.ev, St.put, qint, qshift, isShift, qbin, constD, constC, Z1, Z2, Z5, Z6, Z4, Z11, if_true, if_false, decide_false, Z3, Z7, a0]; rfl) ?_)) ?_
    refine tri_cond rfl (fun a1 => ?_) (fun a1 => ?_)
    ·
      simp only [decide_eq_true_eq] at a1
      refine run_end okA1 rfl (by repeat (first | with_reducible exact runf_nil | refine runf_cons (by simp only [xstep, stepf, stepx, evsA, qev, St.ev, St.put, St.with, D.cells, D.cell, C.cpy, qnil, qfieldAddr, liveR, C.st, C.cp, C.dat, storeA, putCells, constD, constC, Z1, Z2, Z5, Z6, Z9, Z10, Z23, Z12, Z15, Z13, Z16, Z18, Z17, Z20, Z19, Z21, Z8, Z4, Bool.and_true, Nat.reduceAdd, Nat.reduceEqDiff, if_true, if_false, and_self, decide_true, Z3, ne_eq, not_false_eq_true, reduceCtorEq, Nat.reduceLeDiff, Z7, implies_true, Z14, beq_self_eq_true, Z26, Bool.true_or, callP, callO, dedup, rootsD, rootsC, List.flatMap_cons, List.flatMap_nil, List.filterMap_cons, List.filterMap_nil, argDs, argD, argC, List.contains_nil, objsAt, objOf, List.idxOf?, List.findIdx?, List.findIdx?.go, setObjs, settle, settle1, settleC, Z25, FsA1, hT, tk50, a1, tsz9]; rfl) ?_)) ?_
      refine ends_norm rfl rfl .nil (by simp) ?_
      simp only [Z12, Z23]
      (simp only [reduceIte, ↓reduceIte, Int.reduceEq, argT, actC, a1] at hQ; with_reducible exact hQ)
    ·
      simp only [decide_eq_false_iff_not] at a1
      refine seq_run okA1 rfl (by repeat (first | with_reducible exact runf_nil | refine runf_cons (by simp only [xstep, stepf, stepx, qev, St.ev, St.put, qint, qshift, isShift, qbin, constD, constC, Z1, Z2, Z5, Z6, Z4, Z11, if_true, if_false, decide_false, Z3, Z7, a1]; rfl) ?_)) ?_
      refine tri_cond rfl (fun a2 => ?_) (fun a2 => ?_)
      ·
        simp only [decide_eq_true_eq] at a2
        refine run_end okA1 rfl (by repeat (first | with_reducible exact runf_nil | refine runf_cons (by simp only [xstep, stepf, stepx, evsA, qev, St.ev, St.put, St.with, D.cells, D.cell, qnil, qfieldAddr, liveR, C.st, C.dat, storeA, putCells, Z1, Z2, Z5, Z6, Z9, Z10, Z23, Z12, Z15, Z13, Z16, Z18, Z17, Z20, Z19, Z21, Z8, Z4, Bool.and_true, Nat.reduceAdd, Nat.reduceEqDiff, if_true, if_false, and_self, decide_true, Z3, ne_eq, not_false_eq_true, reduceCtorEq, Nat.reduceLeDiff, Z7, implies_true, Z14, beq_self_eq_true, Z26, Bool.true_or, callP, callO, dedup, rootsD, rootsC, List.flatMap_cons, List.flatMap_nil, List.filterMap_cons, List.filterMap_nil, argDs, argD, argC, List.contains_nil, objsAt, objOf, List.idxOf?, List.findIdx?, List.findIdx?.go, setObjs, settle, settle1, settleC, Z25, FsA1, hS, tk50, a2, tsz28]; rfl) ?_)) ?_
        refine ends_norm rfl rfl .nil (by simp) ?_
        simp only [Z12, Z23]
        (simp only [reduceIte, ↓reduceIte, Int.reduceEq, argT, actC, names_some, a2] at hQ; with_reducible exact hQ)
      ·
        simp only [decide_eq_false_iff_not] at a2
        refine seq_run okA1 rfl (by repeat (first | with_reducible exact runf_nil | refine runf_cons (by simp only [xstep, stepf, stepx, qev, St.ev, St.put, qint, qshift, isShift, qbin, constD, constC, Z1, Z2, Z5, Z6, Z4, Z11, if_true, if_false, decide_false, Z3, Z7, a2]; rfl) ?_)) ?_
        refine tri_cond rfl (fun a3 => ?_) (fun a3 => ?_)
        ·
          simp only [decide_eq_true_eq] at a3
          refine run_end okA1 rfl (by repeat (first | with_reducible exact runf_nil | refine runf_cons (by simp only [xstep, stepf, stepx, evsA, qev, St.ev, St.put, St.with, D.cells, D.cell, qnil, qfieldAddr, liveR, C.st, C.dat, storeA, putCells, Z1, Z2, Z5, Z6, Z9, Z10, Z23, Z12, Z15, Z13, Z16, Z18, Z17, Z20, Z19, Z21, Z8, Z4, Bool.and_true, Nat.reduceAdd, Nat.reduceEqDiff, if_true, if_false, and_self, decide_true, Z3, ne_eq, not_false_eq_true, reduceCtorEq, Nat.reduceLeDiff, Z7, implies_true, Z14, beq_self_eq_true, Z26, Bool.true_or, callP, callO, dedup, rootsD, rootsC, List.flatMap_cons, List.flatMap_nil, List.filterMap_cons, List.filterMap_nil, argDs, argD, argC, List.contains_nil, objsAt, objOf, List.idxOf?, List.findIdx?, List.findIdx?.go, setObjs, settle, settle1, settleC, Z25, FsA1, hN, tk50, a3, tsz3]; rfl) ?_)) ?_
          refine ends_norm rfl rfl .nil (by simp) ?_
          simp only [Z12, Z23]
          (simp only [reduceIte, ↓reduceIte, Int.reduceEq, argT, actC, a3] at hQ; with_reducible exact hQ)
        ·
          simp only [decide_eq_false_iff_not] at a3
          refine seq_run okA1 rfl (by repeat (first | with_reducible exact runf_nil | refine runf_cons (by simp only [xstep, stepf, stepx, qev, St.ev, St.put, qint, qshift, isShift, qbin, constD, constC, Z1, Z2, Z5, Z6, Z4, Z11, if_true, if_false, decide_false, Z3, Z7, a3]; rfl) ?_)) ?_
          refine tri_cond rfl (fun a4 => ?_) (fun a4 => ?_)
          ·
            simp only [decide_eq_true_eq] at a4
            refine run_end okA1 rfl (by repeat (first | with_reducible exact runf_nil | refine runf_cons (by simp only [xstep, stepf, stepx, evsA, qev, St.ev, St.put, St.with, D.cells, D.cell, qnil, qfieldAddr, liveR, C.st, C.dat, storeA, putCells, Z1, Z2, Z5, Z6, Z9, Z10, Z23, Z12, Z15, Z13, Z16, Z18, Z17, Z20, Z19, Z21, Z8, Z4, Bool.and_true, Nat.reduceAdd, Nat.reduceEqDiff, if_true, if_false, and_self, decide_true, Z3, ne_eq, not_false_eq_true, reduceCtorEq, Nat.reduceLeDiff, Z7, implies_true, Z14, beq_self_eq_true, Z26, Bool.true_or, callP, callO, dedup, rootsD, rootsC, List.flatMap_cons, List.flatMap_nil, List.filterMap_cons, List.filterMap_nil, argDs, argD, argC, List.contains_nil, objsAt, objOf, List.idxOf?, List.findIdx?, List.findIdx?.go, setObjs, settle, settle1, settleC, Z25, FsA1, hN, tk50, a4, tsz3]; rfl) ?_)) ?_
            refine ends_norm rfl rfl .nil (by simp) ?_
            simp only [Z12, Z23]
            (simp only [reduceIte, ↓reduceIte, Int.reduceEq, argT, actC, a4] at hQ; with_reducible exact hQ)
          ·
            simp only [decide_eq_false_iff_not] at a4
            refine seq_run okA1 rfl (by repeat (first | with_reducible exact runf_nil | refine runf_cons (by simp only [xstep, stepf, stepx, qev, St.ev, St.put, qint, qshift, isShift, qbin, constD, constC, Z1, Z2, Z5, Z6, Z4, Z11, if_true, if_false, decide_false, Z3, Z7, a4]; rfl) ?_)) ?_
            refine tri_cond rfl (fun a5 => ?_) (fun a5 => ?_)
            ·
              simp only [decide_eq_true_eq] at a5
              refine run_end okA1 rfl (by repeat (first | with_reducible exact runf_nil | refine runf_cons (by simp only [xstep, stepf, stepx, evsA, qev, St.ev, St.put, St.with, D.cells, D.cell, qnil, qfieldAddr, liveR, C.st, C.dat, storeA, putCells, Z1, Z2, Z5, Z6, Z9, Z10, Z23, Z12, Z15, Z13, Z16, Z18, Z17, Z20, Z19, Z21, Z8, Z4, Bool.and_true, Nat.reduceAdd, Nat.reduceEqDiff, if_true, if_false, and_self, decide_true, Z3, ne_eq, not_false_eq_true, reduceCtorEq, Nat.reduceLeDiff, Z7, implies_true, Z14, beq_self_eq_true, Z26, Bool.true_or, callP, callO, dedup, rootsD, rootsC, List.flatMap_cons, List.flatMap_nil, List.filterMap_cons, List.filterMap_nil, argDs, argD, argC, List.contains_nil, objsAt, objOf, List.idxOf?, List.findIdx?, List.findIdx?.go, setObjs, settle, settle1, settleC, Z25, FsA1, hC, tk50, a5, tsz37]; rfl) ?_)) ?_
              refine ends_norm rfl rfl .nil (by simp) ?_
              simp only [Z12, Z23]
              (simp only [reduceIte, ↓reduceIte, Int.reduceEq, argT, actC, a5] at hQ; with_reducible exact hQ)
            ·
              simp only [decide_eq_false_iff_not] at a5
              refine seq_run okA1 rfl (by repeat (first | with_reducible exact runf_nil | refine runf_cons (by simp only [xstep, stepf, stepx, qev, St.ev, St.put, qint, qshift, isShift, qbin, constD, constC, Z1, Z2, Z5, Z6, Z4, Z11, if_true, if_false, decide_false, Z3, Z7, a5]; rfl) ?_)) ?_
              refine tri_cond rfl (fun a6 => ?_) (fun a6 => ?_)
              ·
                simp only [decide_eq_true_eq] at a6
                refine run_end okA1 rfl (by repeat (first | with_reducible exact runf_nil | refine runf_cons (by simp only [xstep, stepf, stepx, evsA, qev, St.ev, St.put, St.with, D.cells, D.cell, qnil, qfieldAddr, liveR, C.st, C.dat, storeA, putCells, Z1, Z2, Z5, Z6, Z9, Z10, Z23, Z12, Z15, Z13, Z16, Z18, Z17, Z20, Z19, Z21, Z8, Z4, Bool.and_true, Nat.reduceAdd, Nat.reduceEqDiff, if_true, if_false, and_self, decide_true, Z3, ne_eq, not_false_eq_true, reduceCtorEq, Nat.le_refl, Z7, implies_true, Z14, beq_self_eq_true, Z26, Bool.true_or, callP, callO, dedup, rootsD, rootsC, List.flatMap_cons, List.flatMap_nil, List.filterMap_cons, List.filterMap_nil, argDs, argD, argC, List.contains_nil, objsAt, objOf, List.idxOf?, List.findIdx?, List.findIdx?.go, setObjs, settle, settle1, settleC, Z25, FsA1, hN, tk50, a6, tsz3]; rfl) ?_)) ?_
                refine ends_norm rfl rfl .nil (by simp) ?_
                simp only [Z12, Z23]
                (simp only [reduceIte, ↓reduceIte, Int.reduceEq, argT, actC, a6] at hQ; with_reducible exact hQ)
              ·
                simp only [decide_eq_false_iff_not] at a6
                refine seq_run okA1 rfl (by repeat (first | with_reducible exact runf_nil | refine runf_cons (by simp only [xstep, stepf, stepx, qev, St.ev, St.put, qint, qshift, isShift, qbin, constD, constC, Z1, Z2, Z5, Z6, Z4, Z11, if_true, if_false, decide_false, Z3, Z7, a6]; rfl) ?_)) ?_
                refine tri_cond rfl (fun a7 => ?_) (fun a7 => ?_)
                ·
                  simp only [decide_eq_true_eq] at a7
                  refine run_end okA1 rfl (by repeat (first | with_reducible exact runf_nil | refine runf_cons (by simp only [xstep, stepf, stepx, evsA, qev, St.ev, St.put, St.with, D.cells, D.cell, C.cpy, qnil, qfieldAddr, liveR, C.st, C.cp, C.dat, storeA, putCells, constD, constC, Z1, Z2, Z5, Z6, Z9, Z10, Z23, Z12, Z15, Z13, Z16, Z18, Z17, Z20, Z19, Z21, Z8, Z4, Bool.and_true, Nat.reduceAdd, Nat.reduceEqDiff, if_true, if_false, and_self, decide_true, Z3, ne_eq, not_false_eq_true, reduceCtorEq, Nat.reduceLeDiff, Z7, implies_true, Z14, beq_self_eq_true, Z26, Bool.true_or, callP, callO, dedup, rootsD, rootsC, List.flatMap_cons, List.flatMap_nil, List.filterMap_cons, List.filterMap_nil, argDs, argD, argC, List.contains_nil, objsAt, objOf, List.idxOf?, List.findIdx?, List.findIdx?.go, setObjs, settle, settle1, settleC, Z25, FsA1, hT, tk50, a7, tsz9]; rfl) ?_)) ?_
                  refine ends_norm rfl rfl .nil (by simp) ?_
                  simp only [Z12, Z23]
                  (simp only [reduceIte, ↓reduceIte, Int.reduceEq, argT, actC, a7] at hQ; with_reducible exact hQ)
                ·
                  simp only [decide_eq_false_iff_not] at a7
                  refine seq_run okA1 rfl (by repeat (first | with_reducible exact runf_nil | refine runf_cons (by simp only [xstep, stepf, stepx, qev, St.ev, St.put, qint, qshift, isShift, qbin, constD, constC, Z1, Z2, Z5, Z6, Z4, Z11, if_true, if_false, decide_false, Z3, Z7, a7]; rfl) ?_)) ?_
                  refine tri_cond rfl (fun a8 => ?_) (fun a8 => ?_)
                  ·
                    simp only [decide_eq_true_eq] at a8
                    refine run_end okA1 rfl (by repeat (first | with_reducible exact runf_nil | refine runf_cons (by simp only [xstep, stepf, stepx, evsA, qev, St.ev, St.put, St.with, D.cells, D.cell, qnil, qfieldAddr, liveR, C.st, C.dat, storeA, putCells, Z1, Z2, Z5, Z6, Z9, Z10, Z23, Z12, Z15, Z13, Z16, Z18, Z17, Z20, Z19, Z21, Z8, Z4, Bool.and_true, Nat.reduceAdd, Nat.reduceEqDiff, if_true, if_false, and_self, decide_true, Z3, ne_eq, not_false_eq_true, reduceCtorEq, Nat.reduceLeDiff, Z7, implies_true, Z14, beq_self_eq_true, Z26, Bool.true_or, callP, callO, dedup, rootsD, rootsC, List.flatMap_cons, List.flatMap_nil, List.filterMap_cons, List.filterMap_nil, argDs, argD, argC, List.contains_nil, objsAt, objOf, List.idxOf?, List.findIdx?, List.findIdx?.go, setObjs, settle, settle1, settleC, settleCs, Z25, FsA1, hP, tsz48, tk50, a8]; rfl) ?_)) ?_
                    refine ends_norm rfl rfl .nil (by simp) ?_
                    simp only [Z12, Z23]
                    (simp only [reduceIte, ↓reduceIte, Int.reduceEq, argT, actC, flds_some, a8] at hQ; with_reducible exact hQ)
                  ·
                    simp only [decide_eq_false_iff_not] at a8
                    refine tri_skip ?_
                    refine ends_norm rfl rfl .nil (by simp) ?_
                    simp only [Z12, Z23]
                    (simp only [reduceIte, ↓reduceIte, argT, actC, a0, a1, a2, a3, a4, a5, a6, a7, a8] at hQ; with_reducible exact hQ)
theorem arg_at {l : List Tok} (i : Nat) (e bad : Int) (k : Int) (a : ActM) (h : okPre l i e) : oArgA [.c (.p 0 0 0), .c (.p 1 0 0), .c (.v (.int .i64 k))] [⟨4, [[.s false 3 (l.map tokC), .v (.int .i64 i), .v (.int .i64 e), .v (.int .i64 bad)]]⟩, ⟨12, [actC true a]⟩] =
    some (.t [], [⟨4, [[.s false 3 (l.map tokC), .v (.int .i64 (argT l e k a i bad).2.1), .v (.int .i64 e), .v (.int .i64 (argT l e k a i bad).2.2)]]⟩, ⟨12, [actC true (argT l e k a i bad).1]⟩]) :=
  famO_at (fun x y h => by
    simp only [Prod.mk.injEq, List.cons.injEq, and_true, true_and, D.c.injEq, C.v.injEq, Value.int.injEq, Obj.mk.injEq] at h
    obtain ⟨⟨a, b, c, d⟩, k, z⟩ := x
    obtain ⟨⟨a', b', c', d'⟩, k', z'⟩ := y
    obtain ⟨h0, hp, ha⟩ := h
    obtain ⟨h1, h2, h3, h4⟩ := pa_inj hp
    have h5 := actC_inj ha
    dsimp only at h0 h1 h2 h3 h4 h5
    subst h0 h1 h2 h3 h4 h5; rfl) ((l, i, e, bad), k, a) h rfl
end Go.Dl

namespace Go.Dl
open Go.RowKit
open Go.Proofs
set_option linter.unusedSimpArgs false
set_option linter.unusedVariables false

/-- Which form a word is. -/
def formIx (w : ByteArray) : Nat → Nat → Option Nat
  | 0, _ => none
  | n + 1, k => if strEq (formB k) w = true then (if strEq (formB k) noText = true then formIx w n (k + 1) else some k) else formIx w n (k + 1)
def argsGo (l : List Tok) (e : Int) : List Int → ActM → Nat → Int → ActM × Nat × Int
  | [], a, i, bad => (a, i, bad)
  | x :: xs, a, i, bad => argsGo l e xs (argT l e x a i bad).1 (argT l e x a i bad).2.1 (argT l e x a i bad).2.2
theorem argsGo_in {l : List Tok} {e : Int} : ∀ (xs : List Int) (a : ActM) (i : Nat) (bad : Int), okPre l i e → i ≤ (argsGo l e xs a i bad).2.1 ∧ (argsGo l e xs a i bad).2.1 ≤ l.length
  | [], a, i, bad, h => ⟨Nat.le_refl i, h.1.2.1⟩
  | x :: xs, a, i, bad, h => by
    have h1 := argT_in (k := x) (a := a) (bad := bad) h
    have h2 := argsGo_in xs (argT l e x a i bad).1 (argT l e x a i bad).2.1 (argT l e x a i bad).2.2 (h.at h1.2)
    exact ⟨Nat.le_trans h1.1 h2.1, h2.2⟩
def semi : ByteArray := ⟨#[59]⟩
def stepW (l : List Tok) (i : Nat) (e bad : Int) : ByteArray × Nat × Int := takeF l i e bad 0
def stepA (l : List Tok) (i : Nat) (e bad : Int) (k : Nat) : ActM × Nat × Int := argsGo l e (argsK k) (act0 k) (stepW l i e bad).2.1 (stepW l i e bad).2.2
def stepF (l : List Tok) (i : Nat) (e bad : Int) : ActM × Nat × Int :=
  match formIx (stepW l i e bad).1 16 0 with
  | some k => ((stepA l i e bad k).1, markF l (stepA l i e bad k).2.1 e (stepA l i e bad k).2.2 semi)
  | none => (act0 0, i, failF l i e (stepW l i e bad).2.2)
theorem stepF_some {l : List Tok} {i : Nat} {e bad : Int} {k : Nat} {r : ActM × Nat × Int} (h : formIx (stepW l i e bad).1 16 0 = some k) (hr : stepA l i e bad k = r) : stepF l i e bad = (r.1, markF l r.2.1 e r.2.2 semi) := by
  unfold stepF; rw [h]; subst hr; rfl
theorem stepF_none {l : List Tok} {i : Nat} {e bad : Int} (h : formIx (stepW l i e bad).1 16 0 = none) : stepF l i e bad = (act0 0, i, failF l i e (stepW l i e bad).2.2) := by
  unfold stepF; rw [h]
theorem form_get {k : Nat} (h : k < 16) : formsC[k]? = some (.v (.string (formB k))) := by
  match k, h with
  | 0, _ => rfl
  | 1, _ => rfl
  | 2, _ => rfl
  | 3, _ => rfl
  | 4, _ => rfl
  | 5, _ => rfl
  | 6, _ => rfl
  | 7, _ => rfl
  | 8, _ => rfl
  | 9, _ => rfl
  | 10, _ => rfl
  | 11, _ => rfl
  | 12, _ => rfl
  | 13, _ => rfl
  | 14, _ => rfl
  | 15, _ => rfl
  | k + 16, h => exact absurd h (by omega)
theorem drop_at {α : Type} (d : α) {l : List α} {j : Nat} (h : j < l.length) : l.drop j = l.getD j d :: l.drop (j + 1) := by
  rw [List.drop_eq_getElem_cons h]
  congr 1
  simp [h]
theorem get_at {α : Type} (d : α) {l : List α} {j : Nat} (h : j < l.length) : l[j]? = some (l.getD j d) := by
  simp [h]
theorem argsE_one {k : Int} (h : 0 < (argsK k).length) : argsE k = 1 := by
  unfold argsK at h
  unfold argsE
  (repeat' split at h) <;> first | (simp [*]; done) | (exfalso; simp at h; done) | skip
theorem act_dat (a : ActM) : (actC true a).all C.dat = true := rfl
theorem act_take (z : Bool) (a : ActM) : (actC z a).take 12 = actC z a := rfl
theorem act_cpy (a : ActM) : (actC true a).map C.cpy = actC false a := by
  obtain ⟨a1, a2, a3, a4, a5, a6, a7, a8, a9, a10, a11, a12⟩ := a
  cases a4 <;> cases a7 <;> rfl
theorem act_cpy2 (a : ActM) : (actC false a).map C.cpy = actC false a := by
  obtain ⟨a1, a2, a3, a4, a5, a6, a7, a8, a9, a10, a11, a12⟩ := a
  cases a4 <;> cases a7 <;> rfl
theorem act_len (z : Bool) (a : ActM) : (actC z a).length = 12 := rfl
theorem act_cp (a : ActM) : (actC false a).all C.cp = true := by
  obtain ⟨a1, a2, a3, a4, a5, a6, a7, a8, a9, a10, a11, a12⟩ := a
  cases a4 <;> cases a7 <;> rfl
theorem act_st (H : List (Option Root)) (z : Bool) (a : ActM) : (actC z a).all (C.st H) = true := rfl
theorem act_out (H : List (Option Root)) (a : ActM) : outCs H (actC false a) = some (actC false a, []) := rfl

noncomputable def FsS1 : Fs := { pure := fun k => if k = 43 then some pForms else if k = 44 then some pArgsZ else none, objs := fun k => if k = 68 then some oTakeP else if k = 62 then some oFail else if k = 69 then some oArgA else if k = 70 then some oMark else none }
theorem okS1 : FsOK Try.prog FsS1 := by
  refine ⟨fun k f h => ?_, fun k f h => ?_⟩
  · simp only [FsS1] at h
    split at h
    · rename_i hk; subst hk; cases h; exact ⟨by kernel_rfl, meets43⟩
    split at h
    · rename_i hk; subst hk; cases h; exact ⟨by kernel_rfl, meets44Z⟩
    · cases h
  · simp only [FsS1] at h
    split at h
    · rename_i hk; subst hk; cases h; exact ⟨by kernel_rfl, meets68⟩
    split at h
    · rename_i hk; subst hk; cases h; exact ⟨by kernel_rfl, meets62⟩
    split at h
    · rename_i hk; subst hk; cases h; exact ⟨by kernel_rfl, meets69⟩
    split at h
    · rename_i hk; subst hk; cases h; exact ⟨by kernel_rfl, meets70⟩
    · cases h
noncomputable def oStep := famO (fun x : List Tok × Nat × Int × Int => okPre x.1 x.2.1 x.2.2.1) (fun x => ([.c (.p 0 0 0)], [paObj x.1 x.2.1 x.2.2.1 x.2.2.2]))
  (fun x => (.agg (actC false (stepF x.1 x.2.1 x.2.2.1 x.2.2.2).1), [paObj x.1 (stepF x.1 x.2.1 x.2.2.1 x.2.2.2).2.1 x.2.2.1 (stepF x.1 x.2.1 x.2.2.1 x.2.2.2).2.2]))
set_option maxHeartbeats 2000000 in
theorem meets47 : Meets Try.prog 47 (detS oStep) := by
  refine meets_famO (show Try.prog.funcs[47]? = some Try.f47 by kernel_rfl) rfl (n := 52) rfl (rs := [ResultVar.cell 2 50]) rfl ?_
  rintro ⟨l, i0, e, bad0⟩ hpre Q hQ
  dsimp only at hpre hQ
  simp only [paObj] at hQ
  have hl : l.length ≤ 1000000 := hpre.1.1
  have hi0 : i0 ≤ l.length := hpre.1.2.1
  have hT0 : oTakeP [.c (.p 0 0 0), .c (.v (.int .i64 0))] [⟨4, [[.s false 3 (l.map tokC), .v (.int .i64 i0), .v (.int .i64 e), .v (.int .i64 bad0)]]⟩] =
    some (.c (.v (.string (stepW l i0 e bad0).1)), [⟨4, [[.s false 3 (l.map tokC), .v (.int .i64 (stepW l i0 e bad0).2.1), .v (.int .i64 e), .v (.int .i64 (stepW l i0 e bad0).2.2)]]⟩]) := take_at hl i0 e bad0 0 hi0
  have hj0 : (stepW l i0 e bad0).2.1 ≤ l.length := takeF_le hi0
  have hF0 := fail_at hl i0 e (stepW l i0 e bad0).2.2 hi0
  obtain ⟨res, hres⟩ : ∃ res, formIx (stepW l i0 e bad0).1 16 0 = res := ⟨_, rfl⟩
  have hQs : ∀ k : Nat, some k = res → ∀ r, stepA l i0 e bad0 k = r → Q (.agg (actC false r.1)) [⟨4, [[.s false 3 (l.map tokC), .v (.int .i64 (markF l r.2.1 e r.2.2 semi).1), .v (.int .i64 e), .v (.int .i64 (markF l r.2.1 e r.2.2 semi).2)]]⟩] := by
    intro k hk r hr
    rw [stepF_some (hres.trans hk.symm) hr] at hQ
    exact hQ
  have hQn : none = res → Q (.agg (actC false (act0 0))) [⟨4, [[.s false 3 (l.map tokC), .v (.int .i64 i0), .v (.int .i64 e), .v (.int .i64 (failF l i0 e (stepW l i0 e bad0).2.2))]]⟩] := by
    intro hk
    rw [stepF_none (hres.trans hk.symm)] at hQ
    exact hQ
  clear hQ
  unfold stepA at hQs
  generalize (stepW l i0 e bad0).1 = w at hT0 hres
  generalize (stepW l i0 e bad0).2.1 = i1 at hT0 hQs hj0
  generalize (stepW l i0 e bad0).2.2 = bad1 at hT0 hQs hQn hF0
  refine seq_run okS1 rfl (by repeat (first | with_reducible exact runf_nil | refine runf_cons (by simp only [xstep, stepf, stepx, St.put, St.with, boxA, C.st, Z5, Z6, List.replicate, Z9, Z10, Z23, Z12, Z13, Z24, Z16, Z18, Z8, Z4, Nat.reduceAdd, Nat.reduceSub, if_true, Z3, Z14, Z26, paObj, tz50]; rfl) ?_)) ?_
  refine seq_run okS1 rfl (by repeat (first | with_reducible exact runf_nil | refine runf_cons (by simp only [xstep, stepf, stepx, qev, St.ev, St.put, qload, cellsAt, qmk, C.cpy, TK.agg, qnil, qfieldAddr, liveR, C.cp, Z1, Z2, Z5, Z6, Z9, Z10, Z13, Z24, Z16, Z18, Z17, Z20, Z19, Z21, Z8, Z4, if_true, if_false, and_self, Z3, reduceCtorEq, Z7, Z14, Z26, tk80, tsz3, tk3]; rfl) ?_)) ?_
  refine seq_run okS1 rfl (by repeat (first | with_reducible exact runf_nil | refine runf_cons (by simp only [xstep, stepf, stepx, evsA, qev, St.ev, St.put, St.with, D.cell, C.cpy, C.cp, C.dat, constD, constC, Z1, Z2, Z5, Z6, Z9, Z10, Z12, Z15, Z13, Z16, Z18, Z8, Z4, Bool.and_true, Nat.reduceEqDiff, if_true, if_false, and_self, Z3, Z7, Z14, beq_self_eq_true, Z26, Bool.true_or, callP, callO, dedup, rootsD, rootsC, List.flatMap_cons, List.flatMap_nil, List.filterMap_cons, List.filterMap_nil, argDs, argD, argC, List.contains_nil, objsAt, objOf, List.idxOf?, List.findIdx?, List.findIdx?.go, setObjs, settle, settle1, settleC, Z25, FsS1, hT0]; rfl) ?_)) ?_
  refine seq_in ?_
  refine seq_run okS1 rfl (by repeat (first | with_reducible exact runf_nil | refine runf_cons (by simp only [xstep, stepf, stepx, evsA, qev, St.ev, St.put, St.with, constD, constC, Z5, Z6, Z15, Z13, Z4, Nat.reduceEqDiff, if_true, if_false, Z3, Bool.true_or, callP, argDs, settle, settle1, Z25, FsS1, pForms]; rfl) ?_)) ?_
  refine tri_block ?_
  refine tri_loop_le (fun m A => ∃ (k : Nat), m + k = 16 ∧ formIx w m k = res ∧ A = ⟨[.c (.p 0 0 0), .top, .c (.p 1 0 0), .c (.v (.int .i64 i0)), .c (.v (.string w)), .top, .top, .top, .top, .top, .top, .top, .top, .top, .top, .top, .agg formsC, .c (.v (.int .i64 (k : Nat))), .top, .top, .top, .top, .top, .top, .top, .top, .top, .top, .top, .top, .top, .top, .top, .top, .top, .top, .top, .top, .top, .top, .top, .top, .top, .top, .top, .top, .top, .top, .top, .top, .top, .top], [some ⟨false, 4, [[.s false 3 (l.map tokC), .v (.int .i64 i1), .v (.int .i64 e), .v (.int .i64 bad1)]]⟩, some ⟨false, 12, [[.v (.int .i64 0), .v (.string ⟨#[]⟩), .v (.int .i64 0), .s true 0 [], .v (.string ⟨#[]⟩), .v (.string ⟨#[]⟩), .s true 0 [], .v (.string ⟨#[]⟩), .v (.int .i64 0), .v (.int .i64 0), .v (.int .u64 0), .v (.int .i64 0)]]⟩]⟩) 16 (B := ⟨[.c (.p 0 0 0), .top, .c (.p 1 0 0), .c (.v (.int .i64 i0)), .c (.v (.string w)), .top, .top, .top, .top, .top, .top, .top, .top, .top, .top, .top, .agg formsC, .c (.v (.int .i64 (0 : Nat))), .top, .top, .top, .top, .top, .top, .top, .top, .top, .top, .top, .top, .top, .top, .top, .top, .top, .top, .top, .top, .top, .top, .top, .top, .top, .top, .top, .top, .top, .top, .top, .top, .top, .top], [some ⟨false, 4, [[.s false 3 (l.map tokC), .v (.int .i64 i1), .v (.int .i64 e), .v (.int .i64 bad1)]]⟩, some ⟨false, 12, [[.v (.int .i64 0), .v (.string ⟨#[]⟩), .v (.int .i64 0), .s true 0 [], .v (.string ⟨#[]⟩), .v (.string ⟨#[]⟩), .s true 0 [], .v (.string ⟨#[]⟩), .v (.int .i64 0), .v (.int .i64 0), .v (.int .u64 0), .v (.int .i64 0)]]⟩]⟩) ⟨by repeat (first | exact .nil | refine .same ?_ | refine .top ?_), rfl⟩ ⟨0, rfl, hres, rfl⟩ ?_
  rintro m A ⟨k, hmk, hk, rfl⟩
  have hk16 : k ≤ 16 := by omega
  have hq1 : (k : Int) + 1 = ((k + 1 : Nat) : Int) := by omega
  have hfg : ((k : Nat) : Int) < 16 → formsC[k]? = some (.v (.string (formB k))) := fun h => form_get (by omega)
  have hm1 : ((k : Nat) : Int) < 16 → ∃ m2, m = m2 + 1 := fun h => ⟨m - 1, by omega⟩
  have hm0 : ¬ ((k : Nat) : Int) < 16 → m = 0 := (by intro h; omega)
  have hA := args_at (k : Int)
  have h16 : ((16 : Nat) : Int) = 16 := rfl
  obtain ⟨ar, har⟩ : ∃ ar, argsK (k : Int) = ar := ⟨_, rfl⟩
  obtain ⟨r, hr⟩ : ∃ r, argsGo l e (argsK (k : Int)) (act0 (k : Int)) i1 bad1 = r := ⟨_, rfl⟩
  have hQs1 := fun h => hQs k h r hr
  rw [har] at hA hr
  have hE1 : 0 < ar.length → argsE (k : Int) = 1 := fun h => argsE_one (by rw [har]; exact h)
  have harl : ar.length ≤ 3 := (by rw [← har]; unfold argsK; (repeat' split) <;> decide)
  have hlmi : (ints ar).length ≤ maxStr := (by unfold maxStr; rw [List.length_map]; omega)
  have hlma : ar.length ≤ maxStr := (by unfold maxStr; omega)
  refine seq_run okS1 rfl (by repeat (first | with_reducible exact runf_nil | refine runf_cons (by simp only [xstep, stepf, stepx, qev, St.ev, St.put, qint, qshift, isShift, qbin, constD, constC, Z1, Z2, Z5, Z6, Z4, Z11, if_true, if_false, Z3, Z7]; rfl) ?_)) ?_
  refine seq_in (tri_cond rfl (fun a0 => ?_) (fun a0 => ?_))
  ·
    simp only [decide_eq_true_eq] at a0
    refine then_skip ?_
    refine seq_in (tri_block ?_)
    refine seq_run okS1 rfl (by repeat (first | with_reducible exact runf_nil | refine runf_cons (by simp only [xstep, stepf, stepx, qev, St.ev, St.put, D.int, TK.agg, qpart, qindex, Z1, Z2, Z5, Z6, Z8, Z4, if_true, if_false, and_self, decide_true, Z3, ne_eq, not_false_eq_true, reduceCtorEq, Z7, tk84, Int.toNat_natCast, Int.natCast_nonneg, h16, hfg, Nat.mul_one, tk9, tsz9, a0]; rfl) ?_)) ?_
    refine seq_in ?_
    by_cases a1 : ((strEq (formB k) w) = true)
    ·
      refine seq_run okS1 rfl (by repeat (first | with_reducible exact runf_nil | refine runf_cons (by simp only [xstep, stepf, stepx, qev, St.ev, St.put, qpick, qstr, qbin, constD, constC, Z1, Z2, Z5, Z6, Z8, Z4, if_true, Bool.not_true, cond_false, Z22, Z3, a1]; rfl) ?_)) ?_
      refine tri_cond rfl (fun a2 => ?_) (fun a2 => ?_)
      ·
        refine tri_exit ?_
        show Tri _ _ _ _
        refine run_end okS1 rfl (by repeat (first | with_reducible exact runf_nil | refine runf_cons (by simp only [xstep, stepf, stepx, qev, St.ev, St.put, qint, qshift, isShift, qbin, constD, constC, Z1, Z2, Z5, Z6, Z4, Z11, if_true, if_false, Z3, Z7, hq1, a2, show IntKind.i64.wrap (↑(k + 1) : Int) = _ from wrap_i64 _ (by omega) (by omega)]; rfl) ?_)) ?_
        simp only []
        (obtain ⟨m3, rfl⟩ := hm1 (by omega); simp only [formIx, reduceIte, ↓reduceIte, noText, a1, a2] at hk; exact ⟨m3, by omega, ⟨[.c (.p 0 0 0), .top, .c (.p 1 0 0), .c (.v (.int .i64 i0)), .c (.v (.string w)), .top, .top, .top, .top, .top, .top, .top, .top, .top, .top, .top, .agg formsC, .c (.v (.int .i64 (k + 1 : Nat))), .top, .top, .top, .top, .top, .top, .top, .top, .top, .top, .top, .top, .top, .top, .top, .top, .top, .top, .top, .top, .top, .top, .top, .top, .top, .top, .top, .top, .top, .top, .top, .top, .top, .top], [some ⟨false, 4, [[.s false 3 (l.map tokC), .v (.int .i64 i1), .v (.int .i64 e), .v (.int .i64 bad1)]]⟩, some ⟨false, 12, [[.v (.int .i64 0), .v (.string ⟨#[]⟩), .v (.int .i64 0), .s true 0 [], .v (.string ⟨#[]⟩), .v (.string ⟨#[]⟩), .s true 0 [], .v (.string ⟨#[]⟩), .v (.int .i64 0), .v (.int .i64 0), .v (.int .u64 0), .v (.int .i64 0)]]⟩]⟩, ⟨by repeat (first | exact .nil | refine .same ?_ | refine .top ?_), rfl⟩, k + 1, by omega, hk, rfl⟩)
      ·
        refine then_skip ?_
        refine seq_run okS1 rfl (by repeat (first | with_reducible exact runf_nil | refine runf_cons (by simp only [xstep, stepf, stepx, qev, St.ev, St.put, St.with, D.cells, boxA, C.st, C.dat, storeA, putCells, Z1, Z2, Z5, Z6, Z9, Z10, Z23, Z12, Z15, Z16, Z18, Z20, Z19, Z21, Z8, Z4, Nat.reduceAdd, if_true, and_self, Z3, ne_eq, not_false_eq_true, reduceCtorEq, Nat.reduceLeDiff, Nat.le_refl, Nat.reduceBNe, Z7, implies_true, Z14, Z26, buildA, partsA, fillA, placeSt, tk50, tsz50, tz50, tsz9, tsz3, a2, tsz48, tsz28, tsz37]; rfl) ?_)) ?_
        refine seq_in ?_
        refine seq_run okS1 rfl (by repeat (first | with_reducible exact runf_nil | refine runf_cons (by simp only [xstep, stepf, stepx, evsA, qev, St.ev, St.put, St.with, C.cpy, qlen, qbuiltin, C.cp, C.dat, constD, constC, Z1, Z2, Z5, Z6, Z15, Z13, Z8, Z4, Nat.reduceEqDiff, if_true, if_false, Z3, Z26, Bool.true_or, callP, argDs, argD, argC, settle, settle1, settleC, Z25, FsS1, hlma, List.length_map, hA, tk27]; rfl) ?_)) ?_
        refine tri_block ?_
        refine tri_loop_le (fun m2 A => ∃ (j i : Nat) (bad : Int) (a : ActM), m2 + j = ar.length ∧ i ≤ l.length ∧ argsGo l e (ar.drop j) a i bad = r ∧ A = ⟨[.c (.p 0 0 0), .top, .c (.p 1 0 0), .c (.v (.int .i64 i0)), .c (.v (.string w)), .top, .top, .c (.p 2 0 0), .top, .top, .top, .top, .top, .top, .top, .top, .top, .top, .top, .top, .top, .top, .top, .top, .top, .top, .top, .top, .top, .top, .top, .c (.s false (argsE (k : Int)) (ints ar)), .c (.v (.int .i64 (ar.length : Nat))), .c (.v (.int .i64 (j : Nat))), .top, .top, .top, .top, .top, .top, .top, .top, .top, .top, .top, .top, .top, .top, .top, .top, .top, .top], [some ⟨false, 4, [[.s false 3 (l.map tokC), .v (.int .i64 i), .v (.int .i64 e), .v (.int .i64 bad)]]⟩, some ⟨false, 12, [[.v (.int .i64 0), .v (.string ⟨#[]⟩), .v (.int .i64 0), .s true 0 [], .v (.string ⟨#[]⟩), .v (.string ⟨#[]⟩), .s true 0 [], .v (.string ⟨#[]⟩), .v (.int .i64 0), .v (.int .i64 0), .v (.int .u64 0), .v (.int .i64 0)]]⟩, some ⟨false, 12, [actC true a]⟩]⟩) ar.length (B := ⟨[.c (.p 0 0 0), .top, .c (.p 1 0 0), .c (.v (.int .i64 i0)), .c (.v (.string w)), .top, .top, .c (.p 2 0 0), .top, .top, .top, .top, .top, .top, .top, .top, .top, .top, .top, .top, .top, .top, .top, .top, .top, .top, .top, .top, .top, .top, .top, .c (.s false (argsE (k : Int)) (ints ar)), .c (.v (.int .i64 (ar.length : Nat))), .c (.v (.int .i64 (0 : Nat))), .top, .top, .top, .top, .top, .top, .top, .top, .top, .top, .top, .top, .top, .top, .top, .top, .top, .top], [some ⟨false, 4, [[.s false 3 (l.map tokC), .v (.int .i64 i1), .v (.int .i64 e), .v (.int .i64 bad1)]]⟩, some ⟨false, 12, [[.v (.int .i64 0), .v (.string ⟨#[]⟩), .v (.int .i64 0), .s true 0 [], .v (.string ⟨#[]⟩), .v (.string ⟨#[]⟩), .s true 0 [], .v (.string ⟨#[]⟩), .v (.int .i64 0), .v (.int .i64 0), .v (.int .u64 0), .v (.int .i64 0)]]⟩, some ⟨false, 12, [actC true (act0 (k : Int))]⟩]⟩) ⟨by repeat (first | exact .nil | refine .same ?_ | refine .top ?_), rfl⟩ ⟨0, i1, bad1, act0 (k : Int), rfl, hj0, hr, rfl⟩ ?_
        rintro m2 A ⟨j, i, bad, a, hm2, hi, hg, rfl⟩
        have hq2 : (j : Int) + 1 = ((j + 1 : Nat) : Int) := by omega
        have hlm : ar.length ≤ maxStr := (by unfold maxStr; omega)
        have hga : ((j : Nat) : Int) < ((ar.length : Nat) : Int) → ar[j]? = some (ar.getD j 0) := fun h => get_at 0 (by omega)
        have hdr : ((j : Nat) : Int) < ((ar.length : Nat) : Int) → ar.drop j = ar.getD j 0 :: ar.drop (j + 1) := fun h => drop_at 0 (by omega)
        have hde : ¬ ((j : Nat) : Int) < ((ar.length : Nat) : Int) → ar.drop j = [] := fun h => List.drop_eq_nil_of_le (by omega)
        have hE : ((j : Nat) : Int) < ((ar.length : Nat) : Int) → argsE (k : Int) = 1 := fun h => hE1 (by omega)
        have hAr := arg_at i e bad (ar.getD j 0) a (hpre.at hi)
        have hin := argT_in (k := ar.getD j 0) (a := a) (bad := bad) (hpre.at hi)
        have hM : oMark [.c (.p 0 0 0), .c (.v (.string ⟨#[59]⟩))] _ = _ := mark_at hl i e bad semi hi
        refine seq_run okS1 rfl (by repeat (first | with_reducible exact runf_nil | refine runf_cons (by simp only [xstep, stepf, stepx, qev, St.ev, St.put, qint, qshift, isShift, qbin, Z1, Z2, Z5, Z6, Z4, Z11, if_true, if_false, Z3, Z7]; rfl) ?_)) ?_
        refine seq_in (tri_cond rfl (fun a3 => ?_) (fun a3 => ?_))
        ·
          simp only [decide_eq_true_eq] at a3
          refine then_skip ?_
          refine seq_in (tri_block ?_)
          refine seq_run okS1 rfl (by repeat (first | with_reducible exact runf_nil | refine runf_cons (by simp only [xstep, stepf, stepx, qev, St.ev, St.put, D.int, qload, cellsAt, qmk, C.cpy, TK.agg, qindexAddr, C.cp, Z1, Z2, Z5, Z6, Z9, Z10, Z13, Z24, Z16, Z18, Z17, Z20, Z8, Z4, if_true, if_false, and_self, decide_true, Z3, ne_eq, not_false_eq_true, reduceCtorEq, Z7, Z14, Z26, Int.toNat_natCast, Int.natCast_nonneg, List.length_map, hE, hga, List.length_map, List.getElem?_map, tsz3, tk3, tk27, a3]; rfl) ?_)) ?_
          refine run_end okS1 rfl (by repeat (first | with_reducible exact runf_nil | refine runf_cons (by simp only [xstep, stepf, stepx, evsA, qev, St.ev, St.put, St.with, D.cell, C.cpy, C.cp, C.dat, Z1, Z2, Z5, Z6, Z9, Z10, Z23, Z12, Z15, Z13, Z16, Z18, Z8, Z4, Bool.and_true, Nat.reduceAdd, Nat.reduceEqDiff, if_true, if_false, and_self, Z3, Nat.reduceBEq, Z7, Z14, beq_self_eq_true, Z26, Bool.or_false, Bool.true_or, callP, callO, dedup, rootsD, rootsC, List.flatMap_cons, List.flatMap_nil, List.filterMap_cons, List.filterMap_nil, argDs, argD, argC, List.contains_nil, List.contains_cons, objsAt, objOf, List.idxOf?, List.findIdx?, List.findIdx?.go, setObjs, settle, settleDs, Z25, FsS1, hAr, act_dat]; rfl) ?_)) ?_
          show Tri _ _ _ _
          refine run_end okS1 rfl (by repeat (first | with_reducible exact runf_nil | refine runf_cons (by simp only [xstep, stepf, stepx, qev, St.ev, St.put, qint, qshift, isShift, qbin, constD, constC, Z1, Z2, Z5, Z6, Z4, Z11, if_true, if_false, Z3, Z7, hq2, show IntKind.i64.wrap (↑(j + 1) : Int) = _ from wrap_i64 _ (by omega) (by omega)]; rfl) ?_)) ?_
          simp only []
          (have hj2 : j < ar.length := (by omega); rw [drop_at 0 hj2] at hg; simp only [argsGo] at hg; exact ⟨m2 - 1, by omega, ⟨[.c (.p 0 0 0), .top, .c (.p 1 0 0), .c (.v (.int .i64 i0)), .c (.v (.string w)), .top, .top, .c (.p 2 0 0), .top, .top, .top, .top, .top, .top, .top, .top, .top, .top, .top, .top, .top, .top, .top, .top, .top, .top, .top, .top, .top, .top, .top, .c (.s false (argsE (k : Int)) (ints ar)), .c (.v (.int .i64 (ar.length : Nat))), .c (.v (.int .i64 (j + 1 : Nat))), .top, .top, .top, .top, .top, .top, .top, .top, .top, .top, .top, .top, .top, .top, .top, .top, .top, .top], [some ⟨false, 4, [[.s false 3 (l.map tokC), .v (.int .i64 (argT l e (ar.getD j 0) a i bad).2.1), .v (.int .i64 e), .v (.int .i64 (argT l e (ar.getD j 0) a i bad).2.2)]]⟩, some ⟨false, 12, [[.v (.int .i64 0), .v (.string ⟨#[]⟩), .v (.int .i64 0), .s true 0 [], .v (.string ⟨#[]⟩), .v (.string ⟨#[]⟩), .s true 0 [], .v (.string ⟨#[]⟩), .v (.int .i64 0), .v (.int .i64 0), .v (.int .u64 0), .v (.int .i64 0)]]⟩, some ⟨false, 12, [actC true (argT l e (ar.getD j 0) a i bad).1]⟩]⟩, ⟨(by rw [hE1 (by omega)]; repeat (first | exact .nil | refine .same ?_ | refine .top ?_)), rfl⟩, j + 1, (argT l e (ar.getD j 0) a i bad).2.1, (argT l e (ar.getD j 0) a i bad).2.2, (argT l e (ar.getD j 0) a i bad).1, by omega, hin.2, hg, rfl⟩)
        ·
          simp only [decide_eq_false_iff_not] at a3
          refine tri_exit ?_
          show Tri _ _ _ _
          refine seq_run okS1 rfl (by repeat (first | with_reducible exact runf_nil | refine runf_cons (by simp only [xstep, stepf, stepx, evsA, qev, St.ev, St.put, St.with, D.cell, C.cpy, C.cp, C.dat, constD, constC, Z1, Z2, Z5, Z6, Z9, Z10, Z12, Z15, Z13, Z16, Z18, Z8, Z4, Bool.and_true, Nat.reduceEqDiff, if_true, if_false, and_self, decide_false, Z3, Z7, Z14, beq_self_eq_true, Z26, Bool.true_or, callP, callO, dedup, rootsD, rootsC, List.flatMap_cons, List.flatMap_nil, List.filterMap_cons, List.filterMap_nil, argDs, argD, argC, List.contains_nil, objsAt, objOf, List.idxOf?, List.findIdx?, List.findIdx?.go, setObjs, settle, settleDs, Z25, FsS1, hM, a3]; rfl) ?_)) ?_
          refine seq_run okS1 rfl (by repeat (first | with_reducible exact runf_nil | refine runf_cons (by simp only [xstep, stepf, stepx, qev, St.ev, St.put, D.cells, qload, cellsAt, qmk, C.cpy, TK.agg, C.cp, storeA, putCells, Z1, Z2, Z5, Z6, Z9, Z10, Z12, Z15, Z20, Z19, Z21, Z8, Z4, Nat.reduceAdd, if_true, and_self, Z3, ne_eq, not_false_eq_true, reduceCtorEq, Nat.le_refl, Z7, Z14, tk50, tsz50, false_implies, act_take, act_cpy, act_len, act_cp, act_st]; rfl) ?_)) ?_
          refine tri_ret (ends_ret (by simp only [outRes, resDs, resD, outD, qload, cellsAt, qmk, C.cpy, TK.agg, C.cp, Z1, Z2, Z21, Z8, Z4, if_true, and_self, Z3, tk50, tsz50, act_take, act_cpy2, act_len, act_cp, act_out]; rfl) rfl (by simp) (by simp) ?_)
          simp only [Z12]
          (obtain ⟨m3, rfl⟩ := hm1 (by omega); simp only [formIx, reduceIte, Z7, ↓reduceIte, noText, a1, a2] at hk; rw [List.drop_eq_nil_of_le (by omega)] at hg; simp only [argsGo] at hg; subst hg; with_reducible exact hQs1 hk)
    ·
      refine seq_run okS1 rfl (by repeat (first | with_reducible exact runf_nil | refine runf_cons (by simp only [xstep, stepf, stepx, qev, St.ev, St.put, qpick, qstr, isEq, qeq, qbin, constD, constC, Z1, Z2, Z5, Z6, Z8, Z4, Z11, if_true, if_false, Bool.not_false, cond_true, Z22, Z3, reduceCtorEq, tk9, eq_false_of_ne_true a1]; rfl) ?_)) ?_
      refine tri_cond (b := true) rfl (fun _ => ?_) (fun h => by cases h)
      refine tri_exit ?_
      show Tri _ _ _ _
      refine run_end okS1 rfl (by repeat (first | with_reducible exact runf_nil | refine runf_cons (by simp only [xstep, stepf, stepx, qev, St.ev, St.put, qint, qshift, isShift, qbin, constD, constC, Z1, Z2, Z5, Z6, Z4, Z11, if_true, if_false, Z3, Z7, hq1, show IntKind.i64.wrap (↑(k + 1) : Int) = _ from wrap_i64 _ (by omega) (by omega)]; rfl) ?_)) ?_
      simp only []
      (obtain ⟨m3, rfl⟩ := hm1 (by omega); simp only [formIx, reduceIte, Z7, ↓reduceIte, eq_false_of_ne_true a1] at hk; exact ⟨m3, by omega, ⟨[.c (.p 0 0 0), .top, .c (.p 1 0 0), .c (.v (.int .i64 i0)), .c (.v (.string w)), .top, .top, .top, .top, .top, .top, .top, .top, .top, .top, .top, .agg formsC, .c (.v (.int .i64 (k + 1 : Nat))), .top, .top, .top, .top, .top, .top, .top, .top, .top, .top, .top, .top, .top, .top, .top, .top, .top, .top, .top, .top, .top, .top, .top, .top, .top, .top, .top, .top, .top, .top, .top, .top, .top, .top], [some ⟨false, 4, [[.s false 3 (l.map tokC), .v (.int .i64 i1), .v (.int .i64 e), .v (.int .i64 bad1)]]⟩, some ⟨false, 12, [[.v (.int .i64 0), .v (.string ⟨#[]⟩), .v (.int .i64 0), .s true 0 [], .v (.string ⟨#[]⟩), .v (.string ⟨#[]⟩), .s true 0 [], .v (.string ⟨#[]⟩), .v (.int .i64 0), .v (.int .i64 0), .v (.int .u64 0), .v (.int .i64 0)]]⟩]⟩, ⟨by repeat (first | exact .nil | refine .same ?_ | refine .top ?_), rfl⟩, k + 1, by omega, hk, rfl⟩)
  ·
    simp only [decide_eq_false_iff_not] at a0
    refine tri_exit ?_
    show Tri _ _ _ _
    refine seq_run okS1 rfl (by repeat (first | with_reducible exact runf_nil | refine runf_cons (by simp only [xstep, stepf, stepx, qev, St.ev, St.put, D.cells, qnil, qfieldAddr, liveR, C.st, C.dat, storeA, putCells, Z1, Z2, Z5, Z6, Z9, Z10, Z23, Z12, Z16, Z18, Z17, Z20, Z19, Z21, Z8, Z4, Nat.reduceAdd, if_true, if_false, and_self, decide_false, Z3, ne_eq, not_false_eq_true, reduceCtorEq, Nat.reduceLeDiff, Z7, implies_true, Z14, Z26, tk80, tsz3, a0]; rfl) ?_)) ?_
    refine seq_run okS1 rfl (by repeat (first | with_reducible exact runf_nil | refine runf_cons (by simp only [xstep, stepf, stepx, evsA, qev, St.ev, St.put, St.with, D.cell, C.dat, Z1, Z2, Z5, Z6, Z9, Z10, Z12, Z15, Z13, Z16, Z18, Z8, Z4, Bool.and_true, Nat.reduceEqDiff, if_true, if_false, and_self, Z3, Z7, Z14, beq_self_eq_true, Z26, Bool.true_or, callP, callO, dedup, rootsD, rootsC, List.flatMap_cons, List.flatMap_nil, List.filterMap_cons, List.filterMap_nil, argDs, argD, argC, List.contains_nil, objsAt, objOf, List.idxOf?, List.findIdx?, List.findIdx?.go, setObjs, settle, settleDs, Z25, FsS1, hF0]; rfl) ?_)) ?_
    refine seq_run okS1 rfl (by repeat (first | with_reducible exact runf_nil | refine runf_cons (by simp only [xstep, stepf, stepx, St.ev, St.put, D.cells, C.st, C.dat, storeA, putCells, Z1, Z2, Z5, Z6, Z9, Z10, Z12, Z15, Z16, Z18, Z20, Z19, Z21, Z8, Z4, Nat.reduceAdd, if_true, and_self, Z3, ne_eq, not_false_eq_true, reduceCtorEq, Nat.le_refl, Nat.reduceBNe, Z7, implies_true, Z14, Z26, buildA, partsA, fillA, tk50, tsz50, tz50, tsz9, tsz3, tsz48, tsz28, tsz37]; rfl) ?_)) ?_
    refine tri_ret (ends_ret (by simp only [outRes, resDs, resD, outD, outC, outCs, qload, cellsAt, qmk, C.cpy, TK.agg, C.cp, C.dat, Z1, Z2, Z9, Z10, Z15, Z13, Z24, Z16, Z18, Z17, Z20, Z21, Z8, Z4, Nat.reduceAdd, if_true, and_self, Z3, Z14, Z26, tk50, tsz50]; rfl) rfl (by simp) (by simp) ?_)
    simp only [Z12]
    (obtain rfl := hm0 (by omega); simp only [formIx] at hk; exact hQn hk)
end Go.Dl
