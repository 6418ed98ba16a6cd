/- The walk of PrintAll. -/
import Derived.Test.YtbefgbljlmnfoaaT16
set_option linter.all false
namespace Go.Dl
open Go.RowKit
open Go.Proofs
set_option linter.unusedSimpArgs false
set_option linter.unusedVariables false
theorem printB_size {a : ActM} (h : actPre a) : (printB a).size ≤ 1600000000 := by
  have hz : (joinB sp1 (wordsOf a)).size ≤ 1500000500 := by
    have h1 := joinB_size (sep := sp1) (by decide) (b := 300000000) (l := wordsOf a) (words_le h)
    have h2 : ((wordsOf a).length + 1) * (100 + 300000000) ≤ 5 * 300000100 := Nat.mul_le_mul (by
      have := argsK_len a.kind
      unfold wordsOf
      rw [List.length_cons, List.length_map]; omega) (by omega)
    omega
  unfold printB
  split
  · split
    · rw [ByteArray.size_append]; show _ + 1 ≤ _; omega
    · exact Nat.zero_le _
  · exact Nat.zero_le _
/-- Steps as a script: a line each. -/
def allGo : List ActM → List UInt8 → List UInt8
  | [], acc => acc
  | a :: r, acc => allGo r (if strEq (printB a) ⟨#[]⟩ = true then acc else acc ++ (printB a ++ ⟨#[10]⟩).data.toList)
def printAllB (l : List ActM) : ByteArray := ⟨(allGo l []).toArray⟩
noncomputable def FsJf : Fs := { pure := fun k => if k = 21 then some pPrint else none, objs := fun k => if k = 34 then some oWS else if k = 35 then some oStr else none }
theorem okJf : FsOK Try.prog FsJf := by
  refine ⟨fun k f h => ?_, fun k f h => ?_⟩
  · simp only [FsJf] at h
    split at h
    · rename_i hk; subst hk; cases h; exact ⟨by kernel_rfl, meets21⟩
    · cases h
  · simp only [FsJf] at h
    split at h
    · rename_i hk; subst hk; cases h; exact ⟨by kernel_rfl, meets34⟩
    split at h
    · rename_i hk; subst hk; cases h; exact ⟨by kernel_rfl, meets35⟩
    · cases h
noncomputable def pPrintAll : List D → Option D := famP (fun x : Nat × List ActM => x.2.length ≤ 1000 ∧ (∀ a ∈ x.2, actPre a) ∧ (0 < x.2.length → x.1 = 12)) (fun x => [.c (.s false x.1 (x.2.map (actC false)))]) (fun x => .c (.v (.string (printAllB x.2))))
theorem acts_inj : ∀ {l l' : List ActM}, l.map (actC false) = l'.map (actC false) → l = l'
  | [], [], _ => rfl
  | [], _ :: _, h => by simp at h
  | _ :: _, [], h => by simp at h
  | a :: l, b :: l', h => by
    simp only [Z24, List.cons.injEq] at h
    rw [actC_inj0 h.1, acts_inj h.2]
theorem printAll_at (es : Nat) (l : List ActM) (h1 : l.length ≤ 1000) (h2 : ∀ a ∈ l, actPre a) (h3 : 0 < l.length → es = 12) : pPrintAll [.c (.s false es (l.map (actC false)))] = some (.c (.v (.string (printAllB l)))) := Ym (fun a b h => by
  obtain ⟨a, a'⟩ := a
  obtain ⟨b, b'⟩ := b
  simp only [List.cons.injEq, D.c.injEq, C.s.injEq, and_true, true_and] at h
  rw [acts_inj h.2]) (es, l) ⟨h1, h2, h3⟩ rfl
theorem actPre_0 : actPre (act0 0) := ⟨⟨by decide, by decide, by decide, by intro f hf; cases hf⟩, by decide, by decide, ⟨by decide, by intro f hf; cases hf⟩, by decide, by decide, by decide, by decide, by decide⟩
set_option maxRecDepth 100000 in
set_option maxHeartbeats 4000000 in
theorem meets24 : Meets Try.prog 24 (pureS pPrintAll) := by
  refine Yn (show Try.prog.funcs[24]? = some Try.f24 by kernel_rfl) rfl (n := 22) rfl (rs := [ResultVar.tmp 2]) rfl ?_
  rintro ⟨es, l⟩ ⟨hl, hpre, hes⟩ Q hQ
  dsimp only at hl hpre hes hQ ⊢
  have hlm : l.length ≤ maxStr := by unfold maxStr; omega
  have hc0 : ((0 : Nat) : Int) = 0 := rfl
  unfold printAllB at hQ
  refine Y3 ok0 rfl (by repeat first | with_reducible exact Y2 | refine Y1 (by simp only [Y5, Y4, Y6, qev, St.ev, St.put, Y8, Y7, List.replicate, Nat.reduceSub, ZA]; rfl) ?_) ?_
  refine seq_runR ?_
  refine rr_bld 5 rfl rfl Try.zeroValue69 (rr_nil ?_)
  refine seq_in ?_
  refine Y3 okJf rfl (by repeat first | with_reducible exact Y2 | refine Y1 (by simp only [Y5, Y4, Y6, qev, St.ev, St.put, St.with, qlen, qbuiltin, Y8, Y7, if_true, hlm, List.length_map, tk45, ZA]; rfl) ?_) ?_
  refine tri_block ?_
  refine tri_loop_le (fun m A => ∃ (j : Nat) (acc : List UInt8) (T : List (Option Root)), m + j = l.length ∧ acc.length ≤ j * 1600000001 ∧ allGo (l.drop j) acc = allGo l [] ∧ A = ⟨[.top, .top, .c (.v (.string ⟨#[]⟩)), .c (.p 0 0 0), .top, .top, .top, .c (.s false es (l.map (actC false))), .c (.v (.int .i64 (l.length : Nat))), .c (.v (.int .i64 (j : Nat))), .top, .top, .top, .top, .top, .top, .top, .top, .top, .top, .top, .top], some ⟨false, 2, [[.b 69, .u 5 (acc)]]⟩ :: T⟩) l.length (B := ⟨[.top, .top, .c (.v (.string ⟨#[]⟩)), .c (.p 0 0 0), .top, .top, .top, .c (.s false es (l.map (actC false))), .c (.v (.int .i64 (l.length : Nat))), .c (.v (.int .i64 (0 : Nat))), .top, .top, .top, .top, .top, .top, .top, .top, .top, .top, .top, .top], some ⟨false, 2, [[.b 69, .u 5 ([])]]⟩ :: []⟩) ⟨by repeat (first | exact .nil | refine .same ?_ | refine .top ?_), rfl⟩ ⟨0, [], [], rfl, Nat.le_refl _, rfl, rfl⟩ ?_
  rintro m A ⟨j, acc, T, hm, hacc, hk, rfl⟩
  have hj1 : (j : Int) + 1 = ((j + 1 : Nat) : Int) := by omega
  have hjb : j ≤ 1000 := by omega
  obtain ⟨a, ha⟩ : ∃ a, l.getD j (act0 0) = a := ⟨_, rfl⟩
  have hg : ((j : Nat) : Int) < ((l.length : Nat) : Int) → l[j]? = some a := (by intro h; rw [← ha]; exact get_at _ (by omega))
  have hE : ((j : Nat) : Int) < ((l.length : Nat) : Int) → es = 12 := fun h => hes (by omega)
  have hap : actPre a := (by by_cases h : j < l.length; exact hpre a (List.mem_of_getElem? (hg (by omega))); rw [← ha, List.getD_eq_getElem?_getD, List.getElem?_eq_none (by omega)]; exact actPre_0)
  have hP := print_at a hap
  have hpz := printB_size hap
  have hcu := act_cpy2 a
  have hcc := act_cp a
  have hB1 : (printB a).size + (⟨#[10]⟩ : ByteArray).size ≤ maxStr := (by show _ + 1 ≤ maxStr; unfold maxStr; omega)
  have hpl : (printB a ++ ⟨#[10]⟩).size ≤ 1600000001 := (by rw [ByteArray.size_append]; show _ + 1 ≤ _; omega)
  have hpdl := dl_len (printB a ++ ⟨#[10]⟩)
  have hS2 := ws_at acc (printB a ++ ⟨#[10]⟩) (by omega)
  have hSt := str_at acc (by omega)
  refine Y3 okJf rfl (by repeat first | with_reducible exact Y2 | refine Y1 (by simp only [Y5, Y4, Y6, qev, St.ev, St.put, qint, Yc, Ya, qbin, if_true, if_false, ZA]; rfl) ?_) ?_
  refine seq_in (Yf rfl (fun b0 => ?_) (fun b0 => ?_))
  ·
    simp only [decide_eq_true_eq] at b0
    refine Ye ?_
    refine seq_in (tri_block ?_)
    refine Y3 okJf rfl (by repeat first | with_reducible exact Y2 | refine Y1 (by simp only [Y5, Y4, Y6, qev, St.ev, St.put, St.with, D.cells, D.int, boxA, qload, Y9, qmk, C.cpy, TK.agg, qindexAddr, C.st, C.cp, storeA, putCells, Nat.reduceAdd, if_true, decide_true, ne_eq, reduceCtorEq, Nat.le_refl, implies_true, Int.toNat_natCast, Int.natCast_nonneg, List.length_map, hg, hE, hcu, hcc, act_dat2, act_st, act_len, act_take, List.getElem?_map, last_get, last_set, tk50, tsz50, tk45, b0, tz50, ZA]; rfl) ?_) ?_
    refine Y3 okJf rfl (by repeat first | with_reducible exact Y2 | refine Y1 (by simp only [Y5, Y4, Y6, evsA, qev, St.ev, St.put, St.with, qload, Y9, qmk, C.cpy, TK.agg, C.cp, if_true, Bool.true_or, callP, Yg, argD, settle, settle1, settleC, FsJf, act_arg, hP, hcu, hcc, act_len, act_take, last_get, tk50, tsz50, ZA]; rfl) ?_) ?_
    refine Y3 okJf rfl (by repeat first | with_reducible exact Y2 | refine Y1 (by simp only [Y5, Y4, Y6, qev, St.ev, St.put, qstr, qbin, Y8, Y7, ZA]; rfl) ?_) ?_
    refine Yf rfl (fun b1 => ?_) (fun b1 => ?_)
    ·
      simp only [Bool.not_eq_true'] at b1
      refine Yk okJf rfl (by repeat first | with_reducible exact Y2 | refine Y1 (by simp only [Y5, Y4, Y6, evsA, qev, St.ev, St.put, St.with, D.cell, C.cpy, qstr, qbin, C.cp, C.dat, Y8, Y7, Bool.and_true, Nat.reduceEqDiff, if_true, if_false, Bool.not_false, beq_self_eq_true, Bool.true_or, callP, callO, dedup, rootsD, rootsC, List.flatMap_cons, List.flatMap_nil, List.filterMap_cons, List.filterMap_nil, Yg, argD, argC, List.contains_nil, objsAt, objOf, List.idxOf?, List.findIdx?, List.findIdx?.go, setObjs, settle, settle1, settleC, settleDs, FsJf, hB1, hS2, b1, ZA]; rfl) ?_) ?_
      show Tri _ _ _ _
      refine Yk okJf rfl (by repeat first | with_reducible exact Y2 | refine Y1 (by simp only [Y5, Y4, Y6, qev, St.ev, St.put, qint, Yc, Ya, qbin, Y8, Y7, if_true, if_false, hj1, show IntKind.i64.wrap (↑(j + 1) : Int) = _ from wrap_i64 _ (by omega) (by omega), ZA]; rfl) ?_) ?_
      (rw [drop_at (act0 0) (show j < l.length by omega), ha, allGo, if_neg (by simp [*])] at hk; exact ⟨m - 1, by omega, ⟨[.top, .top, .c (.v (.string ⟨#[]⟩)), .c (.p 0 0 0), .top, .top, .top, .c (.s false es (l.map (actC false))), .c (.v (.int .i64 (l.length : Nat))), .c (.v (.int .i64 (j + 1 : Nat))), .top, .top, .top, .top, .top, .top, .top, .top, .top, .top, .top, .top], some ⟨false, 2, [[.b 69, .u 5 (acc ++ (printB a ++ ⟨#[10]⟩).data.toList)]]⟩ :: _⟩, ⟨(by rw [hE (by omega)]; repeat (first | exact .nil | refine .same ?_ | refine .top ?_)), rfl⟩, j + 1, acc ++ (printB a ++ ⟨#[10]⟩).data.toList, _, by omega, (by first | exact Nat.le_trans hacc (Nat.mul_le_mul_right _ (Nat.le_succ j)) | (rw [List.length_append]; omega)), hk, rfl⟩)
    ·
      simp only [Bool.not_eq_false'] at b1
      refine tri_skip ?_
      show Tri _ _ _ _
      refine Yk okJf rfl (by repeat first | with_reducible exact Y2 | refine Y1 (by simp only [Y5, Y4, Y6, qev, St.ev, St.put, qint, Yc, Ya, qbin, Y8, Y7, if_true, if_false, Bool.not_true, hj1, b1, show IntKind.i64.wrap (↑(j + 1) : Int) = _ from wrap_i64 _ (by omega) (by omega), ZA]; rfl) ?_) ?_
      (rw [drop_at (act0 0) (show j < l.length by omega), ha, allGo, if_pos (by assumption)] at hk; exact ⟨m - 1, by omega, ⟨[.top, .top, .c (.v (.string ⟨#[]⟩)), .c (.p 0 0 0), .top, .top, .top, .c (.s false es (l.map (actC false))), .c (.v (.int .i64 (l.length : Nat))), .c (.v (.int .i64 (j + 1 : Nat))), .top, .top, .top, .top, .top, .top, .top, .top, .top, .top, .top, .top], some ⟨false, 2, [[.b 69, .u 5 (acc)]]⟩ :: _⟩, ⟨(by rw [hE (by omega)]; repeat (first | exact .nil | refine .same ?_ | refine .top ?_)), rfl⟩, j + 1, acc, _, by omega, (by first | exact Nat.le_trans hacc (Nat.mul_le_mul_right _ (Nat.le_succ j)) | (rw [List.length_append]; omega)), hk, rfl⟩)
  ·
    simp only [decide_eq_false_iff_not] at b0
    refine tri_exit ?_
    show Tri _ _ _ _
    refine Y3 okJf rfl (by repeat first | with_reducible exact Y2 | refine Y1 (by simp only [Y5, Y4, Y6, evsA, qev, St.ev, St.put, St.with, D.cell, C.dat, Bool.and_true, Nat.reduceEqDiff, if_true, if_false, decide_false, beq_self_eq_true, Bool.true_or, callP, callO, dedup, rootsD, rootsC, List.flatMap_cons, List.flatMap_nil, List.filterMap_cons, List.filterMap_nil, Yg, argD, argC, List.contains_nil, objsAt, objOf, List.idxOf?, List.findIdx?, List.findIdx?.go, setObjs, settle, settle1, settleC, FsJf, hSt, b0, ZA]; rfl) ?_) ?_
    refine Yo (Yp (by simp only [outRes, Yi, resD, outD, outC, C.dat, if_true, ZA]; rfl) rfl (by simp) (by simp) ?_)
    (rw [List.drop_of_length_le (by omega), allGo] at hk; rw [← hk] at hQ; exact hQ)
end Go.Dl
