/- The walk of strings.Join; The walks of a step's parts as a script says them: names, a paper; The walks of a step's parts, of a step, of steps as a script says them. -/
import Derived.Test.YtbefgbljlmnfoaaU14
set_option linter.all false
namespace Go.Dl
open Go.RowKit
open Go.Proofs
set_option linter.unusedSimpArgs false
set_option linter.unusedVariables false
/-- Texts joined. -/
def joinGo (sep : ByteArray) : List ByteArray → List UInt8 → List UInt8
 | [], a => a
 | x :: r, a => joinGo sep r (a ++ sep.data.toList ++ x.data.toList)
def joinB (sep : ByteArray) : List ByteArray → ByteArray
 | [] => ⟨#[]⟩
 | x :: r => match r with
  | [] => x
  | _ => ⟨(joinGo sep r x.data.toList).toArray⟩
def joinPre (x : List ByteArray × ByteArray) : Prop := x.1.length ≤ 1000 ∧ (∀ s ∈ x.1, s.size ≤ 1073741824) ∧ 0 < x.2.size ∧ x.2.size ≤ 100
theorem dl_len (a : ByteArray) : a.data.toList.length = a.size := by simp
theorem getD_size {l : List ByteArray} {b : Nat} (h : ∀ s ∈ l, s.size ≤ b) (j : Nat) : (l.getD j ⟨#[]⟩).size ≤ b := by
 rw [List.getD_eq_getElem?_getD]
 cases hj : l[j]? with
 | none => exact Nat.zero_le _
 | some s => exact h s (List.mem_of_getElem? hj)
noncomputable def FsJa : Fs := { Fs.none with objs := fun k => if k = 34 then some oWS else if k = 35 then some oStr else if k = 67 then some oGrow else none }
theorem okJa : FsOK Try.prog FsJa := by
 refine ⟨fun _ _ h => (by cases h), fun k f h => ?_⟩
 simp only [FsJa] at h
 split at h
 · rename_i hk; subst hk; cases h; exact ⟨by kernel_rfl, meets34⟩
 split at h
 · rename_i hk; subst hk; cases h; exact ⟨by kernel_rfl, meets35⟩
 split at h
 · rename_i hk; subst hk; cases h; exact ⟨by kernel_rfl, meets67⟩
 · cases h
noncomputable def pJoin : List D → Option D := famP joinPre (fun x => [.c (.s false 1 (x.1.map strC)), .c (.v (.string x.2))]) (fun x => .c (.v (.string (joinB x.2 x.1))))
theorem strs_inj2 : ∀ {l l' : List ByteArray}, l.map strC = l'.map strC → l = l'
 | [], [], _ => rfl
 | [], _ :: _, h => by simp at h
 | _ :: _, [], h => by simp at h
 | a :: l, b :: l', h => by
  simp only [Z24, List.cons.injEq, strC, C.v.injEq, Value.string.injEq, and_true] at h
  rw [h.1, strs_inj2 h.2]
theorem join_at (l : List ByteArray) (sep : ByteArray) (h : joinPre (l, sep)) : pJoin [.c (.s false 1 (l.map strC)), .c (.v (.string sep))] = some (.c (.v (.string (joinB sep l)))) := Ym (fun a b h => by
 obtain ⟨a, a'⟩ := a
 obtain ⟨b, b'⟩ := b
 simp only [List.cons.injEq, D.c.injEq, C.s.injEq, C.v.injEq, Value.string.injEq, and_true, true_and] at h
 rw [strs_inj2 h.1, h.2]) (l, sep) h rfl
set_option maxRecDepth 100000 in
set_option maxHeartbeats 4000000 in
theorem meets46 : Meets Try.prog 46 (pureS pJoin) := by
 refine Yn (show Try.prog.funcs[46]? = some Try.f46 by kernel_rfl) rfl (n := 75) rfl (rs := [ResultVar.tmp 4]) rfl ?_
 rintro ⟨l, sep⟩ ⟨hl, hsz, hs0, hs1⟩ Q hQ
 dsimp only at hl hsz hs0 hs1 hQ ⊢
 have hlm : l.length ≤ maxStr := by unfold maxStr; omega
 have hsm : sep.size ≤ maxStr := by unfold maxStr; omega
 have hc0 : ((0 : Nat) : Int) = 0 := rfl
 have hc1 : ((1 : Nat) : Int) = 1 := rfl
 have hl0 : (0 : Nat) ≤ maxStr := Nat.zero_le _
 have hl1 : (1 : Nat) ≤ maxStr := by decide
 match l, hl, hsz, hQ, hlm with
 | [], hl, hsz, hQ, hlm =>
  simp only [Z13]
  refine Y3 okJa rfl (by repeat first | with_reducible exact Y2 | refine Y1 (by simp only [Y5, Y4, Y6, qev, St.ev, St.put, Y8, Y7, List.replicate, Nat.reduceAdd, Nat.reduceSub, ZA]; rfl) ?_) ?_
  refine seq_in ?_
  refine Y3 okJa rfl (by repeat first | with_reducible exact Y2 | refine Y1 (by simp only [Y5, Y4, Y6, qev, St.ev, St.put, qlen, qbuiltin, if_true, hl0, hc0, tk28, ZA]; rfl) ?_) ?_
  refine tri_block ?_
  refine Y3 okJa rfl (by repeat first | with_reducible exact Y2 | refine Y1 (by simp only [Y5, Y4, Y6, qev, St.ev, St.put, qint, Yc, Ya, qbin, Y8, Y7, if_true, if_false, decide_true, ZA]; rfl) ?_) ?_
  refine Yf (b := true) rfl (fun _ => ?_) (fun h => by cases h)
  refine Y3 okJa rfl (by repeat first | with_reducible exact Y2 | refine Y1 (by simp only [Y5, Y4, Y6, qev, St.ev, St.put, Y8, Y7, ZA]; rfl) ?_) ?_
  refine Yo (Yp (by simp only [outRes, Yi, resD, outD, outC, C.dat, if_true, ZA]; rfl) rfl (by simp) (by simp) ?_)
  (simp only [joinB] at hQ; with_reducible exact hQ)
 | [x], hl, hsz, hQ, hlm =>
  simp only [Z24, Z13, strC]
  refine Y3 okJa rfl (by repeat first | with_reducible exact Y2 | refine Y1 (by simp only [Y5, Y4, Y6, qev, St.ev, St.put, Y8, Y7, List.replicate, Nat.reduceAdd, Nat.reduceSub, ZA]; rfl) ?_) ?_
  refine seq_in ?_
  refine Y3 okJa rfl (by repeat first | with_reducible exact Y2 | refine Y1 (by simp only [Y5, Y4, Y6, qev, St.ev, St.put, qlen, qbuiltin, if_true, hl1, hc1, tk28, ZA]; rfl) ?_) ?_
  refine tri_block ?_
  refine Y3 okJa rfl (by repeat first | with_reducible exact Y2 | refine Y1 (by simp only [Y5, Y4, Y6, qev, St.ev, St.put, qint, Yc, Ya, qbin, Y8, Y7, if_true, if_false, decide_false, Int.reduceEq, ZA]; rfl) ?_) ?_
  refine Yf (b := false) rfl (fun h => by cases h) (fun _ => ?_)
  refine Y3 okJa rfl (by repeat first | with_reducible exact Y2 | refine Y1 (by simp only [Y5, Y4, Y6, qev, St.ev, St.put, qint, Yc, Ya, qbin, Y8, Y7, if_true, if_false, decide_true, ZA]; rfl) ?_) ?_
  refine Yf (b := true) rfl (fun _ => ?_) (fun h => by cases h)
  refine Y3 okJa rfl (by repeat first | with_reducible exact Y2 | refine Y1 (by simp only [Y5, Y4, Y6, qev, St.ev, St.put, D.int, qload, Y9, qmk, C.cpy, TK.agg, qindexAddr, C.cp, Y8, Y7, if_true, if_false, ne_eq, reduceCtorEq, Int.reduceLT, Int.reduceLE, hc1, Int.toNat_zero, tk28, tsz9, tk9, ZA]; rfl) ?_) ?_
  refine Yo (Yp (by simp only [outRes, Yi, resD, outD, outC, C.dat, if_true, ZA]; rfl) rfl (by simp) (by simp) ?_)
  (simp only [joinB] at hQ; with_reducible exact hQ)
 | x :: y :: r, hl, hsz, hQ, hlm =>
  have hQ2 : Q (.c (.v (.string ⟨(joinGo sep (y :: r) x.data.toList).toArray⟩))) [] := hQ
  clear hQ
  generalize hrr : y :: r = rr at hQ2 hl hsz hlm ⊢
  have hrl : 1 ≤ rr.length := by rw [← hrr]; simp
  have hxz : x.size ≤ 1073741824 := hsz x (List.mem_cons_self ..)
  have hrz : ∀ s ∈ rr, s.size ≤ 1073741824 := fun s hs => hsz s (List.mem_cons_of_mem _ hs)
  rw [List.length_cons] at hl hlm
  have hn0 : ¬ ((rr.length : Int) + 1 = 0) := by omega
  have hn1 : ¬ ((rr.length : Int) + 1 = 1) := by omega
  have hq1 : ((rr.length + 1 : Nat) : Int) = (rr.length : Int) + 1 := by omega
  have hq2 : (rr.length : Int) + 1 - 1 = (rr.length : Int) := by omega
  have hlm2 : rr.length ≤ maxStr := by omega
  have htk : (rr.map strC).take (rr.length + 1 - 1) = rr.map strC := List.take_of_length_le (by simp)
  have hrlz : ¬ (rr.length : Int) = 0 := by omega
  have hdv : (9223372036854775807 : Int).tdiv (rr.length : Int) = ((9223372036854775807 / rr.length : Nat) : Int) := rfl
  have hdv2 : 9007199254740992 ≤ 9223372036854775807 / rr.length := (Nat.le_div_iff_mul_le (by omega)).2 (by omega)
  have hdv3 : 9223372036854775807 / rr.length ≤ 9223372036854775807 := Nat.div_le_self _ _
  generalize 9223372036854775807 / rr.length = dv at hdv hdv2 hdv3
  have hmul : (sep.size : Int) * (rr.length : Int) = ((sep.size * rr.length : Nat) : Int) := by simp
  have hmul2 : sep.size * rr.length ≤ 100000 := Nat.le_trans (Nat.mul_le_mul hs1 (show rr.length ≤ 1000 by omega)) (by omega)
  have hmul3 : 0 < sep.size * rr.length := Nat.mul_pos hs0 (by omega)
  generalize sep.size * rr.length = sn at hmul hmul2 hmul3
  refine Y3 okJa rfl (by repeat first | with_reducible exact Y2 | refine Y1 (by simp only [Y5, Y4, Y6, qev, St.ev, St.put, Y8, Y7, List.replicate, Nat.reduceAdd, Nat.reduceSub, ZA]; rfl) ?_) ?_
  refine seq_in ?_
  refine Y3 okJa rfl (by repeat first | with_reducible exact Y2 | refine Y1 (by simp only [Y5, Y4, Y6, qev, St.ev, St.put, qlen, qbuiltin, if_true, hlm, hq1, List.length_map, tk28, ZA]; rfl) ?_) ?_
  refine tri_block ?_
  refine Y3 okJa rfl (by repeat first | with_reducible exact Y2 | refine Y1 (by simp only [Y5, Y4, Y6, qev, St.ev, St.put, qint, Yc, Ya, qbin, Y8, Y7, if_true, if_false, decide_false, hn0, ZA]; rfl) ?_) ?_
  refine Yf (b := false) rfl (fun h => by cases h) (fun _ => ?_)
  refine Y3 okJa rfl (by repeat first | with_reducible exact Y2 | refine Y1 (by simp only [Y5, Y4, Y6, qev, St.ev, St.put, qint, Yc, Ya, qbin, Y8, Y7, if_true, if_false, decide_false, hn1, ZA]; rfl) ?_) ?_
  refine Yf (b := false) rfl (fun h => by cases h) (fun _ => ?_)
  refine tri_skip ?_
  show Tri _ _ _ _
  refine Y3 okJa rfl (by repeat first | with_reducible exact Y2 | refine Y1 (by simp only [Y5, Y4, Y6, qev, St.ev, St.put, Y8, Y7, ZA]; rfl) ?_) ?_
  refine seq_in ?_
  refine Y3 okJa rfl (by repeat first | with_reducible exact Y2 | refine Y1 (by simp only [Y5, Y4, Y6, qev, St.ev, St.put, qint, Yc, Ya, qbin, qlen, qbuiltin, Y8, Y7, if_true, if_false, tk9, ZA]; rfl) ?_) ?_
  refine Yf rfl (fun c0 => ?_) (fun c0 => ?_)
  ·
   simp only [decide_eq_true_eq] at c0
   refine seq_in ?_
   refine Y3 okJa rfl (by repeat first | with_reducible exact Y2 | refine Y1 (by simp only [Y5, Y4, Y6, qev, St.ev, St.put, qint, Yc, Ya, qbin, qlen, qbuiltin, Y8, Y7, if_true, if_false, decide_true, hlm, hq1, hq2, hrlz, hdv, List.length_map, tk28, tk9, c0, show IntKind.i64.wrap (↑rr.length : Int) = _ from wrap_i64 _ (by omega) (by omega), show IntKind.i64.wrap (↑dv : Int) = _ from wrap_i64 _ (by omega) (by omega), ZA]; rfl) ?_) ?_
   refine Yf rfl (fun c1 => ?_) (fun c1 => ?_)
   ·
    simp only [decide_eq_true_eq] at c1
    (exfalso; omega)
   ·
    simp only [decide_eq_false_iff_not] at c1
    refine Ye ?_
    refine Yk okJa rfl (by repeat first | with_reducible exact Y2 | refine Y1 (by simp only [Y5, Y4, Y6, qev, St.ev, St.put, qint, Yc, Ya, qbin, qlen, qbuiltin, Y8, Y7, if_true, if_false, decide_false, Int.zero_add, hlm, hq1, hq2, hmul, List.length_map, tk28, tk9, c1, show IntKind.i64.wrap (↑rr.length : Int) = _ from wrap_i64 _ (by omega) (by omega), show IntKind.i64.wrap (↑sn : Int) = _ from wrap_i64 _ (by omega) (by omega), ZA]; rfl) ?_) ?_
    show Tri _ _ _ _
    refine seq_cut (fun A' => ∃ n : Nat, 0 < n ∧ n ≤ 35184372088832 ∧ St.Le A' ⟨[.c (.s false 1 ((x :: rr).map strC)), .c (.v (.string sep)), .o, .o, .c (.v (.string ⟨#[]⟩)), .c (.v (.int .i64 (n : Nat))), .o, .o, .o, .o, .o, .o, .o, .o, .o, .o, .o, .o, .o, .o, .o, .o, .o, .o, .o, .o, .o, .o, .o, .o, .o, .o, .o, .o, .o, .o, .o, .o, .o, .o, .o, .o, .o, .o, .o, .o, .o, .o, .o, .o, .o, .o, .o, .o, .o, .o, .o, .o, .o, .o, .o, .o, .o, .o, .o, .o, .o, .o, .o, .o, .o, .o, .o, .o, .o], []⟩) ?_ ?_
    ·
     rintro A' ⟨n, hn0, hn1, hle⟩
     refine tri_le hle ?_
     have hG := grow_at n hn0 hn1
     have hxl := dl_len x
     have hW0 := ws_at [] x (by simp; omega)
     rw [List.nil_append] at hW0
     refine seq_runR ?_
     refine rr_bld 5 rfl rfl Try.zeroValue69 (rr_nil ?_)
     refine Y3 okJa rfl (by repeat first | with_reducible exact Y2 | refine Y1 (by simp only [Y5, Y4, Y6, evsA, qev, St.ev, St.put, St.with, D.cell, C.cpy, C.cp, C.dat, Bool.and_true, Nat.reduceEqDiff, if_true, if_false, beq_self_eq_true, Bool.true_or, callP, callO, Fs.none, dedup, rootsD, rootsC, List.flatMap_cons, List.flatMap_nil, List.filterMap_cons, List.filterMap_nil, Yg, argD, argC, List.contains_nil, objsAt, objOf, List.idxOf?, List.findIdx?, List.findIdx?.go, setObjs, settle, settleDs, FsJa, hG, strC, ZA]; rfl) ?_) ?_
     refine Y3 okJa rfl (by repeat first | with_reducible exact Y2 | refine Y1 (by simp only [Y5, Y4, Y6, evsA, qev, St.ev, St.put, St.with, D.cell, D.int, qload, Y9, qmk, C.cpy, TK.agg, qindexAddr, C.cp, C.dat, Y8, Y7, Bool.and_true, Nat.reduceEqDiff, if_true, if_false, ne_eq, reduceCtorEq, Int.reduceLE, beq_self_eq_true, Bool.true_or, callP, callO, Fs.none, dedup, rootsD, rootsC, List.flatMap_cons, List.flatMap_nil, List.filterMap_cons, List.filterMap_nil, Yg, argD, argC, List.contains_nil, objsAt, objOf, List.idxOf?, List.findIdx?, List.findIdx?.go, setObjs, settle, settle1, settleC, settleDs, FsJa, hq1, List.length_map, Int.toNat_zero, hW0, tk28, tk9, tsz9, show (0 < (↑rr.length : Int) + 1) = True from eq_true (by omega), ZA]; rfl) ?_) ?_
     refine seq_in ?_
     refine Y3 okJa rfl (by repeat first | with_reducible exact Y2 | refine Y1 (by simp only [Y5, Y4, Y6, qev, St.ev, St.put, D.int, qbounds, qslice, qlen, omap, qbuiltin, Y8, Y7, if_true, ne_eq, reduceCtorEq, Int.reduceLE, Int.reduceToNat, htk, hlm2, hq1, List.length_map, tk28, tsz9, show (1 ≤ (↑rr.length : Int) + 1) = True from eq_true (by omega), ZA]; rfl) ?_) ?_
     refine tri_block ?_
     refine tri_loop_le (fun m A => ∃ (j : Nat) (acc : List UInt8), m + j = rr.length ∧ acc.length ≤ (j + 1) * 1073741924 ∧ joinGo sep (rr.drop j) acc = joinGo sep rr x.data.toList ∧ A = ⟨[.c (.s false 1 ((x :: rr).map strC)), .c (.v (.string sep)), .o, .o, .c (.v (.string ⟨#[]⟩)), .o, .o, .o, .c (.p 0 0 0), .o, .o, .o, .o, .o, .o, .o, .o, .o, .o, .o, .o, .o, .o, .o, .o, .o, .o, .o, .o, .o, .o, .o, .o, .o, .o, .o, .o, .o, .o, .o, .o, .o, .o, .o, .o, .o, .o, .o, .o, .o, .o, .o, .o, .o, .o, .o, .o, .o, .o, .o, .o, .o, .o, .c (.s false 1 (rr.map strC)), .c (.v (.int .i64 (rr.length : Nat))), .c (.v (.int .i64 (j : Nat))), .o, .o, .o, .o, .o, .o, .o, .o, .o], [some ⟨false, 2, [[.b 69, .u 5 (acc)]]⟩]⟩) rr.length (B := ⟨[.c (.s false 1 ((x :: rr).map strC)), .c (.v (.string sep)), .o, .o, .c (.v (.string ⟨#[]⟩)), .o, .o, .o, .c (.p 0 0 0), .o, .o, .o, .o, .o, .o, .o, .o, .o, .o, .o, .o, .o, .o, .o, .o, .o, .o, .o, .o, .o, .o, .o, .o, .o, .o, .o, .o, .o, .o, .o, .o, .o, .o, .o, .o, .o, .o, .o, .o, .o, .o, .o, .o, .o, .o, .o, .o, .o, .o, .o, .o, .o, .o, .c (.s false 1 (rr.map strC)), .c (.v (.int .i64 (rr.length : Nat))), .c (.v (.int .i64 (0 : Nat))), .o, .o, .o, .o, .o, .o, .o, .o, .o], [some ⟨false, 2, [[.b 69, .u 5 (x.data.toList)]]⟩]⟩) ⟨by repeat (first | exact .nil | refine .same ?_ | refine .o ?_), rfl⟩ ⟨0, x.data.toList, rfl, by omega, rfl, rfl⟩ ?_
     rintro m A ⟨j, acc, hm, hacc, hk, rfl⟩
     have hj1 : (j : Int) + 1 = ((j + 1 : Nat) : Int) := by omega
     have hjb : j ≤ 1000 := by omega
     have hg : ((j : Nat) : Int) < ((rr.length : Nat) : Int) → rr[j]? = some (rr.getD j ⟨#[]⟩) := fun h => get_at _ (by omega)
     have hgz := getD_size hrz j
     have hsl := dl_len sep
     have hzl := dl_len (rr.getD j ⟨#[]⟩)
     have hW1 := ws_at acc sep (by omega)
     have hW2 := ws_at (acc ++ sep.data.toList) (rr.getD j ⟨#[]⟩) (by rw [List.length_append]; omega)
     have hSt := str_at acc (by omega)
     have hmj : (rr.map strC)[j]? = Option.map strC (rr[j]?) := List.getElem?_map
     refine Y3 okJa rfl (by repeat first | with_reducible exact Y2 | refine Y1 (by simp only [Y5, Y4, Y6, qev, St.ev, St.put, qint, Yc, Ya, qbin, if_true, if_false, strC, strC, ZA]; rfl) ?_) ?_
     refine seq_in (Yf rfl (fun c2 => ?_) (fun c2 => ?_))
     ·
      simp only [decide_eq_true_eq] at c2
      refine Ye ?_
      refine seq_in (tri_block ?_)
      refine Y3 okJa rfl (by repeat first | with_reducible exact Y2 | refine Y1 (by simp only [Y5, Y4, Y6, qev, St.ev, St.put, D.int, qload, Y9, qmk, C.cpy, TK.agg, qindexAddr, C.cp, if_true, if_false, decide_true, ne_eq, reduceCtorEq, Int.toNat_natCast, Int.natCast_nonneg, List.length_map, Int.toNat_natCast, strC, hg, hmj, strC, tk28, tk9, tsz9, c2, ZA]; rfl) ?_) ?_
      refine Y3 okJa rfl (by repeat first | with_reducible exact Y2 | refine Y1 (by simp only [Y5, Y4, Y6, evsA, qev, St.ev, St.put, St.with, D.cell, C.cpy, C.cp, C.dat, Bool.and_true, Nat.reduceEqDiff, if_true, if_false, beq_self_eq_true, Bool.true_or, callP, callO, Fs.none, dedup, rootsD, rootsC, List.flatMap_cons, List.flatMap_nil, List.filterMap_cons, List.filterMap_nil, Yg, argD, argC, List.contains_nil, objsAt, objOf, List.idxOf?, List.findIdx?, List.findIdx?.go, setObjs, settle, settle1, settleC, settleDs, FsJa, hW1, ZA]; rfl) ?_) ?_
      refine Yk okJa rfl (by repeat first | with_reducible exact Y2 | refine Y1 (by simp only [Y5, Y4, Y6, evsA, qev, St.ev, St.put, St.with, D.cell, C.cpy, C.cp, C.dat, Bool.and_true, Nat.reduceEqDiff, if_true, if_false, beq_self_eq_true, Bool.true_or, callP, callO, Fs.none, dedup, rootsD, rootsC, List.flatMap_cons, List.flatMap_nil, List.filterMap_cons, List.filterMap_nil, Yg, argD, argC, List.contains_nil, objsAt, objOf, List.idxOf?, List.findIdx?, List.findIdx?.go, setObjs, settle, settle1, settleC, settleDs, FsJa, hW2, ZA]; rfl) ?_) ?_
      show Tri _ _ _ _
      refine Yk okJa rfl (by repeat first | with_reducible exact Y2 | refine Y1 (by simp only [Y5, Y4, Y6, qev, St.ev, St.put, qint, Yc, Ya, qbin, Y8, Y7, if_true, if_false, hj1, show IntKind.i64.wrap (↑(j + 1) : Int) = _ from wrap_i64 _ (by omega) (by omega), ZA]; rfl) ?_) ?_
      simp only []
      (rw [drop_at ⟨#[]⟩ (show j < rr.length by omega), joinGo] at hk; exact ⟨m - 1, by omega, ⟨[.c (.s false 1 ((x :: rr).map strC)), .c (.v (.string sep)), .o, .o, .c (.v (.string ⟨#[]⟩)), .o, .o, .o, .c (.p 0 0 0), .o, .o, .o, .o, .o, .o, .o, .o, .o, .o, .o, .o, .o, .o, .o, .o, .o, .o, .o, .o, .o, .o, .o, .o, .o, .o, .o, .o, .o, .o, .o, .o, .o, .o, .o, .o, .o, .o, .o, .o, .o, .o, .o, .o, .o, .o, .o, .o, .o, .o, .o, .o, .o, .o, .c (.s false 1 (rr.map strC)), .c (.v (.int .i64 (rr.length : Nat))), .c (.v (.int .i64 (j + 1 : Nat))), .o, .o, .o, .o, .o, .o, .o, .o, .o], [some ⟨false, 2, [[.b 69, .u 5 (acc ++ sep.data.toList ++ (rr.getD j ⟨#[]⟩).data.toList)]]⟩]⟩, ⟨by repeat (first | exact .nil | refine .same ?_ | refine .o ?_), rfl⟩, j + 1, acc ++ sep.data.toList ++ (rr.getD j ⟨#[]⟩).data.toList, by omega, (by rw [List.length_append, List.length_append]; omega), hk, rfl⟩)
     ·
      simp only [decide_eq_false_iff_not] at c2
      refine tri_exit ?_
      show Tri _ _ _ _
      refine Y3 okJa rfl (by repeat first | with_reducible exact Y2 | refine Y1 (by simp only [Y5, Y4, Y6, evsA, qev, St.ev, St.put, St.with, D.cell, C.dat, Bool.and_true, Nat.reduceEqDiff, if_true, if_false, decide_false, beq_self_eq_true, Bool.true_or, callP, callO, Fs.none, dedup, rootsD, rootsC, List.flatMap_cons, List.flatMap_nil, List.filterMap_cons, List.filterMap_nil, Yg, argD, argC, List.contains_nil, objsAt, objOf, List.idxOf?, List.findIdx?, List.findIdx?.go, setObjs, settle, settle1, settleC, FsJa, hSt, c2, ZA]; rfl) ?_) ?_
      refine Yo (Yp (by simp only [outRes, Yi, resD, outD, outC, C.dat, if_true, ZA]; rfl) rfl (by simp) (by simp) ?_)
      (rw [List.drop_of_length_le (by omega)] at hk; rw [show joinGo sep rr x.data.toList = acc from hk.symm] at hQ2; exact hQ2)
    ·
     refine Y3 okJa rfl (by repeat first | with_reducible exact Y2 | refine Y1 (by simp only [Y5, Y4, Y6, qev, St.ev, St.put, qlen, qbuiltin, Y8, Y7, if_true, hlm, hq1, List.length_map, tk28, ZA]; rfl) ?_) ?_
     refine tri_block ?_
     refine tri_loop_le (fun m A => ∃ (j n : Nat), m + j = rr.length + 1 ∧ n ≤ 100000 + j * 1073741824 ∧ 0 < n ∧ A = ⟨[.c (.s false 1 ((x :: rr).map strC)), .c (.v (.string sep)), .o, .o, .c (.v (.string ⟨#[]⟩)), .c (.v (.int .i64 (n : Nat))), .o, .o, .o, .o, .o, .o, .o, .o, .o, .o, .o, .o, .o, .o, .o, .o, .o, .o, .o, .o, .o, .o, .o, .o, .o, .o, .o, .o, .o, .o, .o, .o, .o, .c (.s false 1 ((x :: rr).map strC)), .c (.v (.int .i64 ((rr.length : Int) + 1))), .c (.v (.int .i64 (j : Nat))), .o, .o, .o, .o, .o, .o, .o, .o, .o, .o, .o, .o, .o, .o, .o, .o, .o, .o, .o, .o, .o, .o, .o, .o, .o, .o, .o, .o, .o, .o, .o, .o, .o], []⟩) (rr.length + 1) (B := ⟨[.c (.s false 1 ((x :: rr).map strC)), .c (.v (.string sep)), .o, .o, .c (.v (.string ⟨#[]⟩)), .c (.v (.int .i64 (sn : Nat))), .o, .o, .o, .o, .o, .o, .o, .o, .o, .o, .o, .o, .o, .o, .o, .o, .o, .o, .o, .o, .o, .o, .o, .o, .o, .o, .o, .o, .o, .o, .o, .o, .o, .c (.s false 1 ((x :: rr).map strC)), .c (.v (.int .i64 ((rr.length : Int) + 1))), .c (.v (.int .i64 (0 : Nat))), .o, .o, .o, .o, .o, .o, .o, .o, .o, .o, .o, .o, .o, .o, .o, .o, .o, .o, .o, .o, .o, .o, .o, .o, .o, .o, .o, .o, .o, .o, .o, .o, .o], []⟩) ⟨by repeat (first | exact .nil | refine .same ?_ | refine .o ?_), rfl⟩ ⟨0, sn, rfl, by omega, hmul3, rfl⟩ ?_
     rintro m A ⟨j, n, hm, hn, hnp, rfl⟩
     have hj1 : (j : Int) + 1 = ((j + 1 : Nat) : Int) := by omega
     have hjb : j ≤ 1001 := by omega
     have hg : ((j : Nat) : Int) < ((rr.length : Nat) : Int) + 1 → (x :: rr)[j]? = some ((x :: rr).getD j ⟨#[]⟩) := fun h => get_at _ (by rw [List.length_cons]; omega)
     have hgz := getD_size hsz j
     have hgm : ((x :: rr).getD j ⟨#[]⟩).size ≤ maxStr := (by unfold maxStr; omega)
     obtain ⟨z, hz⟩ : ∃ z, (x :: rr).getD j ⟨#[]⟩ = z := ⟨_, rfl⟩
     rw [hz] at hg hgz hgm
     have hmj : ((x :: rr).map strC)[j]? = Option.map strC ((x :: rr)[j]?) := List.getElem?_map
     obtain ⟨rows, hrows⟩ : ∃ rows, (x :: rr).map strC = rows := ⟨_, rfl⟩
     rw [hrows] at hmj ⊢
     have hgr : ((j : Nat) : Int) < ((rr.length : Nat) : Int) + 1 → rows[j]? = some [.v (.string z)] := (by intro h; rw [hmj, hg h]; rfl)
     have hrwl : rows.length = rr.length + 1 := (by rw [← hrows, List.length_map, List.length_cons])
     have hadd : (n : Int) + (z.size : Int) = ((n + z.size : Nat) : Int) := (by omega)
     refine Y3 okJa rfl (by repeat first | with_reducible exact Y2 | refine Y1 (by simp only [Y5, Y4, Y6, qev, St.ev, St.put, qint, Yc, Ya, qbin, if_true, if_false, ZA]; rfl) ?_) ?_
     refine seq_in (Yf rfl (fun c3 => ?_) (fun c3 => ?_))
     ·
      simp only [decide_eq_true_eq] at c3
      refine Ye ?_
      refine seq_in (tri_block ?_)
      refine Y3 okJa rfl (by repeat first | with_reducible exact Y2 | refine Y1 (by simp only [Y5, Y4, Y6, qev, St.ev, St.put, D.int, qload, Y9, qmk, C.cpy, TK.agg, qindexAddr, C.cp, if_true, if_false, decide_true, ne_eq, reduceCtorEq, hq1, Int.toNat_natCast, Int.natCast_nonneg, hgr, hrwl, tk28, tk9, c3, tsz9, ZA]; rfl) ?_) ?_
      refine seq_in ?_
      refine Y3 okJa rfl (by repeat first | with_reducible exact Y2 | refine Y1 (by simp only [Y5, Y4, Y6, qev, St.ev, St.put, qint, Yc, Ya, qbin, qlen, qbuiltin, Y8, Y7, if_true, if_false, tk9, show IntKind.i64.wrap (9223372036854775807 - (↑n : Int)) = _ from wrap_i64 _ (by omega) (by omega), ZA]; rfl) ?_) ?_
      refine Yf rfl (fun c4 => ?_) (fun c4 => ?_)
      ·
       simp only [decide_eq_true_eq] at c4
       (exfalso; omega)
      ·
       simp only [decide_eq_false_iff_not] at c4
       refine Ye ?_
       refine Yk okJa rfl (by repeat first | with_reducible exact Y2 | refine Y1 (by simp only [Y5, Y4, Y6, qev, St.ev, St.put, qint, Yc, Ya, qbin, qlen, qbuiltin, if_true, if_false, decide_false, hadd, tk9, c4, show IntKind.i64.wrap (↑(n + z.size) : Int) = _ from wrap_i64 _ (by omega) (by omega), ZA]; rfl) ?_) ?_
       show Tri _ _ _ _
       refine Yk okJa rfl (by repeat first | with_reducible exact Y2 | refine Y1 (by simp only [Y5, Y4, Y6, qev, St.ev, St.put, qint, Yc, Ya, qbin, Y8, Y7, if_true, if_false, hj1, show IntKind.i64.wrap (↑(j + 1) : Int) = _ from wrap_i64 _ (by omega) (by omega), ZA]; rfl) ?_) ?_
       simp only []
       (exact ⟨m - 1, by omega, ⟨[.c (.s false 1 (rows)), .c (.v (.string sep)), .o, .o, .c (.v (.string ⟨#[]⟩)), .c (.v (.int .i64 (n + z.size : Nat))), .o, .o, .o, .o, .o, .o, .o, .o, .o, .o, .o, .o, .o, .o, .o, .o, .o, .o, .o, .o, .o, .o, .o, .o, .o, .o, .o, .o, .o, .o, .o, .o, .o, .c (.s false 1 (rows)), .c (.v (.int .i64 ((rr.length : Int) + 1))), .c (.v (.int .i64 (j + 1 : Nat))), .o, .o, .o, .o, .o, .o, .o, .o, .o, .o, .o, .o, .o, .o, .o, .o, .o, .o, .o, .o, .o, .o, .o, .o, .o, .o, .o, .o, .o, .o, .o, .o, .o], []⟩, ⟨(by repeat (first | exact .nil | refine .same ?_ | refine .o ?_)), rfl⟩, j + 1, n + z.size, by omega, by omega, by omega, rfl⟩)
     ·
      simp only [decide_eq_false_iff_not] at c3
      refine tri_exit ?_
      simp only []
      (exact ⟨n, hnp, by omega, ⟨(by repeat (first | exact .nil | refine .same ?_ | refine .o ?_)), rfl⟩⟩)
  ·
   simp only [decide_eq_false_iff_not] at c0
   (exfalso; omega)
end Go.Dl

namespace Go.Dl
open Go.RowKit
open Go.Proofs
set_option linter.unusedSimpArgs false
set_option linter.unusedVariables false
def comSp : ByteArray := ⟨#[44, 32]⟩
def namesB (l : List ByteArray) : ByteArray := ⟨#[91]⟩ ++ joinB comSp (l.map quotedF) ++ ⟨#[93]⟩
def namesPre (l : List ByteArray) : Prop := l.length ≤ 200 ∧ ∀ s ∈ l, s.size ≤ 100000
theorem joinGo_len (sep : ByteArray) (hs : sep.size ≤ 100) (b : Nat) : ∀ (l : List ByteArray) (a : List UInt8), (∀ s ∈ l, s.size ≤ b) → (joinGo sep l a).length ≤ a.length + l.length * (100 + b)
 | [], a, h => by simp [joinGo]
 | x :: r, a, h => by
  have h1 := h x (List.mem_cons_self ..)
  have h2 := joinGo_len sep hs b r (a ++ sep.data.toList ++ x.data.toList) (fun s hs => h s (List.mem_cons_of_mem _ hs))
  have e1 := dl_len sep
  have e2 := dl_len x
  rw [List.length_append, List.length_append] at h2
  rw [joinGo, List.length_cons, Nat.add_mul]
  omega
theorem joinB_size {sep : ByteArray} (hs : sep.size ≤ 100) {b : Nat} {l : List ByteArray} (h : ∀ s ∈ l, s.size ≤ b) : (joinB sep l).size ≤ (l.length + 1) * (100 + b) := by
 match l, h with
 | [], h => exact Nat.zero_le _
 | [x], h =>
  have := h x (List.mem_cons_self ..)
  show x.size ≤ _
  rw [List.length_singleton]; omega
 | x :: y :: r, h =>
  have h1 := h x (List.mem_cons_self ..)
  have h2 := joinGo_len sep hs b (y :: r) x.data.toList (fun s hs => h s (List.mem_cons_of_mem _ hs))
  have e2 := dl_len x
  show (joinGo sep (y :: r) x.data.toList).toArray.size ≤ _
  rw [List.size_toArray]
  have e3 : ((x :: y :: r).length + 1) * (100 + b) = (y :: r).length * (100 + b) + 2 * (100 + b) := by rw [List.length_cons, Nat.add_assoc, Nat.add_mul]
  rw [e3]
  omega
noncomputable def FsJb : Fs := { Fs.none with pure := fun k => if k = 14 then some pQuoted else if k = 46 then some pJoin else none }
theorem okJb : FsOK Try.prog FsJb := by
 refine ⟨fun k f h => ?_, fun _ _ h => (by cases h)⟩
 simp only [FsJb] at h
 split at h
 · rename_i hk; subst hk; cases h; exact ⟨by kernel_rfl, meets14⟩
 split at h
 · rename_i hk; subst hk; cases h; exact ⟨by kernel_rfl, meets46⟩
 · cases h
noncomputable def pList : List D → Option D := famP (fun x : Option (List ByteArray) => namesPre (x.getD [])) (fun x => [.c (namesC false x)]) (fun x => .c (.v (.string (namesB (x.getD [])))))
theorem namesC_inj0 {f g : Option (List ByteArray)} (h : namesC false f = namesC false g) : f = g := by
 unfold namesC at h
 cases f <;> cases g
 · rfl
 · simp at h
 · simp at h
 · simp only [Option.isNone_some, Bool.and_false, Option.elim_some, C.s.injEq, true_and] at h
   rw [strs_inj h]
theorem list_at (x : Option (List ByteArray)) (h : namesPre (x.getD [])) : pList [.c (namesC false x)] = some (.c (.v (.string (namesB (x.getD []))))) := Ym (fun a b h => by
 simp only [List.cons.injEq, D.c.injEq, and_true] at h
 rw [namesC_inj0 h]) x h rfl
set_option maxHeartbeats 2000000 in
theorem meets65 : Meets Try.prog 65 (pureS pList) := by
 refine Yn (show Try.prog.funcs[65]? = some Try.f65 by kernel_rfl) rfl (n := 22) rfl (rs := [ResultVar.tmp 2]) rfl ?_
 intro o hpre Q hQ
 have hgen : ∃ (l : List ByteArray) (es : Nat), namesC false o = .s false es (l.map strC) ∧ o.getD [] = l ∧ (0 < l.length → es = 1) := by
  cases o with
  | none => exact ⟨[], 0, rfl, rfl, fun h => absurd h (by simp)⟩
  | some l => exact ⟨l, 1, rfl, rfl, fun _ => rfl⟩
 obtain ⟨l, es, ho, hol, hes⟩ := hgen
 rw [hol] at hpre hQ
 rw [ho]
 obtain ⟨hl, hsz⟩ := hpre
 have hlm : l.length ≤ maxStr := by unfold maxStr; omega
 have hJp : joinPre (l.map quotedF, comSp) := ⟨by rw [List.length_map]; omega, fun s hs => by
  obtain ⟨x, hx, rfl⟩ := List.mem_map.1 hs
  have := quotedB_le x (hsz x hx); omega, show 0 < comSp.size by decide, show comSp.size ≤ 100 by decide⟩
 have hJ := join_at (l.map quotedF) comSp hJp
 have hJz := joinB_size (sep := comSp) (by decide) (b := 400002) (l := l.map quotedF) (fun s hs => by
  obtain ⟨x, hx, rfl⟩ := List.mem_map.1 hs
  exact quotedB_le x (hsz x hx))
 rw [List.length_map] at hJz
 have hJz2 : (l.length + 1) * (100 + 400002) ≤ 201 * 400102 := Nat.mul_le_mul (by omega) (by omega)
 have hA1 : (⟨#[91]⟩ : ByteArray).size + (joinB comSp (l.map quotedF)).size ≤ maxStr := by show 1 + _ ≤ maxStr; unfold maxStr; omega
 have hA2 : (⟨#[91]⟩ ++ joinB comSp (l.map quotedF) : ByteArray).size + (⟨#[93]⟩ : ByteArray).size ≤ maxStr := by rw [ByteArray.size_append]; show 1 + (joinB comSp (l.map quotedF)).size + 1 ≤ maxStr; unfold maxStr; omega
 unfold comSp at hJ
 have hc0 : ((0 : Nat) : Int) = 0 := rfl
 unfold namesB comSp at hQ
 unfold comSp at hA1 hA2
 generalize hql : l.map quotedF = ql at hJ hA1 hA2 hQ
 have hqll : ql.length = l.length := by rw [← hql, List.length_map]
 have hcp := str_cp ql
 refine Y3 okJb rfl (by repeat first | with_reducible exact Y2 | refine Y1 (by simp only [Y5, Y4, Y6, qev, St.ev, St.put, Y8, Y7, List.replicate, Nat.reduceSub, ZA]; rfl) ?_) ?_
 refine Y3 okJb rfl (by repeat first | with_reducible exact Y2 | refine Y1 (by simp only [Y5, Y4, Y6, qev, St.ev, St.put, Y8, Y7, ZA]; rfl) ?_) ?_
 refine seq_in ?_
 refine Y3 okJb rfl (by repeat first | with_reducible exact Y2 | refine Y1 (by simp only [Y5, Y4, Y6, qev, St.ev, St.put, qlen, qbuiltin, Y8, Y7, if_true, hlm, List.length_map, tk28, ZA]; rfl) ?_) ?_
 refine tri_block ?_
 refine tri_nil 3 1 rfl ?_
 show Tri _ _ _ _
 refine tri_loop_le (fun m A => ∃ (j : Nat) (T : List (Option Root)), m + j = l.length ∧ A = ⟨[.o, .o, .c (.v (.string ⟨#[]⟩)), .c (.h 0 0 (j)), .o, .o, .c (.s false es (l.map strC)), .c (.v (.int .i64 (l.length : Nat))), .c (.v (.int .i64 (j : Nat))), .o, .o, .o, .o, .o, .o, .o, .o, .o, .o, .o, .o, .o], some ⟨true, 1, (ql.take j).map strC⟩ :: T⟩) l.length (B := ⟨[.o, .o, .c (.v (.string ⟨#[]⟩)), .c (.h 0 0 (0)), .o, .o, .c (.s false es (l.map strC)), .c (.v (.int .i64 (l.length : Nat))), .c (.v (.int .i64 (0 : Nat))), .o, .o, .o, .o, .o, .o, .o, .o, .o, .o, .o, .o, .o], some ⟨true, 1, []⟩ :: []⟩) ⟨by repeat (first | exact .nil | refine .same ?_ | refine .o ?_), rfl⟩ ⟨0, [], rfl, rfl⟩ ?_
 rintro m A ⟨j, T, hm, rfl⟩
 have hj1 : (j : Int) + 1 = ((j + 1 : Nat) : Int) := by omega
 have hg : ((j : Nat) : Int) < ((l.length : Nat) : Int) → l[j]? = some (l.getD j ⟨#[]⟩) := fun h => get_at _ (by omega)
 have hE : ((j : Nat) : Int) < ((l.length : Nat) : Int) → es = 1 := fun h => hes (by omega)
 have hgz := getD_size hsz j
 have hQd := quoted_at (l.getD j ⟨#[]⟩) (by omega)
 have hqj : ((j : Nat) : Int) < ((l.length : Nat) : Int) → (ql.take (j + 1)).map strC = (ql.take j).map strC ++ [strC (quotedF (l.getD j ⟨#[]⟩))] := (by intro h; have h2 : j < ql.length := (by omega); rw [List.take_succ_eq_append_getElem h2, List.map_append]; congr 2; subst hql; simp [] at *; congr 1; simp [show j < l.length by omega])
 have hend : ¬ ((j : Nat) : Int) < ((l.length : Nat) : Int) → ql.take j = ql := fun h => List.take_of_length_le (by omega)
 have hjl : ¬ ((j : Nat) : Int) < ((l.length : Nat) : Int) → (ql.map strC).take j = ql.map strC := fun h => List.take_of_length_le (by rw [List.length_map]; omega)
 have hjle : ¬ ((j : Nat) : Int) < ((l.length : Nat) : Int) → j ≤ ql.length := fun h => (by omega)
 have ht0 : ((ql.take j).map strC).take j = (ql.take j).map strC := List.take_of_length_le (by rw [List.length_map]; exact List.length_take_le _ _)
 have hne : ∀ k : Nat, (k + 1 != 0) = true := (by intro k; simp)
 have hz : (j + 1) * 16 ≤ 140737488355328 := (by omega)
 have hnb := str_nb (ql.take j)
 refine Y3 okJb rfl (by repeat first | with_reducible exact Y2 | refine Y1 (by simp only [Y5, Y4, Y6, qev, St.ev, St.put, qint, Yc, Ya, qbin, if_true, if_false, ZA]; rfl) ?_) ?_
 refine seq_in (Yf rfl (fun a0 => ?_) (fun a0 => ?_))
 ·
  simp only [decide_eq_true_eq] at a0
  refine Ye ?_
  refine seq_in (tri_block ?_)
  refine Y3 okJb rfl (by repeat first | with_reducible exact Y2 | refine Y1 (by simp only [Y5, Y4, Y6, qev, St.ev, St.put, D.int, qload, Y9, qmk, C.cpy, TK.agg, qindexAddr, C.cp, if_true, if_false, decide_true, ne_eq, reduceCtorEq, Int.toNat_natCast, Int.natCast_nonneg, List.length_map, hg, hE, List.getElem?_map, strC, tk28, a0, tsz9, tk9, ZA]; rfl) ?_) ?_
  refine Yk okJb rfl (by repeat first | with_reducible exact Y2 | refine Y1 (by simp only [Y5, Y4, Y6, evsA, qev, St.ev, St.put, St.with, D.cells, C.cpy, C.st, C.cp, C.dat, putCells, Nat.reduceMul, Nat.reduceEqDiff, if_true, if_false, ne_eq, reduceCtorEq, Nat.reduceLeDiff, Nat.le_refl, bne_self_eq_false, Bool.true_or, callP, Fs.none, Yg, argD, argC, settle, settle1, settleC, FsJb, hQd, ht0, hne, hz, hnb, last_get, buildSliceA, partsA, fillA, reps, chop, tkApp, appendA, srcRows, srcOther, D.kill, D.no, C.no, killH, Root.kill, tk28, tsz9, tz9, bo9, ZA]; rfl) ?_) ?_
  show Tri _ _ _ _
  refine Yk okJb rfl (by repeat first | with_reducible exact Y2 | refine Y1 (by simp only [Y5, Y4, Y6, qev, St.ev, St.put, qint, Yc, Ya, qbin, Y8, Y7, if_true, if_false, hj1, show IntKind.i64.wrap (↑(j + 1) : Int) = _ from wrap_i64 _ (by omega) (by omega), ZA]; rfl) ?_) ?_
  (exact ⟨m - 1, by omega, ⟨[.o, .o, .c (.v (.string ⟨#[]⟩)), .c (.h 0 0 (j + 1)), .o, .o, .c (.s false es (l.map strC)), .c (.v (.int .i64 (l.length : Nat))), .c (.v (.int .i64 (j + 1 : Nat))), .o, .o, .o, .o, .o, .o, .o, .o, .o, .o, .o, .o, .o], some ⟨true, 1, (ql.take (j + 1)).map strC⟩ :: _⟩, ⟨(by rw [hE (by omega)]; repeat (first | exact .nil | refine .same ?_ | refine .o ?_)), (by rw [hqj (by omega)]; rfl)⟩, j + 1, _, by omega, rfl⟩)
 ·
  simp only [decide_eq_false_iff_not] at a0
  refine tri_exit ?_
  show Tri _ _ _ _
  refine Y3 okJb rfl (by repeat first | with_reducible exact Y2 | refine Y1 (by simp only [Y5, Y4, Y6, evsA, qev, St.ev, St.put, St.with, C.cpy, qstr, qbin, C.cp, C.dat, Y8, Y7, Nat.reduceEqDiff, if_true, if_false, decide_false, Bool.false_or, callP, callO, Fs.none, Yg, argD, argC, List.idxOf?, List.findIdx?, List.findIdx?.go, settle, settle1, settleC, List.isEmpty_cons, FsJb, hJ, hA1, hA2, hcp, hqll, List.length_map, hend, hjl, a0, show (j ≤ l.length) = True from eq_true (by omega), ZA]; rfl) ?_) ?_
  refine Yo (Yp (by simp only [outRes, Yi, resD, outD, outC, C.dat, if_true, ZA]; rfl) rfl (by simp) (by simp) ?_)
  with_reducible exact hQ
def fldB (f : Fld) : ByteArray := quotedF f.1 ++ ⟨#[61]⟩ ++ valueB f.2
def papGo : List Fld → Nat → List UInt8 → List UInt8
 | [], _, a => a
 | f :: r, i, a => papGo r (i + 1) ((if 0 < i then a ++ [44, 32] else a) ++ (fldB f).data.toList)
def papHead (p : Paper) : ByteArray := quotedF p.1 ++ ⟨#[32]⟩ ++ wholeB p.2.1 ++ ⟨#[32, 40]⟩
/-- A paper as a script says it. -/
def paperB (p : Paper) : ByteArray := ⟨(papGo p.2.2 0 (papHead p).data.toList).toArray⟩ ++ ⟨#[41]⟩
def fldPre (f : Fld) : Prop := f.1.size ≤ 100000 ∧ valPre f.2
def paperPre (p : Paper) : Prop := p.1.size ≤ 100000 ∧ inR .i64 p.2.1 = true ∧ p.2.2.length ≤ 200 ∧ ∀ f ∈ p.2.2, fldPre f
theorem wholeB_size (n : Int) : (wholeB n).size ≤ 22 := by
 unfold wholeB
 split
 · have := decB_size (-n).toNat
   rw [ByteArray.size_append]; show 1 + _ ≤ 22; omega
 · have := decB_size n.toNat; omega
theorem valueB_size {v : Val} (h : valPre v) : (valueB v).size ≤ 400010 := by
 have hw := wholeB_size v.2.2.1
 have hq := quotedB_le v.2.2.2.2 h.2.2
 have hx16 : (hexB v.2.2.2.1.toNat).size = 16 := by show ((hexN 16 _).toArray).size = 16; rw [List.size_toArray, hexN_len]
 have hh := quotedB_le (hexB v.2.2.2.1.toNat) (by omega)
 unfold valueB
 split
 · decide
 split
 · split <;> decide
 split
 · omega
 split
 · rw [ByteArray.size_append, ByteArray.size_append]; show 6 + _ + 1 ≤ 400010; omega
 split
 · omega
 · decide
def papC2 (es : Nat) (p : Paper) : List C := [.v (.string p.1), .v (.int .i64 p.2.1), .s false es (p.2.2.map fldC)]
noncomputable def FsJc : Fs := { pure := fun k => if k = 14 then some pQuoted else if k = 37 then some pWhole else if k = 16 then some pValueB else none, objs := fun k => if k = 34 then some oWS else if k = 35 then some oStr else none }
theorem okJc : FsOK Try.prog FsJc := by
 refine ⟨fun k f h => ?_, fun k f h => ?_⟩
 · simp only [FsJc] at h
   split at h
   · rename_i hk; subst hk; cases h; exact ⟨by kernel_rfl, meets14⟩
   split at h
   · rename_i hk; subst hk; cases h; exact ⟨by kernel_rfl, meets37⟩
   split at h
   · rename_i hk; subst hk; cases h; exact ⟨by kernel_rfl, meets16⟩
   · cases h
 · simp only [FsJc] at h
   split at h
   · rename_i hk; subst hk; cases h; exact ⟨by kernel_rfl, meets34⟩
   split at h
   · rename_i hk; subst hk; cases h; exact ⟨by kernel_rfl, meets35⟩
   · cases h
noncomputable def pPaperB : List D → Option D := famP (fun x : Nat × Paper => paperPre x.2 ∧ (0 < x.2.2.2.length → x.1 = 6)) (fun x => [.agg (papC2 x.1 x.2)]) (fun x => .c (.v (.string (paperB x.2))))
theorem paperB_at (es : Nat) (p : Paper) (h : paperPre p) (he : 0 < p.2.2.length → es = 6) : pPaperB [.agg (papC2 es p)] = some (.c (.v (.string (paperB p)))) := Ym (fun a b h => by
 obtain ⟨a, a1, a2, a3⟩ := a
 obtain ⟨b, b1, b2, b3⟩ := b
 simp only [papC2, List.cons.injEq, D.agg.injEq, C.v.injEq, C.s.injEq, Value.int.injEq, Value.string.injEq, and_true, true_and] at h
 obtain ⟨rfl, rfl, rfl, h⟩ := h
 rw [flds_inj h]) (es, p) ⟨h, he⟩ rfl
set_option maxHeartbeats 4000000 in
theorem meets66 : Meets Try.prog 66 (pureS pPaperB) := by
 refine Yn (show Try.prog.funcs[66]? = some Try.f66 by kernel_rfl) rfl (n := 39) rfl (rs := [ResultVar.tmp 2]) rfl ?_
 rintro ⟨es, id, cls, l⟩ ⟨⟨hid, hcl, hl, hfl⟩, hes⟩ Q hQ
 dsimp only at hid hcl hl hfl hes hQ
 have hlm : l.length ≤ maxStr := by unfold maxStr; omega
 have hQi := quoted_at id (by omega)
 have hqz := quotedB_le id hid
 have hW := whole_at cls hcl
 have hwz := wholeB_size cls
 have hc0 : ((0 : Nat) : Int) = 0 := rfl
 have hA1 : (quotedF id).size + (⟨#[32]⟩ : ByteArray).size ≤ maxStr := by show _ + 1 ≤ maxStr; unfold maxStr; omega
 have hA2 : (quotedF id ++ ⟨#[32]⟩).size + (wholeB cls).size ≤ maxStr := by rw [ByteArray.size_append]; show (quotedF id).size + 1 + _ ≤ maxStr; unfold maxStr; omega
 have hA3 : (quotedF id ++ ⟨#[32]⟩ ++ wholeB cls).size + (⟨#[32, 40]⟩ : ByteArray).size ≤ maxStr := by rw [ByteArray.size_append, ByteArray.size_append]; show (quotedF id).size + 1 + (wholeB cls).size + 2 ≤ maxStr; unfold maxStr; omega
 have hhz : (papHead (id, cls, l)).size ≤ 400100 := by unfold papHead; simp only [ByteArray.size_append]; show (quotedF id).size + 1 + (wholeB cls).size + 2 ≤ _; omega
 have hhd : quotedF id ++ ⟨#[32]⟩ ++ wholeB cls ++ ⟨#[32, 40]⟩ = papHead (id, cls, l) := rfl
 obtain ⟨hd, hhd2⟩ : ∃ hd, papHead (id, cls, l) = hd := ⟨_, rfl⟩
 unfold paperB at hQ
 rw [hhd2] at hhz hhd hQ
 dsimp only at hQ
 have hdl := dl_len hd
 have hW0 := ws_at [] hd (by simp; omega)
 rw [List.nil_append] at hW0
 simp only [papC2]
 refine Y3 ok0 rfl (by repeat first | with_reducible exact Y2 | refine Y1 (by simp only [Y5, Y4, Y6, qev, St.ev, St.put, St.with, D.cells, boxA, C.st, Y8, Y7, List.replicate, Nat.reduceAdd, Nat.reduceSub, if_true, ZA]; rfl) ?_) ?_
 refine seq_runR ?_
 refine rr_bld 5 rfl rfl Try.zeroValue69 (rr_nil ?_)
 refine Yj mixed okJc rfl (by kernel_rfl) ?_
 refine ⟨_, (by repeat first | with_reducible exact Y2 | refine Y1 (by simp only [Y5, Y4, Y6, evsA, qev, St.ev, St.put, St.with, D.cell, qload, Y9, qmk, C.cpy, TK.agg, Yb, qstr, qbin, liveR, C.cp, C.dat, Y8, Y7, Bool.and_true, Nat.reduceEqDiff, if_true, if_false, reduceCtorEq, Nat.add_zero, beq_self_eq_true, Bool.true_or, callP, callO, dedup, rootsD, rootsC, List.flatMap_cons, List.flatMap_nil, List.filterMap_cons, List.filterMap_nil, Yg, argD, argC, List.contains_nil, objsAt, objOf, List.idxOf?, List.findIdx?, List.findIdx?.go, setObjs, settle, settle1, settleC, settleDs, FsJc, hQi, hW, hA1, hA2, hA3, hhd, hW0, tk48, tsz9, tk9, tsz3, tk3, ZA]; rfl) ?_), ?_⟩
 refine seq_in ?_
 refine Y3 okJc rfl (by repeat first | with_reducible exact Y2 | refine Y1 (by simp only [Y5, Y4, Y6, qev, St.ev, St.put, qload, Y9, qmk, C.cpy, TK.agg, Yb, qlen, qbuiltin, liveR, C.cp, Y8, Y7, if_true, if_false, reduceCtorEq, hlm, tk48, List.length_map, tsz46, tk46, ZA]; rfl) ?_) ?_
 refine tri_block ?_
 refine tri_loop_le (fun m A => ∃ (j : Nat) (acc : List UInt8) (T : List (Option Root)), m + j = l.length ∧ acc.length ≤ 400100 + j * 1000000 ∧ papGo (l.drop j) j acc = papGo l 0 hd.data.toList ∧ A = ⟨[.o, .c (.p 0 0 0), .c (.v (.string ⟨#[]⟩)), .c (.p 1 0 0), .o, .o, .o, .o, .o, .o, .o, .o, .o, .o, .o, .o, .o, .c (.s false es (l.map fldC)), .c (.v (.int .i64 (l.length : Nat))), .c (.v (.int .i64 (j : Nat))), .o, .o, .o, .o, .o, .o, .o, .o, .o, .o, .o, .o, .o, .o, .o, .o, .o, .o, .o], some ⟨false, 3, [[.v (.string id), .v (.int .i64 cls), .s false es (l.map fldC)]]⟩ :: some ⟨false, 2, [[.b 69, .u 5 (acc)]]⟩ :: T⟩) l.length (B := ⟨[.o, .c (.p 0 0 0), .c (.v (.string ⟨#[]⟩)), .c (.p 1 0 0), .o, .o, .o, .o, .o, .o, .o, .o, .o, .o, .o, .o, .o, .c (.s false es (l.map fldC)), .c (.v (.int .i64 (l.length : Nat))), .c (.v (.int .i64 (0 : Nat))), .o, .o, .o, .o, .o, .o, .o, .o, .o, .o, .o, .o, .o, .o, .o, .o, .o, .o, .o], some ⟨false, 3, [[.v (.string id), .v (.int .i64 cls), .s false es (l.map fldC)]]⟩ :: some ⟨false, 2, [[.b 69, .u 5 (hd.data.toList)]]⟩ :: []⟩) ⟨by repeat (first | exact .nil | refine .same ?_ | refine .o ?_), rfl⟩ ⟨0, hd.data.toList, [], rfl, by omega, rfl, rfl⟩ ?_
 rintro m A ⟨j, acc, T, hm, hacc, hk, rfl⟩
 have hj1 : (j : Int) + 1 = ((j + 1 : Nat) : Int) := by omega
 have hjb : j ≤ 200 := by omega
 obtain ⟨f, hf⟩ : ∃ f, l.getD j (noText, val0) = f := ⟨_, rfl⟩
 have hg : ((j : Nat) : Int) < ((l.length : Nat) : Int) → l[j]? = some f := (by intro h; rw [← hf]; exact get_at _ (by omega))
 have hE : ((j : Nat) : Int) < ((l.length : Nat) : Int) → es = 6 := fun h => hes (by omega)
 have hfp : fldPre f := (by by_cases h : j < l.length; exact hfl f (List.mem_of_getElem? (hg (by omega))); rw [← hf, List.getD_eq_getElem?_getD, List.getElem?_eq_none (by omega)]; exact ⟨by decide, by decide, by decide, by decide⟩)
 obtain ⟨nm, k, fl, n, b, tx⟩ := f
 have hQn := quoted_at nm (by have := hfp.1; dsimp only at this; omega)
 have hqn := quotedB_le nm hfp.1
 have hV := valueB_at (k, fl, n, b, tx) hfp.2
 have hvz := valueB_size hfp.2
 simp only [valC] at hV
 dsimp only at hvz
 have hB1 : (quotedF nm).size + (⟨#[61]⟩ : ByteArray).size ≤ maxStr := (by show _ + 1 ≤ maxStr; unfold maxStr; omega)
 have hB2 : (quotedF nm ++ ⟨#[61]⟩).size + (valueB (k, fl, n, b, tx)).size ≤ maxStr := (by rw [ByteArray.size_append]; show (quotedF nm).size + 1 + _ ≤ maxStr; unfold maxStr; omega)
 have hfb : quotedF nm ++ ⟨#[61]⟩ ++ valueB (k, fl, n, b, tx) = fldB (nm, k, fl, n, b, tx) := rfl
 obtain ⟨fb, hfb2⟩ : ∃ fb, fldB (nm, k, fl, n, b, tx) = fb := ⟨_, rfl⟩
 have hfz : fb.size ≤ 900000 := (by rw [← hfb2, ← hfb]; simp only [ByteArray.size_append]; show (quotedF nm).size + 1 + _ ≤ _; omega)
 rw [hfb2] at hfb
 have hfbl := dl_len fb
 have hS1 : oWS [.c (.p 0 0 0), .c (.v (.string ⟨#[44, 32]⟩))] [⟨2, [[.b 69, .u 5 acc]]⟩] = some (.t [.c (.v (.int .i64 2)), .c (.v .nilIface)], [⟨2, [[.b 69, .u 5 (acc ++ [44, 32])]]⟩]) := ws_at acc ⟨#[44, 32]⟩ (by show acc.length + 2 ≤ _; omega)
 have hS2 := ws_at acc fb (by omega)
 have hS3 := ws_at (acc ++ [44, 32]) fb (by rw [List.length_append]; show acc.length + 2 + _ ≤ _; omega)
 have hSt := str_at acc (by omega)
 have hAe : (⟨acc.toArray⟩ : ByteArray).size + (⟨#[41]⟩ : ByteArray).size ≤ maxStr := (by show acc.toArray.size + 1 ≤ maxStr; rw [List.size_toArray]; unfold maxStr; omega)
 refine Y3 okJc rfl (by repeat first | with_reducible exact Y2 | refine Y1 (by simp only [Y5, Y4, Y6, qev, St.ev, St.put, qint, Yc, Ya, qbin, if_true, if_false, ZA]; rfl) ?_) ?_
 refine seq_in (Yf rfl (fun b0 => ?_) (fun b0 => ?_))
 ·
  simp only [decide_eq_true_eq] at b0
  refine Ye ?_
  refine seq_in (tri_block ?_)
  refine Y3 okJc rfl (by repeat first | with_reducible exact Y2 | refine Y1 (by simp only [Y5, Y4, Y6, qev, St.ev, St.put, St.with, D.cells, D.int, boxA, qload, Y9, qmk, C.cpy, TK.agg, qindexAddr, C.st, C.cp, C.dat, storeA, putCells, Nat.reduceAdd, if_true, decide_true, ne_eq, reduceCtorEq, Nat.le_refl, implies_true, Int.toNat_natCast, Int.natCast_nonneg, List.length_map, hg, hE, List.getElem?_map, fldC, last_get, last_set, tk91, tsz91, tk46, b0, tz91, ZA]; rfl) ?_) ?_
  refine seq_in ?_
  refine Y3 okJc rfl (by repeat first | with_reducible exact Y2 | refine Y1 (by simp only [Y5, Y4, Y6, qev, St.ev, St.put, qint, Yc, Ya, qbin, Y8, Y7, if_true, if_false, ZA]; rfl) ?_) ?_
  refine Yf rfl (fun b1 => ?_) (fun b1 => ?_)
  ·
   simp only [decide_eq_true_eq] at b1
   refine Yk okJc rfl (by repeat first | with_reducible exact Y2 | refine Y1 (by simp only [Y5, Y4, evsA, St.ev, St.put, St.with, D.cell, C.cpy, C.cp, C.dat, Y8, Y7, Bool.and_true, Nat.reduceEqDiff, if_true, if_false, decide_true, beq_self_eq_true, Bool.true_or, callP, callO, dedup, rootsD, rootsC, List.flatMap_cons, List.flatMap_nil, List.filterMap_cons, List.filterMap_nil, Yg, argD, argC, List.contains_nil, objsAt, objOf, List.idxOf?, List.findIdx?, List.findIdx?.go, setObjs, settle, settle1, settleC, settleDs, FsJc, hS1, b1, ZA]; rfl) ?_) ?_
   show Tri _ _ _ _
   refine any_endE mixed okJc rfl (by kernel_rfl) ?_
   refine ⟨_, (by repeat first | with_reducible exact Y2 | refine Y1 (by simp only [Y5, Y4, Y6, evsA, qev, St.ev, St.put, St.with, D.cell, qload, Y9, qmk, C.cpy, TK.agg, Yb, qstr, qbin, liveR, C.cp, C.dat, Y8, Y7, Bool.and_true, Nat.reduceAdd, Nat.reduceEqDiff, if_true, if_false, reduceCtorEq, Nat.add_zero, beq_self_eq_true, Bool.true_or, callP, callO, dedup, rootsD, rootsC, List.flatMap_cons, List.flatMap_nil, List.filterMap_cons, List.filterMap_nil, Yg, argD, argC, argCs, List.contains_nil, objsAt, objOf, List.idxOf?, List.findIdx?, List.findIdx?.go, setObjs, settle, settle1, settleC, settleDs, FsJc, hQn, hV, hB1, hB2, hfb, hS3, last_get, tk91, tk39, tsz39, tsz9, tk9, ZA]; rfl) ?_), ?_⟩
   show Tri _ _ _ _
   refine Yk okJc rfl (by repeat first | with_reducible exact Y2 | refine Y1 (by simp only [Y5, Y4, Y6, qev, St.ev, St.put, qint, Yc, Ya, qbin, Y8, Y7, if_true, if_false, hj1, show IntKind.i64.wrap (↑(j + 1) : Int) = _ from wrap_i64 _ (by omega) (by omega), ZA]; rfl) ?_) ?_
   simp only []
   (rw [drop_at (noText, val0) (show j < l.length by omega), hf, papGo, if_pos (by omega), hfb2] at hk; exact ⟨m - 1, by omega, ⟨[.o, .c (.p 0 0 0), .c (.v (.string ⟨#[]⟩)), .c (.p 1 0 0), .o, .o, .o, .o, .o, .o, .o, .o, .o, .o, .o, .o, .o, .c (.s false es (l.map fldC)), .c (.v (.int .i64 (l.length : Nat))), .c (.v (.int .i64 (j + 1 : Nat))), .o, .o, .o, .o, .o, .o, .o, .o, .o, .o, .o, .o, .o, .o, .o, .o, .o, .o, .o], some ⟨false, 3, [[.v (.string id), .v (.int .i64 cls), .s false es (l.map fldC)]]⟩ :: some ⟨false, 2, [[.b 69, .u 5 (acc ++ [44, 32] ++ fb.data.toList)]]⟩ :: _⟩, ⟨(by rw [hE (by omega)]; repeat (first | exact .nil | refine .same ?_ | refine .o ?_)), (by rw [hE (by omega)]; try rfl)⟩, j + 1, acc ++ [44, 32] ++ fb.data.toList, _, by omega, (by simp only [List.length_append, Z9, Z10]; omega), hk, rfl⟩)
  ·
   simp only [decide_eq_false_iff_not] at b1
   refine Ye ?_
   refine any_endE mixed okJc rfl (by kernel_rfl) ?_
   refine ⟨_, (by repeat first | with_reducible exact Y2 | refine Y1 (by simp only [Y5, Y4, Y6, evsA, qev, St.ev, St.put, St.with, D.cell, qload, Y9, qmk, C.cpy, TK.agg, Yb, qstr, qbin, liveR, C.cp, C.dat, Y8, Y7, Bool.and_true, Nat.reduceAdd, Nat.reduceEqDiff, if_true, if_false, decide_false, reduceCtorEq, Nat.add_zero, beq_self_eq_true, Bool.true_or, callP, callO, dedup, rootsD, rootsC, List.flatMap_cons, List.flatMap_nil, List.filterMap_cons, List.filterMap_nil, Yg, argD, argC, argCs, List.contains_nil, objsAt, objOf, List.idxOf?, List.findIdx?, List.findIdx?.go, setObjs, settle, settle1, settleC, settleDs, FsJc, hQn, hV, hB1, hB2, hfb, hS2, last_get, tk91, tk39, tsz39, tsz9, tk9, b1, ZA]; rfl) ?_), ?_⟩
   show Tri _ _ _ _
   refine Yk okJc rfl (by repeat first | with_reducible exact Y2 | refine Y1 (by simp only [Y5, Y4, Y6, qev, St.ev, St.put, qint, Yc, Ya, qbin, Y8, Y7, if_true, if_false, hj1, show IntKind.i64.wrap (↑(j + 1) : Int) = _ from wrap_i64 _ (by omega) (by omega), ZA]; rfl) ?_) ?_
   simp only []
   (rw [drop_at (noText, val0) (show j < l.length by omega), hf, papGo, if_neg (by omega), hfb2] at hk; exact ⟨m - 1, by omega, ⟨[.o, .c (.p 0 0 0), .c (.v (.string ⟨#[]⟩)), .c (.p 1 0 0), .o, .o, .o, .o, .o, .o, .o, .o, .o, .o, .o, .o, .o, .c (.s false es (l.map fldC)), .c (.v (.int .i64 (l.length : Nat))), .c (.v (.int .i64 (j + 1 : Nat))), .o, .o, .o, .o, .o, .o, .o, .o, .o, .o, .o, .o, .o, .o, .o, .o, .o, .o, .o], some ⟨false, 3, [[.v (.string id), .v (.int .i64 cls), .s false es (l.map fldC)]]⟩ :: some ⟨false, 2, [[.b 69, .u 5 (acc ++ fb.data.toList)]]⟩ :: _⟩, ⟨(by rw [hE (by omega)]; repeat (first | exact .nil | refine .same ?_ | refine .o ?_)), (by rw [hE (by omega)]; try rfl)⟩, j + 1, acc ++ fb.data.toList, _, by omega, (by simp only [List.length_append]; omega), hk, rfl⟩)
 ·
  simp only [decide_eq_false_iff_not] at b0
  refine tri_exit ?_
  show Tri _ _ _ _
  refine Y3 okJc rfl (by repeat first | with_reducible exact Y2 | refine Y1 (by simp only [Y5, Y4, Y6, evsA, qev, St.ev, St.put, St.with, D.cell, qstr, qbin, C.dat, Y8, Y7, Bool.and_true, Nat.reduceEqDiff, if_true, if_false, decide_false, beq_self_eq_true, Bool.true_or, callP, callO, dedup, rootsD, rootsC, List.flatMap_cons, List.flatMap_nil, List.filterMap_cons, List.filterMap_nil, Yg, argD, argC, List.contains_nil, objsAt, objOf, List.idxOf?, List.findIdx?, List.findIdx?.go, setObjs, settle, settle1, settleC, FsJc, hSt, hAe, b0, ZA]; rfl) ?_) ?_
  refine Yo (Yp (by simp only [outRes, Yi, resD, outD, outC, C.dat, if_true, ZA]; rfl) rfl (by simp) (by simp) ?_)
  (rw [List.drop_of_length_le (by omega), papGo] at hk; rw [← hk] at hQ; exact hQ)
end Go.Dl

namespace Go.Dl
open Go.RowKit
open Go.Proofs
set_option linter.unusedSimpArgs false
set_option linter.unusedVariables false
/-- What a step has, as a script says it. -/
def argB (a : ActM) (k : Int) : ByteArray :=
 if k = 0 then quotedF a.id else if k = 1 then quotedF a.name else if k = 2 then namesB (a.names.getD []) else if k = 3 then wholeB a.n else if k = 4 then wholeB a.m
 else if k = 5 then decB a.keep.toNat else if k = 6 then wholeB a.tear else if k = 7 then quotedF a.draw else paperB (a.pid, a.cls, a.flds.getD [])
structure actPre (a : ActM) : Prop where
 pap : paperPre (a.pid, a.cls, a.flds.getD [])
 id : a.id.size ≤ 100000
 name : a.name.size ≤ 100000
 names : namesPre (a.names.getD [])
 draw : a.draw.size ≤ 100000
 n : inR .i64 a.n = true
 m : inR .i64 a.m = true
 keep : inR .u64 a.keep = true
 tear : inR .i64 a.tear = true
theorem paperA_at {a : ActM} (h : actPre a) : pPaperB [.agg [.v (.string a.pid), .v (.int .i64 a.cls), fldsC false a.flds]] = some (.c (.v (.string (paperB (a.pid, a.cls, a.flds.getD []))))) := by
 have hp := h.pap
 cases hf : a.flds with
 | none =>
  rw [hf] at hp
  exact paperB_at 0 (a.pid, a.cls, []) hp (fun h => absurd h (by simp))
 | some l =>
  rw [hf] at hp
  exact paperB_at 6 (a.pid, a.cls, l) hp (fun _ => rfl)
noncomputable def FsJd : Fs := { Fs.none with pure := fun k => if k = 14 then some pQuoted else if k = 37 then some pWhole else if k = 61 then some pCountB else if k = 65 then some pList else if k = 66 then some pPaperB else none }
theorem okJd : FsOK Try.prog FsJd := by
 refine ⟨fun k f h => ?_, fun _ _ h => (by cases h)⟩
 simp only [FsJd] at h
 split at h
 · rename_i hk; subst hk; cases h; exact ⟨by kernel_rfl, meets14⟩
 split at h
 · rename_i hk; subst hk; cases h; exact ⟨by kernel_rfl, meets37⟩
 split at h
 · rename_i hk; subst hk; cases h; exact ⟨by kernel_rfl, meets61⟩
 split at h
 · rename_i hk; subst hk; cases h; exact ⟨by kernel_rfl, meets65⟩
 split at h
 · rename_i hk; subst hk; cases h; exact ⟨by kernel_rfl, meets66⟩
 · cases h
theorem fldsC_inj0 {f g : Option (List Fld)} (h : fldsC false f = fldsC false g) : f = g := by
 unfold fldsC at h
 cases f <;> cases g
 · rfl
 · simp at h
 · simp at h
 · simp only [Option.isNone_some, Bool.and_false, Option.elim_some, C.s.injEq, true_and] at h
   rw [flds_inj h]
theorem actC_inj0 {a b : ActM} (h : actC false a = actC false b) : a = b := by
 obtain ⟨a1, a2, a3, a4, a5, a6, a7, a8, a9, a10, a11, a12⟩ := a
 obtain ⟨b1, b2, b3, b4, b5, b6, b7, b8, b9, b10, b11, b12⟩ := b
 simp only [actC, List.cons.injEq, C.v.injEq, Value.int.injEq, Value.string.injEq, true_and, and_true] at h
 obtain ⟨rfl, rfl, rfl, h1, rfl, rfl, h2, rfl, rfl, rfl, rfl, rfl⟩ := h
 rw [fldsC_inj0 h1, namesC_inj0 h2]
noncomputable def pArgB : List D → Option D := famP (fun x : ActM × Int => actPre x.1) (fun x => [.agg (actC false x.1), .c (.v (.int .i64 x.2))]) (fun x => .c (.v (.string (argB x.1 x.2))))
theorem argB_at (a : ActM) (k : Int) (h : actPre a) : pArgB [.agg (actC false a), .c (.v (.int .i64 k))] = some (.c (.v (.string (argB a k)))) := Ym (fun x y h => by
 obtain ⟨x, x'⟩ := x
 obtain ⟨y, y'⟩ := y
 simp only [List.cons.injEq, D.agg.injEq, D.c.injEq, C.v.injEq, Value.int.injEq, and_true, true_and] at h
 rw [actC_inj0 h.1, h.2]) (a, k) h rfl
set_option maxHeartbeats 2000000 in
theorem meets45 : Meets Try.prog 45 (pureS pArgB) := by
 refine Yn (show Try.prog.funcs[45]? = some Try.f45 by kernel_rfl) rfl (n := 49) rfl (rs := [ResultVar.tmp 4]) rfl ?_
 rintro ⟨a, k⟩ hp Q hQ
 dsimp only at hp hQ ⊢
 have h1 := quoted_at a.id (by have := hp.id; omega)
 have h2 := quoted_at a.name (by have := hp.name; omega)
 have h3 := quoted_at a.draw (by have := hp.draw; omega)
 have h4 := list_at a.names hp.names
 have h5 := whole_at a.n hp.n
 have h6 := whole_at a.m hp.m
 have h7 := whole_at a.tear hp.tear
 obtain ⟨hk1, hk2⟩ := u64_rng hp.keep
 obtain ⟨kp, hkp⟩ : ∃ kp : Nat, a.keep = (kp : Int) := ⟨a.keep.toNat, by omega⟩
 have h8 := countB_at kp (by omega)
 rw [← hkp] at h8
 have h8b : decB kp = decB a.keep.toNat := by rw [hkp, Int.toNat_natCast]
 rw [h8b] at h8
 have h9 := paperA_at hp
 obtain ⟨e1, r1, hf1⟩ : ∃ es r, fldsC false a.flds = .s false es r := ⟨_, _, rfl⟩
 obtain ⟨e2, r2, hf2⟩ : ∃ es r, namesC false a.names = .s false es r := ⟨_, _, rfl⟩
 rw [hf1] at h9
 rw [hf2] at h4
 simp only [actC, hf1, hf2]
 refine Y3 okJd rfl (by repeat first | with_reducible exact Y2 | refine Y1 (by simp only [Y5, Y4, Y6, qev, St.ev, St.put, St.with, D.cells, boxA, C.st, Y8, Y7, List.replicate, Nat.reduceAdd, Nat.reduceSub, if_true, ZA]; rfl) ?_) ?_
 refine seq_in ?_
 refine Y3 okJd rfl (by repeat first | with_reducible exact Y2 | refine Y1 (by simp only [Y5, Y4, Y6, qev, St.ev, St.put, ZA]; rfl) ?_) ?_
 refine tri_block ?_
 refine Y3 okJd rfl (by repeat first | with_reducible exact Y2 | refine Y1 (by simp only [Y5, Y4, Y6, qev, St.ev, St.put, qint, Yc, Ya, qbin, Y8, Y7, if_true, if_false, ZA]; rfl) ?_) ?_
 refine Yf rfl (fun a0 => ?_) (fun a0 => ?_)
 ·
  simp only [decide_eq_true_eq] at a0
  refine Y3 okJd rfl (by repeat first | with_reducible exact Y2 | refine Y1 (by simp only [Y5, Y4, Y6, evsA, qev, St.ev, St.put, St.with, qload, Y9, qmk, C.cpy, TK.agg, Yb, liveR, C.cp, C.dat, Nat.reduceEqDiff, if_true, if_false, decide_true, reduceCtorEq, Bool.true_or, callP, Fs.none, Yg, argD, argC, settle, settle1, settleC, FsJd, h1, tk50, a0, tsz9, tk9, ZA]; rfl) ?_) ?_
  refine Yo (Yp (by simp only [outRes, Yi, resD, outD, outC, C.dat, if_true, ZA]; rfl) rfl (by simp) (by simp) ?_)
  (simp only [reduceIte, ↓reduceIte, argB, a0] at hQ; with_reducible exact hQ)
 ·
  simp only [decide_eq_false_iff_not] at a0
  refine Y3 okJd rfl (by repeat first | with_reducible exact Y2 | refine Y1 (by simp only [Y5, Y4, Y6, qev, St.ev, St.put, qint, Yc, Ya, qbin, Y8, Y7, if_true, if_false, decide_false, a0, ZA]; rfl) ?_) ?_
  refine Yf rfl (fun a1 => ?_) (fun a1 => ?_)
  ·
   simp only [decide_eq_true_eq] at a1
   refine Y3 okJd rfl (by repeat first | with_reducible exact Y2 | refine Y1 (by simp only [Y5, Y4, Y6, evsA, qev, St.ev, St.put, St.with, qload, Y9, qmk, C.cpy, TK.agg, Yb, liveR, C.cp, C.dat, Nat.reduceEqDiff, if_true, if_false, decide_true, reduceCtorEq, Bool.true_or, callP, Fs.none, Yg, argD, argC, settle, settle1, settleC, FsJd, h2, tk50, a1, tsz9, tk9, ZA]; rfl) ?_) ?_
   refine Yo (Yp (by simp only [outRes, Yi, resD, outD, outC, C.dat, if_true, ZA]; rfl) rfl (by simp) (by simp) ?_)
   (simp only [reduceIte, ↓reduceIte, Int.reduceEq, argB, a1] at hQ; with_reducible exact hQ)
  ·
   simp only [decide_eq_false_iff_not] at a1
   refine Y3 okJd rfl (by repeat first | with_reducible exact Y2 | refine Y1 (by simp only [Y5, Y4, Y6, qev, St.ev, St.put, qint, Yc, Ya, qbin, Y8, Y7, if_true, if_false, decide_false, a1, ZA]; rfl) ?_) ?_
   refine Yf rfl (fun a2 => ?_) (fun a2 => ?_)
   ·
    simp only [decide_eq_true_eq] at a2
    refine Y3 okJd rfl (by repeat first | with_reducible exact Y2 | refine Y1 (by simp only [Y5, Y4, Y6, evsA, qev, St.ev, St.put, St.with, qload, Y9, qmk, C.cpy, TK.agg, Yb, liveR, C.cp, C.dat, Nat.reduceEqDiff, if_true, if_false, decide_true, reduceCtorEq, Bool.true_or, callP, Fs.none, Yg, argD, argC, settle, settle1, settleC, FsJd, h4, tk50, tk28, a2, tsz28, ZA]; rfl) ?_) ?_
    refine Yo (Yp (by simp only [outRes, Yi, resD, outD, outC, C.dat, if_true, ZA]; rfl) rfl (by simp) (by simp) ?_)
    (simp only [reduceIte, ↓reduceIte, Int.reduceEq, argB, a2] at hQ; with_reducible exact hQ)
   ·
    simp only [decide_eq_false_iff_not] at a2
    refine Y3 okJd rfl (by repeat first | with_reducible exact Y2 | refine Y1 (by simp only [Y5, Y4, Y6, qev, St.ev, St.put, qint, Yc, Ya, qbin, Y8, Y7, if_true, if_false, decide_false, a2, ZA]; rfl) ?_) ?_
    refine Yf rfl (fun a3 => ?_) (fun a3 => ?_)
    ·
     simp only [decide_eq_true_eq] at a3
     refine Y3 okJd rfl (by repeat first | with_reducible exact Y2 | refine Y1 (by simp only [Y5, Y4, Y6, evsA, qev, St.ev, St.put, St.with, qload, Y9, qmk, C.cpy, TK.agg, Yb, liveR, C.cp, C.dat, Nat.reduceEqDiff, if_true, if_false, decide_true, reduceCtorEq, Bool.true_or, callP, Fs.none, Yg, argD, argC, settle, settle1, settleC, FsJd, h5, tk50, a3, tsz3, tk3, ZA]; rfl) ?_) ?_
     refine Yo (Yp (by simp only [outRes, Yi, resD, outD, outC, C.dat, if_true, ZA]; rfl) rfl (by simp) (by simp) ?_)
     (simp only [reduceIte, ↓reduceIte, Int.reduceEq, argB, a3] at hQ; with_reducible exact hQ)
    ·
     simp only [decide_eq_false_iff_not] at a3
     refine Y3 okJd rfl (by repeat first | with_reducible exact Y2 | refine Y1 (by simp only [Y5, Y4, Y6, qev, St.ev, St.put, qint, Yc, Ya, qbin, Y8, Y7, if_true, if_false, decide_false, a3, ZA]; rfl) ?_) ?_
     refine Yf rfl (fun a4 => ?_) (fun a4 => ?_)
     ·
      simp only [decide_eq_true_eq] at a4
      refine Y3 okJd rfl (by repeat first | with_reducible exact Y2 | refine Y1 (by simp only [Y5, Y4, Y6, evsA, qev, St.ev, St.put, St.with, qload, Y9, qmk, C.cpy, TK.agg, Yb, liveR, C.cp, C.dat, Nat.reduceEqDiff, if_true, if_false, decide_true, reduceCtorEq, Bool.true_or, callP, Fs.none, Yg, argD, argC, settle, settle1, settleC, FsJd, h6, tk50, a4, tsz3, tk3, ZA]; rfl) ?_) ?_
      refine Yo (Yp (by simp only [outRes, Yi, resD, outD, outC, C.dat, if_true, ZA]; rfl) rfl (by simp) (by simp) ?_)
      (simp only [reduceIte, ↓reduceIte, Int.reduceEq, argB, a4] at hQ; with_reducible exact hQ)
     ·
      simp only [decide_eq_false_iff_not] at a4
      refine Y3 okJd rfl (by repeat first | with_reducible exact Y2 | refine Y1 (by simp only [Y5, Y4, Y6, qev, St.ev, St.put, qint, Yc, Ya, qbin, Y8, Y7, if_true, if_false, decide_false, a4, ZA]; rfl) ?_) ?_
      refine Yf rfl (fun a5 => ?_) (fun a5 => ?_)
      ·
       simp only [decide_eq_true_eq] at a5
       refine Y3 okJd rfl (by repeat first | with_reducible exact Y2 | refine Y1 (by simp only [Y5, Y4, Y6, evsA, qev, St.ev, St.put, St.with, qload, Y9, qmk, C.cpy, TK.agg, Yb, liveR, C.cp, C.dat, Nat.reduceEqDiff, if_true, if_false, decide_true, reduceCtorEq, Bool.true_or, callP, Fs.none, Yg, argD, argC, settle, settle1, settleC, FsJd, h8, tk50, a5, tsz37, tk37, ZA]; rfl) ?_) ?_
       refine Yo (Yp (by simp only [outRes, Yi, resD, outD, outC, C.dat, if_true, ZA]; rfl) rfl (by simp) (by simp) ?_)
       (simp only [reduceIte, ↓reduceIte, Int.reduceEq, argB, a5] at hQ; with_reducible exact hQ)
      ·
       simp only [decide_eq_false_iff_not] at a5
       refine Y3 okJd rfl (by repeat first | with_reducible exact Y2 | refine Y1 (by simp only [Y5, Y4, Y6, qev, St.ev, St.put, qint, Yc, Ya, qbin, Y8, Y7, if_true, if_false, decide_false, a5, ZA]; rfl) ?_) ?_
       refine Yf rfl (fun a6 => ?_) (fun a6 => ?_)
       ·
        simp only [decide_eq_true_eq] at a6
        refine Y3 okJd rfl (by repeat first | with_reducible exact Y2 | refine Y1 (by simp only [Y5, Y4, Y6, evsA, qev, St.ev, St.put, St.with, qload, Y9, qmk, C.cpy, TK.agg, Yb, liveR, C.cp, C.dat, Nat.reduceEqDiff, if_true, if_false, decide_true, reduceCtorEq, Bool.true_or, callP, Fs.none, Yg, argD, argC, settle, settle1, settleC, FsJd, h7, tk50, a6, tsz3, tk3, ZA]; rfl) ?_) ?_
        refine Yo (Yp (by simp only [outRes, Yi, resD, outD, outC, C.dat, if_true, ZA]; rfl) rfl (by simp) (by simp) ?_)
        (simp only [reduceIte, ↓reduceIte, Int.reduceEq, argB, a6] at hQ; with_reducible exact hQ)
       ·
        simp only [decide_eq_false_iff_not] at a6
        refine Y3 okJd rfl (by repeat first | with_reducible exact Y2 | refine Y1 (by simp only [Y5, Y4, Y6, qev, St.ev, St.put, qint, Yc, Ya, qbin, Y8, Y7, if_true, if_false, decide_false, a6, ZA]; rfl) ?_) ?_
        refine Yf rfl (fun a7 => ?_) (fun a7 => ?_)
        ·
         simp only [decide_eq_true_eq] at a7
         refine Y3 okJd rfl (by repeat first | with_reducible exact Y2 | refine Y1 (by simp only [Y5, Y4, Y6, evsA, qev, St.ev, St.put, St.with, qload, Y9, qmk, C.cpy, TK.agg, Yb, liveR, C.cp, C.dat, Nat.reduceEqDiff, if_true, if_false, decide_true, reduceCtorEq, Bool.true_or, callP, Fs.none, Yg, argD, argC, settle, settle1, settleC, FsJd, h3, tk50, a7, tsz9, tk9, ZA]; rfl) ?_) ?_
         refine Yo (Yp (by simp only [outRes, Yi, resD, outD, outC, C.dat, if_true, ZA]; rfl) rfl (by simp) (by simp) ?_)
         (simp only [reduceIte, ↓reduceIte, Int.reduceEq, argB, a7] at hQ; with_reducible exact hQ)
        ·
         simp only [decide_eq_false_iff_not] at a7
         refine tri_skip ?_
         show Tri _ _ _ _
         refine Y3 okJd rfl (by repeat first | with_reducible exact Y2 | refine Y1 (by simp only [Y5, Y4, Y6, evsA, qev, St.ev, St.put, St.with, qload, Y9, qmk, C.cpy, TK.agg, Yb, liveR, C.cp, C.dat, Nat.reduceAdd, Nat.reduceEqDiff, if_true, if_false, decide_false, reduceCtorEq, Bool.true_or, callP, Fs.none, Yg, argD, argC, argCs, settle, settle1, settleC, FsJd, h9, tk48, tsz48, tk50, a7, ZA]; rfl) ?_) ?_
         refine Yo (Yp (by simp only [outRes, Yi, resD, outD, outC, C.dat, if_true, ZA]; rfl) rfl (by simp) (by simp) ?_)
         (simp only [reduceIte, ↓reduceIte, argB, a0, a1, a2, a3, a4, a5, a6, a7] at hQ; with_reducible exact hQ)
def sp1 : ByteArray := ⟨#[32]⟩
def semiB : ByteArray := ⟨#[59]⟩
def wordsOf (a : ActM) : List ByteArray := formB a.kind.toNat :: (argsK a.kind).map (argB a)
/-- A step as a script says it. -/
def printB (a : ActM) : ByteArray := if 1 ≤ a.kind then (if a.kind ≤ 15 then joinB sp1 (wordsOf a) ++ semiB else ⟨#[]⟩) else ⟨#[]⟩
def isKnown (k : Int) : Bool := decide (1 ≤ k) && decide (k ≤ 15)
noncomputable def pKnown : List D → Option D := famP (fun _ : Int => True) (fun k => [.c (.v (.int .i64 k))]) (fun k => dB (isKnown k))
theorem known_at (k : Int) : pKnown [.c (.v (.int .i64 k))] = some (dB (isKnown k)) := Ym (fun a b h => by
 simp only [List.cons.injEq, D.c.injEq, C.v.injEq, Value.int.injEq, and_true, true_and] at h
 subst h; rfl) k trivial rfl
theorem meets42 : Meets Try.prog 42 (pureS pKnown) := by
 refine Yn (show Try.prog.funcs[42]? = some Try.f42 by kernel_rfl) rfl (n := 9) rfl (rs := [ResultVar.tmp 2]) rfl ?_
 intro k _ Q hQ
 refine Y3 ok0 rfl (by repeat first | with_reducible exact Y2 | refine Y1 (by simp only [Y5, Y4, Y6, qev, St.ev, St.put, Y8, Y7, List.replicate, Nat.reduceSub, ZA]; rfl) ?_) ?_
 by_cases a0 : (1 ≤ k)
 ·
  refine Y3 ok0 rfl (by repeat first | with_reducible exact Y2 | refine Y1 (by simp only [Y5, Y4, Y6, qev, St.ev, St.put, qpick, qint, Yc, Ya, qbin, Y8, Y7, if_true, if_false, decide_true, cond_true, eq_true a0, ZA]; rfl) ?_) ?_
  refine Yo (Yp (by simp only [outRes, Yi, resD, outD, outC, C.dat, if_true, ZA]; rfl) rfl (by simp) (by simp) ?_)
  (simp only [decide_true, Bool.true_and, isKnown, dB, eq_true a0] at hQ; with_reducible exact hQ)
 ·
  refine Y3 ok0 rfl (by repeat first | with_reducible exact Y2 | refine Y1 (by simp only [Y5, Y4, Y6, qev, St.ev, St.put, qpick, qint, Yc, isEq, Ya, qbin, Y8, Y7, if_true, if_false, decide_false, cond_false, eq_false a0, ZA]; rfl) ?_) ?_
  refine Yo (Yp (by simp only [outRes, Yi, resD, outD, outC, C.dat, if_true, ZA]; rfl) rfl (by simp) (by simp) ?_)
  (simp only [decide_false, Bool.false_and, isKnown, dB, eq_false a0] at hQ; with_reducible exact hQ)
theorem namesB_size {l : List ByteArray} (h : namesPre l) : (namesB l).size ≤ 90000000 := by
 have := joinB_size (sep := comSp) (by decide) (b := 400002) (l := l.map quotedF) (fun s hs => by
  obtain ⟨x, hx, rfl⟩ := List.mem_map.1 hs
  exact quotedB_le x (h.2 x hx))
 rw [List.length_map] at this
 have h2 : (l.length + 1) * (100 + 400002) ≤ 201 * 400102 := Nat.mul_le_mul (by have := h.1; omega) (by omega)
 unfold namesB
 rw [ByteArray.size_append, ByteArray.size_append]
 show 1 + _ + 1 ≤ _
 omega
theorem papGo_len : ∀ (l : List Fld) (i : Nat) (a : List UInt8), (∀ f ∈ l, fldPre f) → (papGo l i a).length ≤ a.length + l.length * 1000000
 | [], i, a, h => by simp [papGo]
 | f :: r, i, a, h => by
  have hf := h f (List.mem_cons_self ..)
  have h1 := quotedB_le f.1 hf.1
  have h2 := valueB_size hf.2
  have hfz : (fldB f).data.toList.length ≤ 900000 := by
   rw [dl_len]; unfold fldB; rw [ByteArray.size_append, ByteArray.size_append]; show _ + 1 + _ ≤ _; omega
  have h3 := papGo_len r (i + 1) ((if 0 < i then a ++ [44, 32] else a) ++ (fldB f).data.toList) (fun g hg => h g (List.mem_cons_of_mem _ hg))
  have h4 : (if 0 < i then a ++ [44, 32] else a).length ≤ a.length + 2 := by split <;> simp
  rw [List.length_append] at h3
  rw [papGo, List.length_cons, Nat.add_mul]
  omega
theorem paperB_size {p : Paper} (h : paperPre p) : (paperB p).size ≤ 300000000 := by
 have h1 := quotedB_le p.1 h.1
 have h2 := wholeB_size p.2.1
 have h3 := papGo_len p.2.2 0 (papHead p).data.toList h.2.2.2
 have h4 : (papHead p).data.toList.length ≤ 400100 := by
  rw [dl_len]; unfold papHead; simp only [ByteArray.size_append]; show _ + 1 + _ + 2 ≤ _; omega
 have h5 : p.2.2.length * 1000000 ≤ 200 * 1000000 := Nat.mul_le_mul h.2.2.1 (Nat.le_refl _)
 unfold paperB
 rw [ByteArray.size_append]
 show (papGo p.2.2 0 (papHead p).data.toList).toArray.size + 1 ≤ _
 rw [List.size_toArray]; omega
theorem argB_size {a : ActM} (h : actPre a) (k : Int) : (argB a k).size ≤ 300000000 := by
 have h1 := quotedB_le a.id h.id
 have h2 := quotedB_le a.name h.name
 have h3 := quotedB_le a.draw h.draw
 have h4 := namesB_size h.names
 have h5 := wholeB_size a.n
 have h6 := wholeB_size a.m
 have h7 := wholeB_size a.tear
 have h8 := decB_size a.keep.toNat
 have h9 := paperB_size h.pap
 unfold argB
 split
 · omega
 split
 · omega
 split
 · omega
 split
 · omega
 split
 · omega
 split
 · omega
 split
 · omega
 split
 · omega
 · exact h9
theorem formB_size {k : Nat} : (formB k).size ≤ 10 := by
 by_cases h : k < 16
 · have : ∀ k : Fin 16, (formB k.val).size ≤ 10 := by decide
   exact this ⟨k, h⟩
 · unfold formB
   rw [List.getD_eq_getElem?_getD, List.getElem?_eq_none (by simp; omega)]; exact Nat.zero_le _
theorem argsK_len (k : Int) : (argsK k).length ≤ 3 := by unfold argsK; (repeat' split) <;> decide
theorem words_le {a : ActM} (h : actPre a) : ∀ s ∈ wordsOf a, s.size ≤ 300000000 := by
 intro s hs
 rcases List.mem_cons.1 hs with rfl | hs
 · have := formB_size (k := a.kind.toNat); omega
 · obtain ⟨k, _, rfl⟩ := List.mem_map.1 hs
   exact argB_size h k
noncomputable def FsJe : Fs := { Fs.none with pure := fun k => if k = 42 then some pKnown else if k = 43 then some pForms else if k = 44 then some pArgsZ else if k = 45 then some pArgB else if k = 46 then some pJoin else none }
theorem okJe : FsOK Try.prog FsJe := by
 refine ⟨fun k f h => ?_, fun _ _ h => (by cases h)⟩
 simp only [FsJe] at h
 split at h
 · rename_i hk; subst hk; cases h; exact ⟨by kernel_rfl, meets42⟩
 split at h
 · rename_i hk; subst hk; cases h; exact ⟨by kernel_rfl, meets43⟩
 split at h
 · rename_i hk; subst hk; cases h; exact ⟨by kernel_rfl, meets44Z⟩
 split at h
 · rename_i hk; subst hk; cases h; exact ⟨by kernel_rfl, meets45⟩
 split at h
 · rename_i hk; subst hk; cases h; exact ⟨by kernel_rfl, meets46⟩
 · cases h
noncomputable def pPrint : List D → Option D := famP (fun a : ActM => actPre a) (fun a => [.agg (actC false a)]) (fun a => .c (.v (.string (printB a))))
theorem print_at (a : ActM) (h : actPre a) : pPrint [.agg (actC false a)] = some (.c (.v (.string (printB a)))) := Ym (fun x y h => by
 simp only [List.cons.injEq, D.agg.injEq, and_true] at h
 rw [actC_inj0 h]) a h rfl
theorem forms_settle (H : List (Option Root)) : Yl H formsC = (formsC, H) := rfl
set_option maxRecDepth 100000 in
set_option maxHeartbeats 4000000 in
theorem meets21 : Meets Try.prog 21 (pureS pPrint) := by
 refine Yn (show Try.prog.funcs[21]? = some Try.f21 by kernel_rfl) rfl (n := 33) rfl (rs := [ResultVar.tmp 2]) rfl ?_
 intro a hp Q hQ
 have hK := known_at a.kind
 unfold printB at hQ
 obtain ⟨e1, r1, hf1⟩ : ∃ es r, fldsC false a.flds = .s false es r := ⟨_, _, rfl⟩
 obtain ⟨e2, r2, hf2⟩ : ∃ es r, namesC false a.names = .s false es r := ⟨_, _, rfl⟩
 by_cases hkn : isKnown a.kind = true
 · have hr : 1 ≤ a.kind ∧ a.kind ≤ 15 := by
    unfold isKnown at hkn
    simpa using hkn
   rw [if_pos hr.1, if_pos hr.2] at hQ
   rw [hkn] at hK
   obtain ⟨kn, hkn2⟩ : ∃ kn : Nat, a.kind = (kn : Int) := ⟨a.kind.toNat, by omega⟩
   have hfg := form_get (k := kn) (by omega)
   have hAr := args_at a.kind
   have hkl : (kn : Int) < 16 := by omega
   have h16 : ((16 : Nat) : Int) = 16 := rfl
   have hwl := words_le hp
   have hws : wordsOf a = formB kn :: (argsK a.kind).map (argB a) := by unfold wordsOf; rw [hkn2, Int.toNat_natCast]
   have hal := argsK_len a.kind
   generalize hwo : wordsOf a = ws at hQ hwl hws
   have hwsl : ws.length = (argsK a.kind).length + 1 := by rw [hws, List.length_cons, List.length_map]
   have hJ := join_at ws sp1 ⟨by dsimp only; omega, fun s hs => by have := hwl s hs; omega, show 0 < sp1.size by decide, show sp1.size ≤ 100 by decide⟩
   have hJz := joinB_size (sep := sp1) (by decide) (b := 300000000) (l := ws) hwl
   have hJz2 : (ws.length + 1) * (100 + 300000000) ≤ 5 * 300000100 := Nat.mul_le_mul (by omega) (by omega)
   have hA1 : (joinB ⟨#[32]⟩ ws).size + (⟨#[59]⟩ : ByteArray).size ≤ maxStr := by show (joinB sp1 ws).size + 1 ≤ maxStr; unfold maxStr; omega
   unfold sp1 at hJ
   unfold sp1 semiB at hQ
   have hE1 : 0 < (argsK a.kind).length → argsE a.kind = 1 := argsE_one
   generalize hak : argsK a.kind = ak at hAr hal hws hwsl hE1
   generalize argsE a.kind = ae at hAr hE1
   have hakm : ak.length ≤ maxStr := by unfold maxStr; omega
   have hw1 : ws.take 1 = [formB kn] := by rw [hws]; rfl
   have hcp := str_cp ws
   have hAB := fun k => argB_at a k hp
   simp only [actC, hf1, hf2, hkn2] at hAB ⊢
   rw [hkn2] at hK hAr
   refine Y3 okJe rfl (by repeat first | with_reducible exact Y2 | refine Y1 (by simp only [Y5, Y4, Y6, qev, St.ev, St.put, St.with, D.cells, boxA, C.st, Y8, Y7, List.replicate, Nat.reduceAdd, Nat.reduceSub, if_true, ZA]; rfl) ?_) ?_
   refine seq_in ?_
   refine Y3 okJe rfl (by repeat first | with_reducible exact Y2 | refine Y1 (by simp only [Y5, Y4, Y6, evsA, qev, St.ev, St.put, St.with, qload, Y9, qmk, C.cpy, TK.agg, Yb, qun, liveR, C.cp, C.dat, Nat.reduceEqDiff, if_true, if_false, Bool.not_true, reduceCtorEq, Nat.add_zero, Bool.true_or, callP, Fs.none, Yg, argD, argC, settle, settle1, settleC, dB, FsJe, hK, tk50, tsz3, tk3, ZA]; rfl) ?_) ?_
   refine Yf (b := false) rfl (fun h => by cases h) (fun _ => ?_)
   refine Ye ?_
   refine Yj mixed okJe rfl (by kernel_rfl) ?_
   refine ⟨_, (by repeat first | with_reducible exact Y2 | refine Y1 (by simp only [Y5, Y4, Y6, evsA, qev, St.ev, St.put, St.with, D.cells, D.int, qload, Y9, qmk, C.cpy, TK.agg, Yb, qpart, qindex, liveR, C.st, C.cp, C.dat, putCells, Nat.reduceEqDiff, if_true, if_false, ne_eq, reduceCtorEq, Nat.reduceLeDiff, Nat.le_refl, Nat.add_zero, Bool.true_or, callP, Fs.none, Yg, settle, settle1, FsJe, pForms, forms_settle, hfg, hkl, h16, tk50, tk84, tk9, tsz9, Nat.mul_one, buildSliceA, partsA, fillA, reps, chop, Int.toNat_natCast, Int.natCast_nonneg, tsz3, tk3, tk28, tz9, ZA]; rfl) ?_), ?_⟩
   refine seq_in ?_
   refine Y3 okJe rfl (by repeat first | with_reducible exact Y2 | refine Y1 (by simp only [Y5, Y4, Y6, evsA, qev, St.ev, St.put, St.with, qload, Y9, qmk, C.cpy, TK.agg, Yb, qlen, qbuiltin, liveR, C.cp, C.dat, Y8, Y7, Nat.reduceEqDiff, if_true, if_false, reduceCtorEq, Nat.add_zero, Bool.true_or, callP, Fs.none, Yg, argD, argC, settle, settle1, settleC, FsJe, hAr, hakm, tk50, List.length_map, tsz3, tk3, tk27, ZA]; rfl) ?_) ?_
   refine tri_block ?_
   refine tri_loop_le (fun m A => ∃ (j : Nat) (T : List (Option Root)), m + j = ak.length ∧ A = ⟨[.o, .c (.p 0 0 0), .c (.v (.string ⟨#[]⟩)), .c (.h 1 0 (j + 1)), .o, .o, .o, .o, .o, .o, .o, .o, .o, .o, .o, .o, .o, .c (.s false ae (ints ak)), .c (.v (.int .i64 (ak.length : Nat))), .c (.v (.int .i64 (j : Nat))), .o, .o, .o, .o, .o, .o, .o, .o, .o, .o, .o, .o, .o], some ⟨false, 12, [[.v (.int .i64 (kn : Nat)), .v (.string a.pid), .v (.int .i64 a.cls), .s false e1 r1, .v (.string a.id), .v (.string a.name), .s false e2 r2, .v (.string a.draw), .v (.int .i64 a.n), .v (.int .i64 a.m), .v (.int .u64 a.keep), .v (.int .i64 a.tear)]]⟩ :: some ⟨true, 1, (ws.take (j + 1)).map strC⟩ :: T⟩) ak.length (B := ⟨[.o, .c (.p 0 0 0), .c (.v (.string ⟨#[]⟩)), .c (.h 1 0 (1)), .o, .o, .o, .o, .o, .o, .o, .o, .o, .o, .o, .o, .o, .c (.s false ae (ints ak)), .c (.v (.int .i64 (ak.length : Nat))), .c (.v (.int .i64 (0 : Nat))), .o, .o, .o, .o, .o, .o, .o, .o, .o, .o, .o, .o, .o], some ⟨false, 12, [[.v (.int .i64 (kn : Nat)), .v (.string a.pid), .v (.int .i64 a.cls), .s false e1 r1, .v (.string a.id), .v (.string a.name), .s false e2 r2, .v (.string a.draw), .v (.int .i64 a.n), .v (.int .i64 a.m), .v (.int .u64 a.keep), .v (.int .i64 a.tear)]]⟩ :: some ⟨true, 1, (ws.take 1).map strC⟩ :: []⟩) ⟨by repeat (first | exact .nil | refine .same ?_ | refine .o ?_), (by rw [hw1]; rfl)⟩ ⟨0, [], rfl, rfl⟩ ?_
   rintro m A ⟨j, T, hm, rfl⟩
   have hj1 : (j : Int) + 1 = ((j + 1 : Nat) : Int) := by omega
   have hg : ((j : Nat) : Int) < ((ak.length : Nat) : Int) → ak[j]? = some (ak.getD j 0) := fun h => get_at _ (by omega)
   have hE : ((j : Nat) : Int) < ((ak.length : Nat) : Int) → ae = 1 := fun h => hE1 (by omega)
   have hqj : ((j : Nat) : Int) < ((ak.length : Nat) : Int) → (ws.take (j + 1 + 1)).map strC = (ws.take (j + 1)).map strC ++ [strC (argB a (ak.getD j 0))] := (by intro h; have h2 : j + 1 < ws.length := (by omega); have h3 : j < ak.length := (by omega); rw [List.take_succ_eq_append_getElem h2, List.map_append]; congr 2; subst hws; simp [h3])
   have hend : ¬ ((j : Nat) : Int) < ((ak.length : Nat) : Int) → ws.take (j + 1) = ws := fun h => List.take_of_length_le (by omega)
   have hjl : ¬ ((j : Nat) : Int) < ((ak.length : Nat) : Int) → (ws.map strC).take (j + 1) = ws.map strC := fun h => List.take_of_length_le (by rw [List.length_map]; omega)
   have hjle : ¬ ((j : Nat) : Int) < ((ak.length : Nat) : Int) → j + 1 ≤ ws.length := fun h => (by omega)
   have ht0 : ((ws.take (j + 1)).map strC).take (j + 1) = (ws.take (j + 1)).map strC := List.take_of_length_le (by rw [List.length_map]; exact List.length_take_le _ _)
   have hne : ∀ k : Nat, (k + 1 + 1 != 1) = true := (by intro k; simp)
   have hz : (j + 1 + 1) * 16 ≤ 140737488355328 := (by omega)
   have hnb := str_nb (ws.take (j + 1))
   refine Y3 okJe rfl (by repeat first | with_reducible exact Y2 | refine Y1 (by simp only [Y5, Y4, Y6, qev, St.ev, St.put, qint, Yc, Ya, qbin, if_true, if_false, ZA]; rfl) ?_) ?_
   refine seq_in (Yf rfl (fun a0 => ?_) (fun a0 => ?_))
   ·
    simp only [decide_eq_true_eq] at a0
    refine Ye ?_
    refine seq_in (tri_block ?_)
    refine Y3 okJe rfl (by repeat first | with_reducible exact Y2 | refine Y1 (by simp only [Y5, Y4, Y6, qev, St.ev, St.put, D.int, qload, Y9, qmk, C.cpy, TK.agg, qindexAddr, C.cp, if_true, if_false, decide_true, ne_eq, reduceCtorEq, Int.toNat_natCast, Int.natCast_nonneg, List.length_map, hg, hE, List.getElem?_map, tsz3, tk3, tk27, a0, ZA]; rfl) ?_) ?_
    refine Yk okJe rfl (by repeat first | with_reducible exact Y2 | refine Y1 (by simp only [Y5, Y4, Y6, evsA, qev, St.ev, St.put, St.with, D.cells, qload, Y9, qmk, C.cpy, TK.agg, C.st, C.cp, C.dat, putCells, Nat.reduceAdd, Nat.reduceEqDiff, if_true, if_false, ne_eq, reduceCtorEq, Nat.reduceLeDiff, Nat.le_refl, Nat.reduceBNe, bne_self_eq_false, Bool.true_or, callP, Fs.none, Yg, argD, argC, argCs, settle, settle1, settleC, FsJe, tk50, tsz50, tsz9, Nat.mul_one, buildSliceA, partsA, fillA, reps, chop, hAB, ht0, hne, hz, hnb, last_get, buildSliceA, partsA, fillA, reps, chop, tkApp, appendA, srcRows, srcOther, D.kill, D.no, C.no, C.kill, killH, Root.kill, C.nos, tk28, tz9, bo9, ZA]; rfl) ?_) ?_
    show Tri _ _ _ _
    refine Yk okJe rfl (by repeat first | with_reducible exact Y2 | refine Y1 (by simp only [Y5, Y4, Y6, qev, St.ev, St.put, qint, Yc, Ya, qbin, Y8, Y7, if_true, if_false, hj1, show IntKind.i64.wrap (↑(j + 1) : Int) = _ from wrap_i64 _ (by omega) (by omega), ZA]; rfl) ?_) ?_
    simp only []
    (exact ⟨m - 1, by omega, ⟨[.o, .c (.p 0 0 0), .c (.v (.string ⟨#[]⟩)), .c (.h 1 0 (j + 1 + 1)), .o, .o, .o, .o, .o, .o, .o, .o, .o, .o, .o, .o, .o, .c (.s false ae (ints ak)), .c (.v (.int .i64 (ak.length : Nat))), .c (.v (.int .i64 (j + 1 : Nat))), .o, .o, .o, .o, .o, .o, .o, .o, .o, .o, .o, .o, .o], some ⟨false, 12, [[.v (.int .i64 (kn : Nat)), .v (.string a.pid), .v (.int .i64 a.cls), .s false e1 r1, .v (.string a.id), .v (.string a.name), .s false e2 r2, .v (.string a.draw), .v (.int .i64 a.n), .v (.int .i64 a.m), .v (.int .u64 a.keep), .v (.int .i64 a.tear)]]⟩ :: some ⟨true, 1, (ws.take (j + 1 + 1)).map strC⟩ :: _⟩, ⟨(by rw [hE (by omega)]; repeat (first | exact .nil | refine .same ?_ | refine .o ?_)), (by rw [hqj (by omega)]; rfl)⟩, j + 1, _, by omega, rfl⟩)
   ·
    simp only [decide_eq_false_iff_not] at a0
    refine tri_exit ?_
    show Tri _ _ _ _
    refine Y3 okJe rfl (by repeat first | with_reducible exact Y2 | refine Y1 (by simp only [Y5, Y4, Y6, evsA, qev, St.ev, St.put, St.with, C.cpy, qstr, qbin, C.cp, C.dat, Y8, Y7, Nat.reduceEqDiff, if_true, if_false, decide_false, Nat.reduceLeDiff, Bool.false_or, callP, callO, Fs.none, Yg, argD, argC, List.idxOf?, List.findIdx?, List.findIdx?.go, settle, settle1, settleC, List.isEmpty_cons, FsJe, hJ, hA1, hcp, hwsl, List.length_map, hend, hjl, a0, show (j ≤ ak.length) = True from eq_true (by omega), ZA]; rfl) ?_) ?_
    refine Yo (Yp (by simp only [outRes, Yi, resD, outD, outC, C.dat, if_true, ZA]; rfl) rfl (by simp) (by simp) ?_)
    with_reducible exact hQ
 · have hkf : isKnown a.kind = false := by simpa using hkn
   rw [hkf] at hK
   have hQ0 : Q (.c (.v (.string ⟨#[]⟩))) [] := by
    unfold isKnown at hkf
    by_cases h1 : 1 ≤ a.kind
    · rw [if_pos h1, if_neg (by intro h2; simp [h1, h2] at hkf)] at hQ; exact hQ
    · rw [if_neg h1] at hQ; exact hQ
   simp only [actC, hf1, hf2]
   refine Y3 okJe rfl (by repeat first | with_reducible exact Y2 | refine Y1 (by simp only [Y5, Y4, Y6, qev, St.ev, St.put, St.with, D.cells, boxA, C.st, Y8, Y7, List.replicate, Nat.reduceAdd, Nat.reduceSub, if_true, ZA]; rfl) ?_) ?_
   refine seq_in ?_
   refine Y3 okJe rfl (by repeat first | with_reducible exact Y2 | refine Y1 (by simp only [Y5, Y4, Y6, evsA, qev, St.ev, St.put, St.with, qload, Y9, qmk, C.cpy, TK.agg, Yb, qun, liveR, C.cp, C.dat, Nat.reduceEqDiff, if_true, if_false, Bool.not_false, reduceCtorEq, Nat.add_zero, Bool.true_or, callP, Fs.none, Yg, argD, argC, settle, settle1, settleC, dB, FsJe, hK, tk50, tsz3, tk3, ZA]; rfl) ?_) ?_
   refine Yf (b := true) rfl (fun _ => ?_) (fun h => by cases h)
   refine Y3 okJe rfl (by repeat first | with_reducible exact Y2 | refine Y1 (by simp only [Y5, Y4, Y6, qev, St.ev, St.put, Y8, Y7, ZA]; rfl) ?_) ?_
   refine Yo (Yp (by simp only [outRes, Yi, resD, outD, outC, C.dat, if_true, ZA]; rfl) rfl (by simp) (by simp) ?_)
   exact hQ0
end Go.Dl
