/- The walks of a text's quote: the program's and the reference's; Plain law: a text's quote is one token, with this text; The walks of a number's digits: the program's and the reference's; The walks of a value as a script says it, of Clean, of TakeValue. -/
import Derived.Test.YtbefgbljlmnfoaaT12
set_option linter.all false
namespace Go.Dl
open Go.RowKit
open Go.Proofs
set_option linter.unusedSimpArgs false
set_option linter.unusedVariables false
def hexD (n : Nat) : UInt8 := hexT.data.toList.getD n 0
/-- A byte as it stands in a quote. -/
def encB (x : UInt8) : List UInt8 := if isPlain x.toNat = true then [x] else [92, 120, hexD (x.toNat / 16), hexD (x.toNat % 16)]
def qAcc (s : ByteArray) (i : Nat) : List UInt8 := 34 :: (s.data.toList.take i).flatMap encB
def quotedF (s : ByteArray) : ByteArray := ⟨(qAcc s s.size ++ [34]).toArray⟩
theorem encB_len (x : UInt8) : (encB x).length ≤ 4 := by unfold encB; split <;> simp
theorem flat_len : ∀ l : List UInt8, (l.flatMap encB).length ≤ 4 * l.length
  | [] => Nat.le_refl 0
  | x :: l => by
    have := flat_len l
    have := encB_len x
    rw [List.flatMap_cons, List.length_append, List.length_cons]; omega
theorem qAcc_len (s : ByteArray) (i : Nat) : (qAcc s i).length ≤ 4 * i + 1 := by
  have := flat_len (s.data.toList.take i)
  have h2 : (s.data.toList.take i).length ≤ i := List.length_take_le _ _
  unfold qAcc
  rw [List.length_cons]; omega
theorem qAcc_succ {s : ByteArray} {i : Nat} (h : i < s.size) : qAcc s (i + 1) = qAcc s i ++ encB (byU s i) := by
  have h' : i < s.data.toList.length := by simpa using h
  have hb : byU s i = s.data.toList[i] := by unfold byU; rw [List.getD_eq_getElem?_getD, List.getElem?_eq_getElem h', Option.getD_some]
  unfold qAcc
  rw [List.take_succ_eq_append_getElem h', List.flatMap_append, List.flatMap_singleton, hb, List.cons_append]
theorem qAcc_plain {s : ByteArray} {i : Nat} (h : i < s.size) (hp : isPlain (byU s i).toNat = true) : qAcc s i ++ [byU s i] = qAcc s (i + 1) := by
  rw [qAcc_succ h, encB, if_pos hp]
theorem qAcc_esc {s : ByteArray} {i : Nat} (h : i < s.size) (hp : isPlain (byU s i).toNat = false) : qAcc s i ++ [92, 120] ++ [hexD ((byU s i).toNat / 16)] ++ [hexD ((byU s i).toNat % 16)] = qAcc s (i + 1) := by
  rw [qAcc_succ h, encB, if_neg (by rw [hp]; simp)]; simp
theorem tab_hi : ∀ n : Fin 256, IntKind.u8.wrap (((n.val : Nat) : Int).fdiv (2 ^ min 4 IntKind.u8.bits)) = ((n.val / 16 : Nat) : Int) := by decide +kernel
theorem tab_lo : ∀ n : Fin 256, IntKind.u8.wrap ((BitVec.ofInt IntKind.u8.bits ((n.val : Nat) : Int) &&& BitVec.ofInt IntKind.u8.bits 15).toNat) = ((n.val % 16 : Nat) : Int) := by decide +kernel
theorem tab_dv : ∀ n : Fin 256, IntKind.i64.wrap (((n.val : Nat) : Int).tdiv 16) = ((n.val / 16 : Nat) : Int) := by decide +kernel
theorem tab_md : ∀ n : Fin 256, IntKind.i64.wrap (((n.val : Nat) : Int).tmod 16) = ((n.val % 16 : Nat) : Int) := by decide +kernel
noncomputable def FsU1 : Fs := { pure := fun k => if k = 33 then some (pU8 isPlain) else none, objs := fun k => if k = 32 then some oWB else if k = 34 then some oWS else if k = 35 then some oStr else none }
theorem okU1 : FsOK Try.prog FsU1 := by
  refine ⟨fun k f h => ?_, fun k f h => ?_⟩
  · simp only [FsU1] at h
    split at h
    · rename_i hk; subst hk; cases h; exact ⟨by kernel_rfl, meets33⟩
    · cases h
  · simp only [FsU1] at h
    split at h
    · rename_i hk; subst hk; cases h; exact ⟨by kernel_rfl, meets32⟩
    split at h
    · rename_i hk; subst hk; cases h; exact ⟨by kernel_rfl, meets34⟩
    split at h
    · rename_i hk; subst hk; cases h; exact ⟨by kernel_rfl, meets35⟩
    · cases h
noncomputable def pQuoted : List D → Option D := famP (fun s : ByteArray => s.size ≤ 1000000) (fun s => [.c (.v (.string s))]) (fun s => .c (.v (.string (quotedF s))))
theorem str_inj {β : Type} {f : ByteArray → β} (a b : ByteArray) (h : ([.c (.v (.string a))] : List D) = [.c (.v (.string b))]) : f a = f b := by
  simp only [List.cons.injEq, D.c.injEq, C.v.injEq, Value.string.injEq, and_true] at h
  subst h; rfl
theorem quoted_at (s : ByteArray) (hs : s.size ≤ 1000000) : pQuoted [.c (.v (.string s))] = some (.c (.v (.string (quotedF s)))) := Ym (fun a b h => str_inj a b h) s hs rfl
set_option maxHeartbeats 2000000 in
theorem meets14 : Meets Try.prog 14 (pureS pQuoted) := by
  refine Yn (show Try.prog.funcs[14]? = some Try.f14 by kernel_rfl) rfl (n := 31) rfl (rs := [ResultVar.tmp 2]) rfl ?_
  intro s hs Q hQ
  have hsm : s.size ≤ maxStr := by unfold maxStr; omega
  have hc0 : ((0 : Nat) : Int) = 0 := rfl
  have hW34 : oWB [.c (.p 0 0 0), .c (.v (.int .u8 34))] [⟨2, [[.b 69, .u 5 []]]⟩] = some (.c (.v .nilIface), [⟨2, [[.b 69, .u 5 [34]]]⟩]) := wb_at [] 34 (by decide)
  refine Y3 ok0 rfl (by repeat first | with_reducible exact Y2 | refine Y1 (by simp only [Y5, Y4, Y6, qev, St.ev, St.put, Y8, Y7, List.replicate, Nat.reduceSub, ZA]; rfl) ?_) ?_
  refine seq_runR ?_
  refine rr_bld 5 rfl rfl Try.zeroValue69 (rr_nil ?_)
  refine Y3 okU1 rfl (by repeat first | with_reducible exact Y2 | refine Y1 (by simp only [Y5, Y4, evsA, St.ev, St.put, St.with, D.cell, C.cpy, C.cp, C.dat, Y8, Y7, Bool.and_true, Nat.reduceEqDiff, if_true, if_false, beq_self_eq_true, Bool.true_or, callP, callO, dedup, rootsD, rootsC, List.flatMap_cons, List.flatMap_nil, List.filterMap_cons, List.filterMap_nil, Yg, argD, argC, List.contains_nil, objsAt, objOf, List.idxOf?, List.findIdx?, List.findIdx?.go, setObjs, settle, settle1, settleC, FsU1, hW34, ZA]; rfl) ?_) ?_
  refine seq_in ?_
  refine Y3 okU1 rfl (by repeat first | with_reducible exact Y2 | refine Y1 (by simp only [Y5, Y4, Y6, qev, St.ev, St.put, qlen, qbuiltin, Y8, Y7, tk9, ZA]; rfl) ?_) ?_
  refine tri_block ?_
  refine tri_loop_le (fun m A => ∃ i : Nat, m = s.size - i ∧ i ≤ s.size ∧ A = ⟨[.c (.v (.string s)), .top, .c (.v (.string ⟨#[]⟩)), .c (.p 0 0 0), .top, .top, .top, .top, .c (.v (.int .i64 (s.size : Nat))), .c (.v (.int .i64 (i : Nat))), .top, .top, .top, .top, .top, .top, .top, .top, .top, .top, .top, .top, .top, .top, .top, .top, .top, .top, .top, .top, .top], [some ⟨false, 2, [[.b 69, .u 5 (qAcc s i)]]⟩]⟩) s.size (B := ⟨[.c (.v (.string s)), .top, .c (.v (.string ⟨#[]⟩)), .c (.p 0 0 0), .top, .top, .top, .top, .c (.v (.int .i64 (s.size : Nat))), .c (.v (.int .i64 (0 : Nat))), .top, .top, .top, .top, .top, .top, .top, .top, .top, .top, .top, .top, .top, .top, .top, .top, .top, .top, .top, .top, .top], [some ⟨false, 2, [[.b 69, .u 5 (qAcc s 0)]]⟩]⟩) ⟨by repeat (first | exact .nil | refine .same ?_ | refine .top ?_), rfl⟩ ⟨0, rfl, Nat.zero_le _, rfl⟩ ?_
  rintro m A ⟨i, hm, hi, rfl⟩
  have hq1 : (i : Int) + 1 = ((i + 1 : Nat) : Int) := by omega
  have hb : ∀ j, s.data.toList.getD j 0 = byU s j := fun _ => rfl
  have hql := qAcc_len s i
  have hbl := (byU s i).toNat_lt
  have hW1 := wb_at (qAcc s i) (byU s i) (by omega)
  have hS1 : oWS [.c (.p 0 0 0), .c (.v (.string ⟨#[92, 120]⟩))] [⟨2, [[.b 69, .u 5 (qAcc s i)]]⟩] = some (.t [.c (.v (.int .i64 2)), .c (.v .nilIface)], [⟨2, [[.b 69, .u 5 (qAcc s i ++ [92, 120])]]⟩]) := ws_at (qAcc s i) ⟨#[92, 120]⟩ (by show (qAcc s i).length + 2 ≤ _; omega)
  have hW2 := wb_at (qAcc s i ++ [92, 120]) (hexD ((byU s i).toNat / 16)) (by rw [List.length_append]; show (qAcc s i).length + 2 + 1 ≤ _; omega)
  have hW3 := wb_at (qAcc s i ++ [92, 120] ++ [hexD ((byU s i).toNat / 16)]) (hexD ((byU s i).toNat % 16)) (by rw [List.length_append, List.length_append]; show (qAcc s i).length + 2 + 1 + 1 ≤ _; omega)
  have hHi : IntKind.u8.wrap (((byU s i).toNat : Int).fdiv (2 ^ min 4 IntKind.u8.bits)) = (((byU s i).toNat / 16 : Nat) : Int) := tab_hi ⟨(byU s i).toNat, hbl⟩
  have hLo : IntKind.u8.wrap ((BitVec.ofInt IntKind.u8.bits ((byU s i).toNat : Int) &&& BitVec.ofInt IntKind.u8.bits 15).toNat) = (((byU s i).toNat % 16 : Nat) : Int) := tab_lo ⟨(byU s i).toNat, hbl⟩
  have hz16 : (⟨#[48, 49, 50, 51, 52, 53, 54, 55, 56, 57, 97, 98, 99, 100, 101, 102]⟩ : ByteArray).size = 16 := rfl
  have hl1 : (((byU s i).toNat / 16 : Nat) : Int) < ((16 : Nat) : Int) := (by omega)
  have hl2 : (((byU s i).toNat % 16 : Nat) : Int) < ((16 : Nat) : Int) := (by omega)
  have hg1 : ∀ n : Nat, ([48, 49, 50, 51, 52, 53, 54, 55, 56, 57, 97, 98, 99, 100, 101, 102] : List UInt8).getD n 0 = hexD n := fun _ => rfl
  have hg2 : ∀ n : Nat, (⟨#[48, 49, 50, 51, 52, 53, 54, 55, 56, 57, 97, 98, 99, 100, 101, 102]⟩ : ByteArray).data.toList.getD n 0 = hexD n := fun _ => rfl
  have hWe : oWB [.c (.p 0 0 0), .c (.v (.int .u8 34))] [⟨2, [[.b 69, .u 5 (qAcc s i)]]⟩] = some (.c (.v .nilIface), [⟨2, [[.b 69, .u 5 (qAcc s i ++ [34])]]⟩]) := wb_at (qAcc s i) 34 (by omega)
  have hSt := str_at (qAcc s i ++ [34]) (by rw [List.length_append]; show (qAcc s i).length + 1 ≤ _; omega)
  refine Y3 okU1 rfl (by repeat first | with_reducible exact Y2 | refine Y1 (by simp only [Y5, Y4, Y6, qev, St.ev, St.put, qint, Yc, Ya, qbin, if_true, if_false, ZA]; rfl) ?_) ?_
  refine seq_in (Yf rfl (fun a0 => ?_) (fun a0 => ?_))
  ·
    simp only [decide_eq_true_eq] at a0
    refine Ye ?_
    refine seq_in (tri_block ?_)
    refine Y3 okU1 rfl (by repeat first | with_reducible exact Y2 | refine Y1 (by simp only [Y5, Y4, Y6, qev, St.ev, St.put, decide_true, a0, ZA]; rfl) ?_) ?_
    refine Y3 okU1 rfl (by repeat first | with_reducible exact Y2 | refine Y1 (by simp only [Y5, Y4, Y6, qev, St.ev, St.put, D.int, qindex, if_true, Int.toNat_natCast, Int.natCast_nonneg, hb, tk9, a0, ZA]; rfl) ?_) ?_
    refine seq_in ?_
    refine Y3 okU1 rfl (by repeat first | with_reducible exact Y2 | refine Y1 (by simp only [Y5, Y4, Y6, evsA, qev, St.ev, St.put, St.with, C.cpy, C.cp, C.dat, if_true, Bool.true_or, callP, Yg, argD, argC, settle, settle1, settleC, dB, FsU1, plain_at, ZA]; rfl) ?_) ?_
    refine Yf rfl (fun a1 => ?_) (fun a1 => ?_)
    ·
      refine Y3 okU1 rfl (by repeat first | with_reducible exact Y2 | refine Y1 (by simp only [Y5, Y4, Y6, evsA, qev, St.ev, St.put, St.with, D.cell, C.cpy, C.cp, C.dat, Bool.and_true, Nat.reduceEqDiff, if_true, if_false, beq_self_eq_true, Bool.true_or, callP, callO, dedup, rootsD, rootsC, List.flatMap_cons, List.flatMap_nil, List.filterMap_cons, List.filterMap_nil, Yg, argD, argC, List.contains_nil, objsAt, objOf, List.idxOf?, List.findIdx?, List.findIdx?.go, setObjs, settle, settle1, settleC, FsU1, hW1, a1, ZA]; rfl) ?_) ?_
      refine tri_exit ?_
      show Tri _ _ _ _
      refine Yk okU1 rfl (by repeat first | with_reducible exact Y2 | refine Y1 (by simp only [Y5, Y4, Y6, qev, St.ev, St.put, qint, Yc, Ya, qbin, Y8, Y7, if_true, if_false, hq1, show IntKind.i64.wrap (↑(i + 1) : Int) = _ from wrap_i64 _ (by omega) (by omega), ZA]; rfl) ?_) ?_
      (exact ⟨s.size - (i + 1), by omega, ⟨[.c (.v (.string s)), .top, .c (.v (.string ⟨#[]⟩)), .c (.p 0 0 0), .top, .top, .top, .top, .c (.v (.int .i64 (s.size : Nat))), .c (.v (.int .i64 (i + 1 : Nat))), .top, .top, .top, .top, .top, .top, .top, .top, .top, .top, .top, .top, .top, .top, .top, .top, .top, .top, .top, .top, .top], [some ⟨false, 2, [[.b 69, .u 5 (qAcc s (i + 1))]]⟩]⟩, ⟨by repeat (first | exact .nil | refine .same ?_ | refine .top ?_), (by rw [← qAcc_plain (by omega) (by assumption)]; try rfl)⟩, i + 1, rfl, by omega, rfl⟩)
    ·
      refine Ye ?_
      refine Y3 okU1 rfl (by repeat first | with_reducible exact Y2 | refine Y1 (by simp only [Y5, Y4, evsA, St.ev, St.put, St.with, D.cell, C.cpy, C.cp, C.dat, Y8, Y7, Bool.and_true, Nat.reduceEqDiff, if_true, if_false, beq_self_eq_true, Bool.true_or, callP, callO, dedup, rootsD, rootsC, List.flatMap_cons, List.flatMap_nil, List.filterMap_cons, List.filterMap_nil, Yg, argD, argC, List.contains_nil, objsAt, objOf, List.idxOf?, List.findIdx?, List.findIdx?.go, setObjs, settle, settle1, settleC, settleDs, FsU1, hS1, a1, ZA]; rfl) ?_) ?_
      refine Y3 okU1 rfl (by repeat first | with_reducible exact Y2 | refine Y1 (by simp only [Y5, Y4, Y6, evsA, qev, St.ev, St.put, St.with, D.cell, D.int, C.cpy, qindex, qint, Yc, Ya, qbin, C.cp, C.dat, Y8, Y7, Bool.and_true, Nat.reduceEqDiff, if_true, if_false, reduceCtorEq, Int.reduceLT, Int.reduceToNat, beq_self_eq_true, Bool.true_or, callP, callO, dedup, rootsD, rootsC, List.flatMap_cons, List.flatMap_nil, List.filterMap_cons, List.filterMap_nil, Yg, argD, argC, List.contains_nil, objsAt, objOf, List.idxOf?, List.findIdx?, List.findIdx?.go, setObjs, settle, settle1, settleC, FsU1, Int.toNat_natCast, Int.natCast_nonneg, hW2, hHi, hz16, hl1, hg1, tk9, ZA]; rfl) ?_) ?_
      refine Yk okU1 rfl (by repeat first | with_reducible exact Y2 | refine Y1 (by simp only [Y5, Y4, Y6, evsA, qev, St.ev, St.put, St.with, D.cell, D.int, C.cpy, qindex, qint, Yc, Ya, qbin, C.cp, C.dat, Y8, Y7, Bool.and_true, Nat.reduceEqDiff, if_true, if_false, beq_self_eq_true, Bool.true_or, callP, callO, dedup, rootsD, rootsC, List.flatMap_cons, List.flatMap_nil, List.filterMap_cons, List.filterMap_nil, Yg, argD, argC, List.contains_nil, objsAt, objOf, List.idxOf?, List.findIdx?, List.findIdx?.go, setObjs, settle, settle1, settleC, FsU1, Int.toNat_natCast, Int.natCast_nonneg, hW3, hLo, hz16, hl2, hg1, tk9, ZA]; rfl) ?_) ?_
      show Tri _ _ _ _
      refine Yk okU1 rfl (by repeat first | with_reducible exact Y2 | refine Y1 (by simp only [Y5, Y4, Y6, qev, St.ev, St.put, qint, Yc, Ya, qbin, Y8, Y7, if_true, if_false, hq1, show IntKind.i64.wrap (↑(i + 1) : Int) = _ from wrap_i64 _ (by omega) (by omega), ZA]; rfl) ?_) ?_
      (exact ⟨s.size - (i + 1), by omega, ⟨[.c (.v (.string s)), .top, .c (.v (.string ⟨#[]⟩)), .c (.p 0 0 0), .top, .top, .top, .top, .c (.v (.int .i64 (s.size : Nat))), .c (.v (.int .i64 (i + 1 : Nat))), .top, .top, .top, .top, .top, .top, .top, .top, .top, .top, .top, .top, .top, .top, .top, .top, .top, .top, .top, .top, .top], [some ⟨false, 2, [[.b 69, .u 5 (qAcc s (i + 1))]]⟩]⟩, ⟨by repeat (first | exact .nil | refine .same ?_ | refine .top ?_), (by rw [← qAcc_esc (by omega) (by first | assumption | exact Bool.eq_false_iff.2 (by assumption))]; try rfl)⟩, i + 1, rfl, by omega, rfl⟩)
  ·
    simp only [decide_eq_false_iff_not] at a0
    refine tri_exit ?_
    show Tri _ _ _ _
    refine Y3 okU1 rfl (by repeat first | with_reducible exact Y2 | refine Y1 (by simp only [Y5, Y4, evsA, St.ev, St.put, St.with, D.cell, C.cpy, C.cp, C.dat, Y8, Y7, Bool.and_true, Nat.reduceEqDiff, if_true, if_false, decide_false, beq_self_eq_true, Bool.true_or, callP, callO, dedup, rootsD, rootsC, List.flatMap_cons, List.flatMap_nil, List.filterMap_cons, List.filterMap_nil, Yg, argD, argC, List.contains_nil, objsAt, objOf, List.idxOf?, List.findIdx?, List.findIdx?.go, setObjs, settle, settle1, settleC, FsU1, hWe, a0, ZA]; rfl) ?_) ?_
    refine Y3 okU1 rfl (by repeat first | with_reducible exact Y2 | refine Y1 (by simp only [Y5, Y4, Y6, evsA, qev, St.ev, St.put, St.with, D.cell, C.dat, Bool.and_true, Nat.reduceEqDiff, if_true, if_false, beq_self_eq_true, Bool.true_or, callP, callO, dedup, rootsD, rootsC, List.flatMap_cons, List.flatMap_nil, List.filterMap_cons, List.filterMap_nil, Yg, argD, argC, List.contains_nil, objsAt, objOf, List.idxOf?, List.findIdx?, List.findIdx?.go, setObjs, settle, settle1, settleC, FsU1, hSt, ZA]; rfl) ?_) ?_
    refine Yo (Yp (by simp only [outRes, Yi, resD, outD, outC, C.dat, if_true, ZA]; rfl) rfl (by simp) (by simp) ?_)
    (obtain rfl : i = s.size := (by omega); exact hQ)
def qS (s : ByteArray) (i : Nat) : ByteArray := ⟨(qAcc s i).toArray⟩
theorem qS_len (s : ByteArray) (i : Nat) : (qS s i).size ≤ 4 * i + 1 := qAcc_len s i
theorem app2 (acc : List UInt8) (x y : UInt8) : (⟨acc.toArray⟩ : ByteArray) ++ ⟨#[x, y]⟩ = ⟨(acc ++ [x, y]).toArray⟩ := by
  apply ByteArray.ext
  rw [ByteArray.data_append]
  simp
theorem app1' (acc : List UInt8) (x : UInt8) : (⟨acc.toArray⟩ : ByteArray) ++ ⟨#[x]⟩ = ⟨(acc ++ [x]).toArray⟩ := by
  apply ByteArray.ext
  rw [ByteArray.data_append]
  simp
theorem ext1' {s : ByteArray} {i : Nat} (h : i < s.size) : s.extract i (i + 1) = ⟨#[byU s i]⟩ := by
  apply ByteArray.ext
  rw [ByteArray.data_extract]
  apply Array.ext'
  rw [Array.toList_extract, List.extract_eq_take_drop]
  have h' : i < s.data.toList.length := by simpa using h
  rw [List.drop_eq_getElem_cons h', show i + 1 - i = 1 from by omega]
  simp only [Z17, Z20, byU, List.getD_eq_getElem?_getD, List.getElem?_eq_getElem h', Option.getD_some]
theorem qS_plain {s : ByteArray} {i : Nat} (h : i < s.size) (hp : isPlainR (byU s i).toNat = true) : qS s i ++ s.extract i (i + 1) = qS s (i + 1) := by
  unfold qS
  rw [ext1' h, app1', qAcc_plain h (by rw [← plainR_eq]; exact hp)]
theorem qS_esc {s : ByteArray} {i : Nat} (h : i < s.size) (hp : isPlainR (byU s i).toNat = false) : qS s i ++ ⟨#[92, 120]⟩ ++ hexT.extract ((byU s i).toNat / 16) ((byU s i).toNat / 16 + 1) ++ hexT.extract ((byU s i).toNat % 16) ((byU s i).toNat % 16 + 1) = qS s (i + 1) := by
  have hb := (byU s i).toNat_lt
  have hz : hexT.size = 16 := rfl
  unfold qS
  rw [ext1' (by omega), ext1' (by omega), app2, app1', app1']
  rw [← qAcc_esc h (by rw [← plainR_eq]; exact hp)]
  rfl
theorem qS_end (s : ByteArray) : qS s s.size ++ ⟨#[34]⟩ = quotedF s := by
  unfold qS quotedF
  rw [app1']
noncomputable def FsU2 : Fs := { Fs.none with pure := fun k => if k = 36 then some (pU8 isPlainR) else none }
theorem okU2 : FsOK Try.prog FsU2 := by
  refine ⟨fun k f h => ?_, fun _ _ h => (by cases h)⟩
  simp only [FsU2] at h
  split at h
  · rename_i hk; subst hk; cases h; exact ⟨by kernel_rfl, meets36⟩
  · cases h
set_option maxHeartbeats 2000000 in
theorem meets15 : Meets Try.prog 15 (pureS pQuoted) := by
  refine Yn (show Try.prog.funcs[15]? = some Try.f15 by kernel_rfl) rfl (n := 51) rfl (rs := [ResultVar.tmp 2]) rfl ?_
  intro s hs Q hQ
  have hsm : s.size ≤ maxStr := by unfold maxStr; omega
  have hc0 : ((0 : Nat) : Int) = 0 := rfl
  refine Y3 okU2 rfl (by repeat first | with_reducible exact Y2 | refine Y1 (by simp only [Y5, Y4, Y6, qev, St.ev, St.put, Y8, Y7, List.replicate, Nat.reduceSub, ZA]; rfl) ?_) ?_
  refine Y3 okU2 rfl (by repeat first | with_reducible exact Y2 | refine Y1 (by simp only [Y5, Y4, Y6, qev, St.ev, St.put, Y8, Y7, ZA]; rfl) ?_) ?_
  refine Y3 okU2 rfl (by repeat first | with_reducible exact Y2 | refine Y1 (by simp only [Y5, Y4, Y6, qev, St.ev, St.put, Y8, Y7, ZA]; rfl) ?_) ?_
  refine seq_in ?_
  refine Y3 okU2 rfl (by repeat first | with_reducible exact Y2 | refine Y1 (by simp only [Y5, Y4, Y6, qev, St.ev, St.put, Y8, Y7, ZA]; rfl) ?_) ?_
  refine tri_block ?_
  refine tri_loop_le (fun m A => ∃ i : Nat, m = s.size - i ∧ i ≤ s.size ∧ A = ⟨[.c (.v (.string s)), .top, .c (.v (.string ⟨#[]⟩)), .c (.v (.string ⟨#[48, 49, 50, 51, 52, 53, 54, 55, 56, 57, 97, 98, 99, 100, 101, 102]⟩)), .c (.v (.string (qS s i))), .c (.v (.int .i64 (i : Nat))), .top, .top, .top, .top, .top, .top, .top, .top, .top, .top, .top, .top, .top, .top, .top, .top, .top, .top, .top, .top, .top, .top, .top, .top, .top, .top, .top, .top, .top, .top, .top, .top, .top, .top, .top, .top, .top, .top, .top, .top, .top, .top, .top, .top, .top], []⟩) s.size (B := ⟨[.c (.v (.string s)), .top, .c (.v (.string ⟨#[]⟩)), .c (.v (.string ⟨#[48, 49, 50, 51, 52, 53, 54, 55, 56, 57, 97, 98, 99, 100, 101, 102]⟩)), .c (.v (.string (qS s 0))), .c (.v (.int .i64 (0 : Nat))), .top, .top, .top, .top, .top, .top, .top, .top, .top, .top, .top, .top, .top, .top, .top, .top, .top, .top, .top, .top, .top, .top, .top, .top, .top, .top, .top, .top, .top, .top, .top, .top, .top, .top, .top, .top, .top, .top, .top, .top, .top, .top, .top, .top, .top], []⟩) ⟨by repeat (first | exact .nil | refine .same ?_ | refine .top ?_), rfl⟩ ⟨0, rfl, Nat.zero_le _, rfl⟩ ?_
  rintro m A ⟨i, hm, hi, rfl⟩
  have hq1 : (i : Int) + 1 = ((i + 1 : Nat) : Int) := by omega
  have hb : ∀ j, s.data.toList.getD j 0 = byU s j := fun _ => rfl
  have hql := qS_len s i
  have hbl := (byU s i).toNat_lt
  have hDv : IntKind.i64.wrap (((byU s i).toNat : Int).tdiv 16) = (((byU s i).toNat / 16 : Nat) : Int) := tab_dv ⟨(byU s i).toNat, hbl⟩
  have hMd : IntKind.i64.wrap (((byU s i).toNat : Int).tmod 16) = (((byU s i).toNat % 16 : Nat) : Int) := tab_md ⟨(byU s i).toNat, hbl⟩
  have hq2 : (((byU s i).toNat / 16 : Nat) : Int) + 1 = (((byU s i).toNat / 16 + 1 : Nat) : Int) := by omega
  have hq3 : (((byU s i).toNat % 16 : Nat) : Int) + 1 = (((byU s i).toNat % 16 + 1 : Nat) : Int) := by omega
  have hz16 : (⟨#[48, 49, 50, 51, 52, 53, 54, 55, 56, 57, 97, 98, 99, 100, 101, 102]⟩ : ByteArray).size = 16 := rfl
  have hz2 : (⟨#[92, 120]⟩ : ByteArray).size = 2 := rfl
  have hz1 : (⟨#[34]⟩ : ByteArray).size = 1 := rfl
  have hl1 : (((byU s i).toNat / 16 + 1 : Nat) : Int) ≤ ((16 : Nat) : Int) := (by omega)
  have hl2 : (((byU s i).toNat % 16 + 1 : Nat) : Int) ≤ ((16 : Nat) : Int) := (by omega)
  have hn1 : (((byU s i).toNat / 16 : Nat) : Int) ≤ (((byU s i).toNat / 16 + 1 : Nat) : Int) := (by omega)
  have hn2 : (((byU s i).toNat % 16 : Nat) : Int) ≤ (((byU s i).toNat % 16 + 1 : Nat) : Int) := (by omega)
  have hA1 : (qS s i).size + (s.extract i (i + 1)).size ≤ maxStr := (by unfold maxStr; rw [ByteArray.size_extract]; omega)
  have hA2 : (qS s i).size + 2 ≤ maxStr := (by unfold maxStr; omega)
  have hA5 : (qS s i).size + 1 ≤ maxStr := (by unfold maxStr; omega)
  have hA3 : (qS s i ++ ⟨#[92, 120]⟩).size + ((⟨#[48, 49, 50, 51, 52, 53, 54, 55, 56, 57, 97, 98, 99, 100, 101, 102]⟩ : ByteArray).extract ((byU s i).toNat / 16) ((byU s i).toNat / 16 + 1)).size ≤ maxStr := (by unfold maxStr; rw [ByteArray.size_append, ByteArray.size_extract, hz2, hz16]; omega)
  have hA4 : (qS s i ++ ⟨#[92, 120]⟩ ++ (⟨#[48, 49, 50, 51, 52, 53, 54, 55, 56, 57, 97, 98, 99, 100, 101, 102]⟩ : ByteArray).extract ((byU s i).toNat / 16) ((byU s i).toNat / 16 + 1)).size + ((⟨#[48, 49, 50, 51, 52, 53, 54, 55, 56, 57, 97, 98, 99, 100, 101, 102]⟩ : ByteArray).extract ((byU s i).toNat % 16) ((byU s i).toNat % 16 + 1)).size ≤ maxStr := (by unfold maxStr; rw [ByteArray.size_append, ByteArray.size_append, ByteArray.size_extract, ByteArray.size_extract, hz2, hz16]; omega)
  refine seq_in ?_
  refine Y3 okU2 rfl (by repeat first | with_reducible exact Y2 | refine Y1 (by simp only [Y5, Y4, Y6, qev, St.ev, St.put, qint, Yc, Ya, qbin, qlen, qbuiltin, if_true, if_false, tk9, ZA]; rfl) ?_) ?_
  refine Yf rfl (fun b0 => ?_) (fun b0 => ?_)
  ·
    simp only [decide_eq_true_eq] at b0
    refine Ye ?_
    refine seq_in (tri_block ?_)
    refine Y3 okU2 rfl (by repeat first | with_reducible exact Y2 | refine Y1 (by simp only [Y5, Y4, Y6, evsA, qev, St.ev, St.put, St.with, D.int, C.cpy, qindex, C.cp, C.dat, if_true, decide_true, Bool.true_or, callP, Fs.none, Yg, argD, argC, settle, settle1, settleC, dB, FsU2, Int.toNat_natCast, Int.natCast_nonneg, hb, plainR_at, tk9, b0, ZA]; rfl) ?_) ?_
    refine Yf rfl (fun b1 => ?_) (fun b1 => ?_)
    ·
      refine Yk okU2 rfl (by repeat first | with_reducible exact Y2 | refine Y1 (by simp only [Y5, Y4, Y6, qev, St.ev, St.put, D.int, qint, Yc, qstr, Ya, qbin, qbounds, qslice, omap, Y8, Y7, if_true, if_false, Int.toNat_natCast, Int.natCast_nonneg, hq1, hA1, tk9, b1, show IntKind.i64.wrap (↑(i + 1) : Int) = _ from wrap_i64 _ (by omega) (by omega), show ((↑(i + 1) : Int) ≤ (↑s.size : Int)) = True from eq_true (by omega), show ((↑i : Int) ≤ (↑(i + 1) : Int)) = True from eq_true (by omega), ZA]; rfl) ?_) ?_
      show Tri _ _ _ _
      refine Yk okU2 rfl (by repeat first | with_reducible exact Y2 | refine Y1 (by simp only [Y5, Y4, Y6, qev, St.ev, St.put, qint, Yc, Ya, qbin, Y8, Y7, if_true, if_false, hq1, show IntKind.i64.wrap (↑(i + 1) : Int) = _ from wrap_i64 _ (by omega) (by omega), ZA]; rfl) ?_) ?_
      simp only []
      (exact ⟨s.size - (i + 1), by omega, ⟨[.c (.v (.string s)), .top, .c (.v (.string ⟨#[]⟩)), .c (.v (.string ⟨#[48, 49, 50, 51, 52, 53, 54, 55, 56, 57, 97, 98, 99, 100, 101, 102]⟩)), .c (.v (.string (qS s (i + 1)))), .c (.v (.int .i64 ((i + 1) : Nat))), .top, .top, .top, .top, .top, .top, .top, .top, .top, .top, .top, .top, .top, .top, .top, .top, .top, .top, .top, .top, .top, .top, .top, .top, .top, .top, .top, .top, .top, .top, .top, .top, .top, .top, .top, .top, .top, .top, .top, .top, .top, .top, .top, .top, .top], []⟩, ⟨(by rw [← qS_plain (by omega) (by assumption)]; repeat (first | exact .nil | refine .same ?_ | refine .top ?_)), rfl⟩, i + 1, rfl, by omega, rfl⟩)
    ·
      refine Y3 okU2 rfl (by repeat first | with_reducible exact Y2 | refine Y1 (by simp only [Y5, Y4, Y6, qev, St.ev, St.put, D.int, qindex, qint, Yc, Ya, qbin, qconv, Y8, Y7, if_true, if_false, Int.reduceEq, Int.toNat_natCast, Int.natCast_nonneg, hb, hDv, tk9, b0, b1, tk3, tk5, show IntKind.i64.wrap (↑(byU s i).toNat : Int) = _ from wrap_i64 _ (by omega) (by omega), ZA]; rfl) ?_) ?_
      refine Y3 okU2 rfl (by repeat first | with_reducible exact Y2 | refine Y1 (by simp only [Y5, Y4, Y6, qev, St.ev, St.put, D.int, qindex, qint, Yc, Ya, qbin, qconv, Y8, Y7, if_true, if_false, Int.reduceEq, Int.toNat_natCast, Int.natCast_nonneg, hb, hMd, tk9, b0, tk3, tk5, show IntKind.i64.wrap (↑(byU s i).toNat : Int) = _ from wrap_i64 _ (by omega) (by omega), ZA]; rfl) ?_) ?_
      refine any_endE mixed okU2 rfl (by kernel_rfl) ?_
      refine ⟨_, (by repeat first | with_reducible exact Y2 | refine Y1 (by simp only [Y5, Y4, Y6, qev, St.ev, St.put, D.int, qint, Yc, qstr, Ya, qbin, qbounds, qslice, omap, Y8, Y7, if_true, if_false, Int.toNat_natCast, Int.natCast_nonneg, hq2, hq3, hz16, hz2, hl1, hl2, hn1, hn2, hA2, hA3, hA4, tk9, show IntKind.i64.wrap (↑((byU s i).toNat / 16 + 1) : Int) = _ from wrap_i64 _ (by omega) (by omega), show IntKind.i64.wrap (↑((byU s i).toNat % 16 + 1) : Int) = _ from wrap_i64 _ (by omega) (by omega), ZA]; rfl) ?_), ?_⟩
      show Tri _ _ _ _
      refine Yk okU2 rfl (by repeat first | with_reducible exact Y2 | refine Y1 (by simp only [Y5, Y4, Y6, qev, St.ev, St.put, qint, Yc, Ya, qbin, Y8, Y7, if_true, if_false, hq1, show IntKind.i64.wrap (↑(i + 1) : Int) = _ from wrap_i64 _ (by omega) (by omega), ZA]; rfl) ?_) ?_
      simp only []
      (exact ⟨s.size - (i + 1), by omega, ⟨[.c (.v (.string s)), .top, .c (.v (.string ⟨#[]⟩)), .c (.v (.string ⟨#[48, 49, 50, 51, 52, 53, 54, 55, 56, 57, 97, 98, 99, 100, 101, 102]⟩)), .c (.v (.string (qS s (i + 1)))), .c (.v (.int .i64 ((i + 1) : Nat))), .top, .top, .top, .top, .top, .top, .top, .top, .top, .top, .top, .top, .top, .top, .top, .top, .top, .top, .top, .top, .top, .top, .top, .top, .top, .top, .top, .top, .top, .top, .top, .top, .top, .top, .top, .top, .top, .top, .top, .top, .top, .top, .top, .top, .top], []⟩, ⟨(by rw [← qS_esc (by omega) (by first | assumption | exact Bool.eq_false_iff.2 (by assumption))]; repeat (first | exact .nil | refine .same ?_ | refine .top ?_)), rfl⟩, i + 1, rfl, by omega, rfl⟩)
  ·
    simp only [decide_eq_false_iff_not] at b0
    refine tri_exit ?_
    show Tri _ _ _ _
    refine Y3 okU2 rfl (by repeat first | with_reducible exact Y2 | refine Y1 (by simp only [Y5, Y4, Y6, qev, St.ev, St.put, qstr, qbin, Y8, Y7, if_true, decide_false, hz1, hA5, b0, ZA]; rfl) ?_) ?_
    refine Yo (Yp (by simp only [outRes, Yi, resD, outD, outC, C.dat, if_true, ZA]; rfl) rfl (by simp) (by simp) ?_)
    (obtain rfl : i = s.size := (by omega); rw [qS_end]; with_reducible exact hQ)
end Go.Dl

namespace Go.Dl
open Go.RowKit
open Go.Proofs
set_option linter.unusedVariables false
theorem tab_hex : ∀ n : Fin 16, nibR ((hexD n.val).toNat : Int) = ((n.val : Nat) : Int) := by decide +kernel
theorem quoted_split {s : ByteArray} {i : Nat} : (quotedF s).data.toList = qAcc s i ++ ((s.data.toList.drop i).flatMap encB ++ [34]) := by
  have h : s.data.toList.length = s.size := by simp
  have : (quotedF s).data.toList = qAcc s s.size ++ [34] := rfl
  rw [this]
  unfold qAcc
  rw [List.take_of_length_le (by omega)]
  have e : s.data.toList.flatMap encB = (s.data.toList.take i).flatMap encB ++ (s.data.toList.drop i).flatMap encB := by rw [← List.flatMap_append, List.take_append_drop]
  rw [e]
  simp only [List.cons_append, List.append_assoc]
theorem getD_app (a b : List UInt8) (j : Nat) : (a ++ b).getD (a.length + j) 0 = b.getD j 0 := by
  rw [List.getD_eq_getElem?_getD, List.getD_eq_getElem?_getD, List.getElem?_append_right (by omega), Nat.add_sub_cancel_left]
theorem byU_q {s : ByteArray} (i j : Nat) : byU (quotedF s) ((qAcc s i).length + j) = ((s.data.toList.drop i).flatMap encB ++ [34]).getD j 0 := by
  unfold byU
  rw [quoted_split (i := i), getD_app]
theorem quoted_size (s : ByteArray) (i : Nat) : (quotedF s).size = (qAcc s i).length + ((s.data.toList.drop i).flatMap encB).length + 1 := by
  have : (quotedF s).size = (quotedF s).data.toList.length := by simp
  rw [this, quoted_split (i := i)]
  simp; omega
theorem take_ok (s : ByteArray) : (⟨(s.data.toList.take s.size).toArray⟩ : ByteArray) = s := by
  have h : s.data.toList.length = s.size := by simp
  rw [List.take_of_length_le (by omega)]
theorem quoted_le (s : ByteArray) : (quotedF s).size ≤ 4 * s.size + 2 := by
  have h := quoted_size s s.size
  have h2 := qAcc_len s s.size
  have hlen : s.data.toList.length = s.size := by simp
  rw [List.drop_of_length_le (by omega), List.flatMap_nil, List.length_nil] at h
  omega
theorem flat_ge : ∀ l : List UInt8, l.length ≤ (l.flatMap encB).length
  | [] => Nat.le_refl 0
  | x :: l => by
    have hx : 1 ≤ (encB x).length := by unfold encB; split <;> simp
    have := flat_ge l
    rw [List.flatMap_cons, List.length_append, List.length_cons]; omega
theorem quoted_ge (s : ByteArray) : s.size + 2 ≤ (quotedF s).size := by
  have h5 := quoted_size s 0
  have h6 := flat_ge (s.data.toList.drop 0)
  have h7 : s.data.toList.length = s.size := by simp
  have h8 : (qAcc s 0).length = 1 := rfl
  rw [List.length_drop] at h6
  omega
end Go.Dl

namespace Go.Dl
open Go.RowKit
open Go.Proofs
set_option linter.unusedSimpArgs false
set_option linter.unusedVariables false
def dig (n : Nat) : UInt8 := UInt8.ofNat (48 + n)
theorem dig_int {n : Nat} (h : n ≤ 9) : (48 : Int) + ((n : Nat) : Int) = ((dig n).toNat : Int) := by
  unfold dig
  rw [UInt8.toNat_ofNat']
  omega
/-- A number's digits. -/
def decG : Nat → Nat → List UInt8
  | 0, n => [dig n]
  | f + 1, n => if n ≤ 9 then [dig n] else decG f (n / 10) ++ [dig (n % 10)]
def decL (n : Nat) : List UInt8 := decG 20 n
def decB (n : Nat) : ByteArray := ⟨(decL n).toArray⟩
theorem decG_len : ∀ (f n : Nat), (decG f n).length ≤ f + 1
  | 0, n => Nat.le_refl 1
  | f + 1, n => by
    unfold decG
    split
    · simp
    · have := decG_len f (n / 10)
      rw [List.length_append, List.length_singleton]; omega
theorem div_pow {n f : Nat} (h : n < 10 ^ (f + 1)) : n / 10 < 10 ^ f := (Nat.div_lt_iff_lt_mul (by decide)).2 (by rw [← Nat.pow_succ]; exact h)
theorem pow_pos' {n f : Nat} (h : n < 10 ^ f) (h9 : 9 < n) : ∃ g, f = g + 1 := by
  cases f with
  | zero => exfalso; rw [Nat.pow_zero] at h; omega
  | succ g => exact ⟨g, rfl⟩
theorem lt_pow20 {n : Nat} (h : n < 18446744073709551616) : n < 10 ^ 20 := Nat.lt_of_lt_of_le h (by decide)
theorem decG_small {f n : Nat} (h : n ≤ 9) : decG f n = [dig n] := by
  cases f with
  | zero => rfl
  | succ f => unfold decG; rw [if_pos h]
theorem decG_big {f n : Nat} (h : 9 < n) : decG (f + 1) n = decG f (n / 10) ++ [dig (n % 10)] := by
  rw [decG, if_neg (by omega)]
/-- A list with so many of its ends swapped. -/
def swp (L : List UInt8) (i : Nat) : List UInt8 := (List.range L.length).map fun j => if j < i ∨ L.length ≤ j + i then L.getD (L.length - 1 - j) 0 else L.getD j 0
theorem swp_len (L : List UInt8) (i : Nat) : (swp L i).length = L.length := by simp [swp]
theorem swp_get {L : List UInt8} {i j : Nat} (h : j < L.length) : (swp L i)[j]? = some (if j < i ∨ L.length ≤ j + i then L.getD (L.length - 1 - j) 0 else L.getD j 0) := by
  simp [swp, h]
theorem swp_0 (L : List UInt8) : swp L 0 = L := by
  apply List.ext_getElem?
  intro j
  by_cases h : j < L.length
  · rw [swp_get h, if_neg (by omega), List.getD_eq_getElem?_getD, List.getElem?_eq_getElem h, Option.getD_some]
  · rw [List.getElem?_eq_none (by rw [swp_len]; omega), List.getElem?_eq_none (by omega)]
theorem swp_end {L : List UInt8} {i : Nat} (h : L.length ≤ i + i + 1) : swp L i = L.reverse := by
  apply List.ext_getElem?
  intro j
  by_cases hj : j < L.length
  · rw [swp_get hj, List.getElem?_reverse hj]
    have h2 : L.length - 1 - j < L.length := by omega
    rw [List.getElem?_eq_getElem h2]
    congr 1
    split
    · rw [List.getD_eq_getElem?_getD, List.getElem?_eq_getElem h2, Option.getD_some]
    · have : j = L.length - 1 - j := by omega
      rw [List.getD_eq_getElem?_getD, List.getElem?_eq_getElem hj, Option.getD_some]
      congr 1
  · rw [List.getElem?_eq_none (by rw [swp_len]; omega), List.getElem?_eq_none (by rw [List.length_reverse]; omega)]
theorem swp_set {L : List UInt8} {i k : Nat} (h : k + i + 1 = L.length) (hik : i < k) : ((swp L i).set i (L.getD k 0)).set k (L.getD i 0) = swp L (i + 1) := by
  apply List.ext_getElem?
  intro j
  by_cases hj : j < L.length
  · rw [swp_get hj, List.getElem?_set, List.getElem?_set]
    by_cases h1 : k = j
    · subst h1
      rw [if_pos rfl, if_pos (by rw [List.length_set, swp_len]; omega), if_pos (by omega)]
      congr 2; omega
    · rw [if_neg h1]
      by_cases h2 : i = j
      · subst h2
        rw [if_pos rfl, if_pos (by rw [swp_len]; omega), if_pos (by omega)]
        congr 2; omega
      · rw [if_neg h2, swp_get hj]
        congr 1
        by_cases h3 : j < i ∨ L.length ≤ j + i
        · rw [if_pos h3, if_pos (by omega)]
        · rw [if_neg h3, if_neg (by omega)]
  · rw [List.getElem?_eq_none (by rw [List.length_set, List.length_set, swp_len]; omega), List.getElem?_eq_none (by rw [swp_len]; omega)]
theorem byte_set (l : List UInt8) (i : Nat) (x : UInt8) : (l.map byteRow).set i [.v (.int .u8 x.toNat)] = (l.set i x).map byteRow := by rw [List.map_set]; rfl
theorem byte_nb (l : List UInt8) : rowsNB (l.map byteRow) = true := nb_map (fun _ => rfl)
theorem byte_all (l : List UInt8) : (l.map byteRow).all isByteRow = true := by
  rw [List.all_eq_true]
  intro row h
  obtain ⟨x, _, rfl⟩ := List.mem_map.1 h
  rfl
theorem byte_str (l : List UInt8) : (l.map byteRow).map rowByte = l := by
  rw [List.map_map]
  conv => rhs; rw [← List.map_id l]
  apply List.map_congr_left
  intro x _
  have := x.toNat_lt
  simp [byteRow, rowByte]
noncomputable def pCountB : List D → Option D := famP (fun n : Nat => n < 18446744073709551616) (fun n => [.c (.v (.int .u64 (n : Nat)))]) (fun n => .c (.v (.string (decB n))))
theorem countB_at (n : Nat) (h : n < 18446744073709551616) : pCountB [.c (.v (.int .u64 (n : Nat)))] = some (.c (.v (.string (decB n)))) := Ym (fun a b h => by
  simp only [List.cons.injEq, D.c.injEq, C.v.injEq, Value.int.injEq, and_true, true_and] at h
  obtain rfl : a = b := by omega
  rfl) n h rfl
set_option maxHeartbeats 2000000 in
theorem meets61 : Meets Try.prog 61 (pureS pCountB) := by
  refine Yn (show Try.prog.funcs[61]? = some Try.f61 by kernel_rfl) rfl (n := 49) rfl (rs := [ResultVar.tmp 2]) rfl ?_
  intro n0 hn0 Q hQ
  have hc0 : ((0 : Nat) : Int) = 0 := rfl
  have hres : decG 20 n0 = decL n0 := rfl
  generalize hr : decL n0 = res at hres
  unfold decB at hQ
  rw [hr] at hQ
  have hp20 := lt_pow20 hn0
  clear hr
  refine Y3 ok0 rfl (by repeat first | with_reducible exact Y2 | refine Y1 (by simp only [Y5, Y4, Y6, qev, St.ev, St.put, Y8, Y7, List.replicate, Nat.reduceSub, ZA]; rfl) ?_) ?_
  refine Y3 ok0 rfl (by repeat first | with_reducible exact Y2 | refine Y1 (by simp only [Y5, Y4, Y6, qev, St.ev, St.put, Y8, Y7, ZA]; rfl) ?_) ?_
  refine seq_in (tri_block ?_)
  refine tri_nil 3 1 rfl ?_
  show Tri _ _ _ _
  refine tri_loop_le (fun m A => ∃ (f n : Nat) (acc : List UInt8) (T : List (Option Root)), m = n ∧ n < 18446744073709551616 ∧ n < 10 ^ f ∧ acc.length + f = 20 ∧ decG f n ++ acc.reverse = res ∧ A = ⟨[.c (.v (.int .u64 (n : Nat))), .top, .c (.v (.string ⟨#[]⟩)), .c (.h 0 0 acc.length), .top, .top, .top, .top, .top, .top, .top, .top, .top, .top, .top, .top, .top, .top, .top, .top, .top, .top, .top, .top, .top, .top, .top, .top, .top, .top, .top, .top, .top, .top, .top, .top, .top, .top, .top, .top, .top, .top, .top, .top, .top, .top, .top, .top, .top], some ⟨true, 1, acc.map byteRow⟩ :: T⟩) n0 (B := ⟨[.c (.v (.int .u64 (n0 : Nat))), .top, .c (.v (.string ⟨#[]⟩)), .c (.h 0 0 0), .top, .top, .top, .top, .top, .top, .top, .top, .top, .top, .top, .top, .top, .top, .top, .top, .top, .top, .top, .top, .top, .top, .top, .top, .top, .top, .top, .top, .top, .top, .top, .top, .top, .top, .top, .top, .top, .top, .top, .top, .top, .top, .top, .top, .top], some ⟨true, 1, []⟩ :: []⟩) ⟨by repeat (first | exact .nil | refine .same ?_ | refine .top ?_), rfl⟩ ⟨20, n0, [], [], rfl, hn0, hp20, rfl, by rw [List.reverse_nil, List.append_nil]; exact hres, rfl⟩ ?_
  rintro m A ⟨f, n, acc, T, hm, hn, hpf, hacc, hk, rfl⟩
  have hmd : ((n : Nat) : Int).tmod 10 = ((n % 10 : Nat) : Int) := rfl
  have hdv : ((n : Nat) : Int).tdiv 10 = ((n / 10 : Nat) : Int) := rfl
  have hdg := dig_int (n := n % 10) (by omega)
  have hdl := (dig (n % 10)).toNat_lt
  have hdn := fun (h : ¬ (9 : Int) < ((n : Nat) : Int)) => dig_int (n := n) (by omega)
  have hdl2 := (dig n).toNat_lt
  have ht0 : (acc.map byteRow).take acc.length = acc.map byteRow := List.take_of_length_le (by simp)
  have hne : ∀ k : Nat, (k + 1 != 0) = true := (by intro k; simp)
  have hz : (acc.length + 1) * 1 ≤ 140737488355328 := (by omega)
  have hbn := byte_nb acc
  have hlma : acc.length + 1 ≤ maxStr := (by unfold maxStr; omega)
  refine seq_in ?_
  refine Y3 ok0 rfl (by repeat first | with_reducible exact Y2 | refine Y1 (by simp only [Y5, Y4, Y6, qev, St.ev, St.put, qint, Yc, Ya, qbin, Y8, Y7, if_true, if_false, ZA]; rfl) ?_) ?_
  refine Yf rfl (fun a0 => ?_) (fun a0 => ?_)
  ·
    simp only [decide_eq_true_eq] at a0
    refine Ye ?_
    refine seq_in (tri_block ?_)
    refine Yk ok0 rfl (by repeat first | with_reducible exact Y2 | refine Y1 (by simp only [Y5, Y4, Y6, qev, St.ev, St.put, St.with, D.cells, qint, Yc, Ya, qbin, qconv, C.st, C.cp, C.dat, putCells, Y8, Y7, Nat.reduceMul, if_true, if_false, decide_true, ne_eq, reduceCtorEq, Nat.reduceLeDiff, Nat.le_refl, bne_self_eq_false, hmd, hdg, ht0, hne, hz, hbn, Int.reduceEq, last_get, buildSliceA, partsA, fillA, reps, chop, tkApp, appendA, srcRows, srcOther, D.kill, D.no, C.no, killH, Root.kill, a0, show IntKind.u64.wrap (↑(n % 10) : Int) = _ from wrap_u64 _ (by omega) (by omega), show IntKind.u64.wrap (↑(dig (n % 10)).toNat : Int) = _ from wrap_u64 _ (by omega) (by omega), tk5, tk37, show IntKind.u8.wrap (↑(dig (n % 10)).toNat : Int) = _ from wrap_u8 _ (by omega) (by omega), tk35, tz5, tsz5, bo5, ZA]; rfl) ?_) ?_
    show Tri _ _ _ _
    refine Yk ok0 rfl (by repeat first | with_reducible exact Y2 | refine Y1 (by simp only [Y5, Y4, Y6, qev, St.ev, St.put, qint, Yc, Ya, qbin, Y8, Y7, if_true, if_false, hdv, Int.reduceEq, show IntKind.u64.wrap (↑(n / 10) : Int) = _ from wrap_u64 _ (by omega) (by omega), ZA]; rfl) ?_) ?_
    simp only []
    (obtain ⟨g, rfl⟩ := pow_pos' hpf (by omega); rw [decG_big (by omega)] at hk; exact ⟨n / 10, by omega, ⟨[.c (.v (.int .u64 (n / 10 : Nat))), .top, .c (.v (.string ⟨#[]⟩)), .c (.h 0 0 (acc ++ [dig (n % 10)]).length), .top, .top, .top, .top, .top, .top, .top, .top, .top, .top, .top, .top, .top, .top, .top, .top, .top, .top, .top, .top, .top, .top, .top, .top, .top, .top, .top, .top, .top, .top, .top, .top, .top, .top, .top, .top, .top, .top, .top, .top, .top, .top, .top, .top, .top], some ⟨true, 1, (acc ++ [dig (n % 10)]).map byteRow⟩ :: _⟩, ⟨(by rw [show (acc ++ [dig (n % 10)]).length = acc.length + 1 from by simp]; repeat (first | exact .nil | refine .same ?_ | refine .top ?_)), (by rw [show (acc ++ [dig (n % 10)]).length = acc.length + 1 from by simp, show (acc ++ [dig (n % 10)]).map byteRow = acc.map byteRow ++ [byteRow (dig (n % 10))] from List.map_append]; rfl)⟩, g, n / 10, acc ++ [dig (n % 10)], _, rfl, by omega, div_pow hpf, (by rw [List.length_append, List.length_singleton]; omega), (by rw [List.reverse_append, List.reverse_singleton, ← List.append_assoc]; exact hk), rfl⟩)
  ·
    simp only [decide_eq_false_iff_not] at a0
    refine tri_exit ?_
    show Tri _ _ _ _
    refine Y3 ok0 rfl (by repeat first | with_reducible exact Y2 | refine Y1 (by simp only [Y5, Y4, Y6, qev, St.ev, St.put, St.with, D.cells, qint, Yc, Ya, qbin, qconv, C.st, C.cp, C.dat, putCells, Y8, Y7, Nat.reduceMul, if_true, if_false, decide_false, ne_eq, reduceCtorEq, Nat.reduceLeDiff, Nat.le_refl, bne_self_eq_false, hdn, ht0, hne, hz, hbn, last_get, buildSliceA, partsA, fillA, reps, chop, tkApp, appendA, srcRows, srcOther, D.kill, D.no, C.no, killH, Root.kill, a0, show IntKind.u64.wrap (↑(dig n).toNat : Int) = _ from wrap_u64 _ (by omega) (by omega), tk5, tk37, show IntKind.u8.wrap (↑(dig n).toNat : Int) = _ from wrap_u8 _ (by omega) (by omega), tk35, tz5, tsz5, bo5, ZA]; rfl) ?_) ?_
    refine seq_in ?_
    refine Y3 ok0 rfl (by repeat first | with_reducible exact Y2 | refine Y1 (by simp only [Y5, Y4, Y6, qev, St.ev, St.put, qint, Yc, Ya, qbin, qlen, qbuiltin, liveR, Y8, Y7, if_true, if_false, hlma, tk35, show IntKind.i64.wrap ((↑(acc.length + 1) : Int) - 1) = _ from wrap_i64 _ (by omega) (by omega), ZA]; rfl) ?_) ?_
    refine tri_block ?_
    obtain ⟨L, hL⟩ : ∃ L, acc ++ [dig n] = L := ⟨_, rfl⟩
    have hLr : L.reverse = res := (by rw [← hL, ← hk, decG_small (by omega)]; simp)
    have hLl : L.length = acc.length + 1 := (by rw [← hL]; simp)
    have hLm : acc.map byteRow ++ [[.v (.int .u8 (dig n).toNat)]] = (swp L 0).map byteRow := (by rw [swp_0, ← hL, List.map_append]; rfl)
    rw [hLm]
    rw [← hLl]
    have hLk : ((L.length : Nat) : Int) - 1 = ((L.length - 1 : Nat) : Int) := (by omega)
    rw [hLk]
    refine tri_loop_le (fun m2 A => ∃ (i k : Nat) (T2 : List (Option Root)), m2 = k ∧ k + i + 1 = L.length ∧ A = ⟨[.top, .top, .c (.v (.string ⟨#[]⟩)), .c (.h 0 0 L.length), .c (.v (.int .i64 (i : Nat))), .c (.v (.int .i64 (k : Nat))), .top, .top, .top, .top, .top, .top, .top, .top, .top, .top, .top, .top, .top, .top, .top, .top, .top, .top, .top, .top, .top, .top, .top, .top, .top, .top, .top, .top, .top, .top, .top, .top, .top, .top, .top, .top, .top, .top, .top, .top, .top, .top, .top], some ⟨true, 1, (swp L (i)).map byteRow⟩ :: T2⟩) (L.length - 1) (B := ⟨[.top, .top, .c (.v (.string ⟨#[]⟩)), .c (.h 0 0 L.length), .c (.v (.int .i64 (0 : Nat))), .c (.v (.int .i64 (L.length - 1 : Nat))), .top, .top, .top, .top, .top, .top, .top, .top, .top, .top, .top, .top, .top, .top, .top, .top, .top, .top, .top, .top, .top, .top, .top, .top, .top, .top, .top, .top, .top, .top, .top, .top, .top, .top, .top, .top, .top, .top, .top, .top, .top, .top, .top], some ⟨true, 1, (swp L (0)).map byteRow⟩ :: _⟩) ⟨by repeat (first | exact .nil | refine .same ?_ | refine .top ?_), rfl⟩ ⟨0, L.length - 1, _, rfl, by omega, rfl⟩ ?_
    rintro m2 A ⟨i, k, T2, hm2, hki, rfl⟩
    have hq1 : (i : Int) + 1 = ((i + 1 : Nat) : Int) := by omega
    have hq2 := fun (h : ((i : Nat) : Int) < ((k : Nat) : Int)) => (show (k : Int) - 1 = ((k - 1 : Nat) : Int) by omega)
    have hgk := fun (h : ((i : Nat) : Int) < ((k : Nat) : Int)) => (show ((swp L i).map byteRow)[k]? = some [.v (.int .u8 (L.getD k 0).toNat)] by rw [List.getElem?_map, swp_get (by omega), if_neg (by omega)]; rfl)
    have hgi := fun (h : ((i : Nat) : Int) < ((k : Nat) : Int)) => (show ((swp L i).map byteRow)[i]? = some [.v (.int .u8 (L.getD i 0).toNat)] by rw [List.getElem?_map, swp_get (by omega), if_neg (by omega)]; rfl)
    have hgk2 := fun (h : ((i : Nat) : Int) < ((k : Nat) : Int)) => (show (((swp L i).set i (L.getD k 0)).map byteRow)[k]? = some [.v (.int .u8 (L.getD k 0).toNat)] by rw [List.getElem?_map, List.getElem?_set_ne (by omega), swp_get (by omega), if_neg (by omega)]; rfl)
    have hst := fun (h : ((i : Nat) : Int) < ((k : Nat) : Int)) => swp_set hki (show i < k by omega)
    have hend := fun (h : ¬ ((i : Nat) : Int) < ((k : Nat) : Int)) => (show swp L i = L.reverse from swp_end (by omega))
    have htk : (L.reverse.map byteRow).take L.length = L.reverse.map byteRow := List.take_of_length_le (by simp)
    have hba := byte_all L.reverse
    have hbs := byte_str L.reverse
    have hbl : (L.reverse.map byteRow).length ≤ maxStr := (by unfold maxStr; simp; omega)
    have hLm2 : L.length ≤ maxStr := (by unfold maxStr; omega)
    have hswl := swp_len L i
    refine seq_in ?_
    refine Y3 ok0 rfl (by repeat first | with_reducible exact Y2 | refine Y1 (by simp only [Y5, Y4, Y6, qev, St.ev, St.put, qint, Yc, Ya, qbin, if_true, if_false, ZA]; rfl) ?_) ?_
    refine Yf rfl (fun a1 => ?_) (fun a1 => ?_)
    ·
      simp only [decide_eq_true_eq] at a1
      refine Ye ?_
      refine seq_in (tri_block ?_)
      refine any_endE mixed ok0 rfl (by kernel_rfl) ?_
      refine ⟨_, (by repeat first | with_reducible exact Y2 | refine Y1 (by simp only [Y5, Y4, Y6, qev, St.ev, St.put, D.cells, D.int, qload, Y9, qmk, C.cpy, TK.agg, qindexAddr, C.st, C.cp, C.dat, storeA, putCells, if_true, if_false, decide_true, forall_const, ne_eq, reduceCtorEq, Nat.le_refl, Int.toNat_natCast, Int.natCast_nonneg, hgk, hgi, hgk2, hst, byte_set, tk5, tk35, tsz5, a1, show ((↑k : Int) < (↑L.length : Int)) = True from eq_true (by omega), show ((↑i : Int) < (↑L.length : Int)) = True from eq_true (by omega), ZA]; rfl) ?_), ?_⟩
      show Tri _ _ _ _
      refine Yk ok0 rfl (by repeat first | with_reducible exact Y2 | refine Y1 (by simp only [Y5, Y4, Y6, qev, St.ev, St.put, qint, Yc, Ya, qbin, Y8, Y7, if_true, if_false, hq1, hq2, a1, show IntKind.i64.wrap (↑(i + 1) : Int) = _ from wrap_i64 _ (by omega) (by omega), show IntKind.i64.wrap (↑(k - 1) : Int) = _ from wrap_i64 _ (by omega) (by omega), ZA]; rfl) ?_) ?_
      simp only []
      (exact ⟨k - 1, by omega, ⟨[.top, .top, .c (.v (.string ⟨#[]⟩)), .c (.h 0 0 L.length), .c (.v (.int .i64 (i + 1 : Nat))), .c (.v (.int .i64 (k - 1 : Nat))), .top, .top, .top, .top, .top, .top, .top, .top, .top, .top, .top, .top, .top, .top, .top, .top, .top, .top, .top, .top, .top, .top, .top, .top, .top, .top, .top, .top, .top, .top, .top, .top, .top, .top, .top, .top, .top, .top, .top, .top, .top, .top, .top], some ⟨true, 1, (swp L (i + 1)).map byteRow⟩ :: _⟩, ⟨by repeat (first | exact .nil | refine .same ?_ | refine .top ?_), rfl⟩, i + 1, k - 1, _, rfl, by omega, rfl⟩)
    ·
      simp only [decide_eq_false_iff_not] at a1
      refine tri_exit ?_
      show Tri _ _ _ _
      refine Y3 ok0 rfl (by repeat first | with_reducible exact Y2 | refine Y1 (by simp only [Y5, Y4, Y6, qev, St.ev, St.put, qconv, if_true, decide_false, List.length_map, hend, htk, hba, hbs, hLm2, bytesStr, rowsOf, List.length_reverse, tk5, tk35, a1, tk9, ZA]; rfl) ?_) ?_
      refine Yo (Yp (by simp only [outRes, Yi, resD, outD, outC, C.dat, if_true, ZA]; rfl) rfl (by simp) (by simp) ?_)
      (rw [hLr]; with_reducible exact hQ)
set_option maxHeartbeats 2000000 in
theorem meets50 : Meets Try.prog 50 (pureS pCountB) := by
  refine Yn (show Try.prog.funcs[50]? = some Try.f50 by kernel_rfl) rfl (n := 17) rfl (rs := [ResultVar.tmp 2]) rfl ?_
  intro n0 hn0 Q hQ
  have hc0 : ((0 : Nat) : Int) = 0 := rfl
  have hres : decG 20 n0 = decL n0 := rfl
  generalize hr : decL n0 = res at hres
  unfold decB at hQ
  rw [hr] at hQ
  have hp20 := lt_pow20 hn0
  clear hr
  refine Y3 ok0 rfl (by repeat first | with_reducible exact Y2 | refine Y1 (by simp only [Y5, Y4, Y6, qev, St.ev, St.put, Y8, Y7, List.replicate, Nat.reduceSub, ZA]; rfl) ?_) ?_
  refine Y3 ok0 rfl (by repeat first | with_reducible exact Y2 | refine Y1 (by simp only [Y5, Y4, Y6, qev, St.ev, St.put, Y8, Y7, ZA]; rfl) ?_) ?_
  refine tri_block ?_
  have hl1 : (1 : Nat) ≤ maxStr := (by decide)
  refine tri_loop_le (fun m A => ∃ (f n : Nat) (acc : List UInt8) (T : List (Option Root)), m = n ∧ n < 18446744073709551616 ∧ n < 10 ^ f ∧ acc.length + f = 20 ∧ decG f n ++ acc = res ∧ A = ⟨[.c (.v (.int .u64 (n : Nat))), .top, .c (.v (.string ⟨#[]⟩)), .c (.v (.string ⟨(acc).toArray⟩)), .top, .top, .top, .top, .top, .top, .top, .top, .top, .top, .top, .top, .top], T⟩) n0 (B := ⟨[.c (.v (.int .u64 (n0 : Nat))), .top, .c (.v (.string ⟨#[]⟩)), .c (.v (.string ⟨([]).toArray⟩)), .top, .top, .top, .top, .top, .top, .top, .top, .top, .top, .top, .top, .top], []⟩) ⟨by repeat (first | exact .nil | refine .same ?_ | refine .top ?_), rfl⟩ ⟨20, n0, [], [], rfl, hn0, hp20, rfl, by rw [List.append_nil]; exact hres, rfl⟩ ?_
  rintro m A ⟨f, n, acc, T, hm, hn, hpf, hacc, hk, rfl⟩
  have hmd : ((n : Nat) : Int).tmod 10 = ((n % 10 : Nat) : Int) := rfl
  have hdv : ((n : Nat) : Int).tdiv 10 = ((n / 10 : Nat) : Int) := rfl
  have hdg := dig_int (n := n % 10) (by omega)
  have hdl := (dig (n % 10)).toNat_lt
  have hbb : ∀ x : UInt8, UInt8.ofNat (x.toNat : Int).toNat = x := (by intro x; have := x.toNat_lt; simp)
  have hA1 : (⟨#[dig (n % 10)]⟩ : ByteArray).size + (⟨acc.toArray⟩ : ByteArray).size ≤ maxStr := (by show 1 + acc.toArray.size ≤ maxStr; unfold maxStr; simp; omega)
  have hap : (⟨#[dig (n % 10)]⟩ : ByteArray) ++ ⟨acc.toArray⟩ = ⟨(dig (n % 10) :: acc).toArray⟩ := (by apply ByteArray.ext; rw [ByteArray.data_append]; simp)
  refine tri_block ?_
  refine Y3 ok0 rfl (by repeat first | with_reducible exact Y2 | refine Y1 (by simp only [Y5, Y4, Y6, qev, St.ev, St.put, St.with, D.cells, qint, Yc, qstr, Ya, qbin, qconv, C.st, C.dat, putCells, Y8, Y7, Nat.reduceMul, if_true, if_false, ne_eq, reduceCtorEq, Nat.reduceLeDiff, Nat.le_refl, Int.toNat_natCast, hl1, hmd, hdg, hA1, hap, Int.reduceEq, last_get, buildSliceA, partsA, fillA, reps, chop, bytesStr, rowsOf, isByteRow, rowByte, UInt8.ofNat_toNat, show IntKind.u64.wrap (↑(n % 10) : Int) = _ from wrap_u64 _ (by omega) (by omega), show IntKind.u64.wrap (↑(dig (n % 10)).toNat : Int) = _ from wrap_u64 _ (by omega) (by omega), tk5, tk37, show IntKind.u8.wrap (↑(dig (n % 10)).toNat : Int) = _ from wrap_u8 _ (by omega) (by omega), tk35, tz5, tsz5, tk9, ZA]; rfl) ?_) ?_
  refine Y3 ok0 rfl (by repeat first | with_reducible exact Y2 | refine Y1 (by simp only [Y5, Y4, Y6, qev, St.ev, St.put, qint, Yc, Ya, qbin, Y8, Y7, if_true, if_false, hdv, Int.reduceEq, show IntKind.u64.wrap (↑(n / 10) : Int) = _ from wrap_u64 _ (by omega) (by omega), ZA]; rfl) ?_) ?_
  refine Y3 ok0 rfl (by repeat first | with_reducible exact Y2 | refine Y1 (by simp only [Y5, Y4, Y6, qev, St.ev, St.put, qint, Yc, Ya, qbin, Y8, Y7, if_true, if_false, ZA]; rfl) ?_) ?_
  refine Yf rfl (fun b0 => ?_) (fun b0 => ?_)
  ·
    simp only [decide_eq_true_eq] at b0
    refine Y3 ok0 rfl (by repeat first | with_reducible exact Y2 | refine Y1 (by simp only [Y5, Y4, Y6, qev, St.ev, St.put, decide_true, b0, ZA]; rfl) ?_) ?_
    refine Yo (Yp (by simp only [outRes, Yi, resD, outD, outC, C.dat, if_true, ZA]; rfl) rfl (by simp) (by simp) ?_)
    (rw [decG_small (by omega), show n = n % 10 by omega] at hk; rw [show dig (n % 10) :: acc = res from hk]; with_reducible exact hQ)
  ·
    simp only [decide_eq_false_iff_not] at b0
    refine tri_skip ?_
    (obtain ⟨g, rfl⟩ := pow_pos' hpf (by omega); rw [decG_big (by omega)] at hk; exact ⟨n / 10, by omega, ⟨[.c (.v (.int .u64 (n / 10 : Nat))), .top, .c (.v (.string ⟨#[]⟩)), .c (.v (.string ⟨(dig (n % 10) :: acc).toArray⟩)), .top, .top, .top, .top, .top, .top, .top, .top, .top, .top, .top, .top, .top], _⟩, ⟨by repeat (first | exact .nil | refine .same ?_ | refine .top ?_), rfl⟩, g, n / 10, dig (n % 10) :: acc, _, rfl, by omega, div_pow hpf, (by rw [List.length_cons]; omega), (by rw [List.append_assoc] at hk; exact hk), rfl⟩)
def wholeB (n : Int) : ByteArray := if n < 0 then dash ++ decB (-n).toNat else decB n.toNat
theorem decB_size (n : Nat) : (decB n).size ≤ 21 := by
  have := decG_len 20 n
  show (decL n).toArray.size ≤ 21
  rw [List.size_toArray]; exact this
noncomputable def FsW1 : Fs := { Fs.none with pure := fun k => if k = 61 then some pCountB else if k = 50 then some pCountB else none }
theorem okW1 : FsOK Try.prog FsW1 := by
  refine ⟨fun k f h => ?_, fun _ _ h => (by cases h)⟩
  simp only [FsW1] at h
  split at h
  · rename_i hk; subst hk; cases h; exact ⟨by kernel_rfl, meets61⟩
  split at h
  · rename_i hk; subst hk; cases h; exact ⟨by kernel_rfl, meets50⟩
  · cases h
noncomputable def pWhole : List D → Option D := famP (fun n : Int => inR .i64 n = true) (fun n => [.c (.v (.int .i64 n))]) (fun n => .c (.v (.string (wholeB n))))
theorem whole_at (n : Int) (h : inR .i64 n = true) : pWhole [.c (.v (.int .i64 n))] = some (.c (.v (.string (wholeB n)))) := Ym (fun a b h => by
  simp only [List.cons.injEq, D.c.injEq, C.v.injEq, Value.int.injEq, and_true, true_and] at h
  subst h; rfl) n h rfl
theorem i64_rng {n : Int} (h : inR .i64 n = true) : -9223372036854775808 ≤ n ∧ n ≤ 9223372036854775807 := by
  simp only [inR, Bool.and_eq_true, decide_eq_true_eq] at h
  exact h
theorem meets37 : Meets Try.prog 37 (pureS pWhole) := by
  refine Yn (show Try.prog.funcs[37]? = some Try.f37 by kernel_rfl) rfl (n := 13) rfl (rs := [ResultVar.tmp 2]) rfl ?_
  intro n hn0 Q hQ
  obtain ⟨h1, h2⟩ := i64_rng hn0
  unfold wholeB at hQ
  by_cases hneg : n < 0
  · obtain ⟨k, hk, hk0⟩ : ∃ k : Nat, n = -(k : Int) ∧ 0 < k := ⟨(-n).toNat, by omega, by omega⟩
    subst hk
    rw [if_pos hneg, show (- -(k : Int)).toNat = k from by omega] at hQ
    have hC := countB_at k (by omega)
    have hw : IntKind.u64.wrap (-(k : Int)) = 18446744073709551616 - (k : Int) := by
      unfold IntKind.wrap
      simp [IntKind.bits, IntKind.signed]
      omega
    have hw2 : IntKind.u64.wrap (0 - (18446744073709551616 - (k : Int))) = (k : Int) := by
      unfold IntKind.wrap
      simp [IntKind.bits, IntKind.signed]
      omega
    have hA : (⟨#[45]⟩ : ByteArray).size + (decB k).size ≤ maxStr := by have := decB_size k; show 1 + (decB k).size ≤ maxStr; unfold maxStr; omega
    have hng : 0 - (-(k : Int) + 1) = ((k - 1 : Nat) : Int) := by omega
    have hng2 : ((k - 1 : Nat) : Int) + 1 = (k : Int) := by omega
    refine Y3 okW1 rfl (by repeat first | with_reducible exact Y2 | refine Y1 (by simp only [Y5, Y4, Y6, qev, St.ev, St.put, Y8, Y7, List.replicate, Nat.reduceSub, ZA]; rfl) ?_) ?_
    refine seq_in ?_
    refine Y3 okW1 rfl (by repeat first | with_reducible exact Y2 | refine Y1 (by simp only [Y5, Y4, Y6, qev, St.ev, St.put, qint, Yc, Ya, qbin, Y8, Y7, if_true, if_false, ZA]; rfl) ?_) ?_
    refine Yf rfl (fun a0 => ?_) (fun a0 => ?_)
    ·
      simp only [decide_eq_true_eq] at a0
      refine Y3 okW1 rfl (by repeat first | with_reducible exact Y2 | refine Y1 (by simp only [Y5, Y4, Y6, evsA, qev, St.ev, St.put, St.with, C.cpy, qstr, qbin, qun, qconv, C.cp, C.dat, Y8, Y7, Nat.reduceEqDiff, if_true, if_false, decide_true, Bool.or_true, callP, Fs.none, Yg, argD, argC, D.ni, D.ni1, C.ni, settle, settle1, settleC, FsW1, hC, hw, hw2, hA, a0, tk37, tk2, ZA]; rfl) ?_) ?_
      refine Yo (Yp (by simp only [outRes, Yi, resD, outD, outC, C.dat, if_true, ZA]; rfl) rfl (by simp) (by simp) ?_)
      (simp only [dash] at hQ; with_reducible exact hQ)
    ·
      simp only [decide_eq_false_iff_not] at a0
      (exfalso; omega)
  · obtain ⟨k, hk⟩ : ∃ k : Nat, n = (k : Int) := ⟨n.toNat, by omega⟩
    subst hk
    rw [if_neg hneg, Int.toNat_natCast] at hQ
    have hC := countB_at k (by omega)
    refine Y3 okW1 rfl (by repeat first | with_reducible exact Y2 | refine Y1 (by simp only [Y5, Y4, Y6, qev, St.ev, St.put, Y8, Y7, List.replicate, Nat.reduceSub, ZA]; rfl) ?_) ?_
    refine seq_in ?_
    refine Y3 okW1 rfl (by repeat first | with_reducible exact Y2 | refine Y1 (by simp only [Y5, Y4, Y6, qev, St.ev, St.put, qint, Yc, Ya, qbin, Y8, Y7, if_true, if_false, ZA]; rfl) ?_) ?_
    refine Yf (b := false) rfl (fun h => by cases h) (fun _ => ?_)
    refine Ye ?_
    refine Y3 okW1 rfl (by repeat first | with_reducible exact Y2 | refine Y1 (by simp only [Y5, Y4, Y6, evsA, qev, St.ev, St.put, St.with, C.cpy, qconv, C.cp, C.dat, Nat.reduceEqDiff, if_true, if_false, Bool.or_true, callP, Fs.none, Yg, argD, argC, D.ni, D.ni1, C.ni, settle, settle1, settleC, FsW1, hC, tk37, tk2, show IntKind.u64.wrap (↑k : Int) = _ from wrap_u64 _ (by omega) (by omega), ZA]; rfl) ?_) ?_
    refine Yo (Yp (by simp only [outRes, Yi, resD, outD, outC, C.dat, if_true, ZA]; rfl) rfl (by simp) (by simp) ?_)
    with_reducible exact hQ
theorem meets38 : Meets Try.prog 38 (pureS pWhole) := by
  refine Yn (show Try.prog.funcs[38]? = some Try.f38 by kernel_rfl) rfl (n := 15) rfl (rs := [ResultVar.tmp 2]) rfl ?_
  intro n hn0 Q hQ
  obtain ⟨h1, h2⟩ := i64_rng hn0
  unfold wholeB at hQ
  by_cases hneg : n < 0
  · obtain ⟨k, hk, hk0⟩ : ∃ k : Nat, n = -(k : Int) ∧ 0 < k := ⟨(-n).toNat, by omega, by omega⟩
    subst hk
    rw [if_pos hneg, show (- -(k : Int)).toNat = k from by omega] at hQ
    have hC := countB_at k (by omega)
    have hw : IntKind.u64.wrap (-(k : Int)) = 18446744073709551616 - (k : Int) := by
      unfold IntKind.wrap
      simp [IntKind.bits, IntKind.signed]
      omega
    have hw2 : IntKind.u64.wrap (0 - (18446744073709551616 - (k : Int))) = (k : Int) := by
      unfold IntKind.wrap
      simp [IntKind.bits, IntKind.signed]
      omega
    have hA : (⟨#[45]⟩ : ByteArray).size + (decB k).size ≤ maxStr := by have := decB_size k; show 1 + (decB k).size ≤ maxStr; unfold maxStr; omega
    have hng : 0 - (-(k : Int) + 1) = ((k - 1 : Nat) : Int) := by omega
    have hng2 : ((k - 1 : Nat) : Int) + 1 = (k : Int) := by omega
    refine Y3 okW1 rfl (by repeat first | with_reducible exact Y2 | refine Y1 (by simp only [Y5, Y4, Y6, qev, St.ev, St.put, Y8, Y7, List.replicate, Nat.reduceSub, ZA]; rfl) ?_) ?_
    refine seq_in ?_
    refine Y3 okW1 rfl (by repeat first | with_reducible exact Y2 | refine Y1 (by simp only [Y5, Y4, Y6, qev, St.ev, St.put, qint, Yc, Ya, qbin, Y8, Y7, if_true, if_false, ZA]; rfl) ?_) ?_
    refine Yf rfl (fun a0 => ?_) (fun a0 => ?_)
    ·
      simp only [decide_eq_true_eq] at a0
      (exfalso; omega)
    ·
      simp only [decide_eq_false_iff_not] at a0
      refine Ye ?_
      refine Y3 okW1 rfl (by repeat first | with_reducible exact Y2 | refine Y1 (by simp only [Y5, Y4, Y6, evsA, qev, St.ev, St.put, St.with, C.cpy, qint, Yc, qstr, Ya, qbin, qun, qconv, C.cp, C.dat, Y8, Y7, Nat.reduceEqDiff, if_true, if_false, decide_false, Bool.or_true, callP, Fs.none, Yg, argD, argC, D.ni, D.ni1, C.ni, settle, settle1, settleC, FsW1, hC, hA, hng, hng2, a0, show IntKind.i64.wrap (-(↑k : Int) + 1) = _ from wrap_i64 _ (by omega) (by omega), show IntKind.i64.wrap (↑(k - 1) : Int) = _ from wrap_i64 _ (by omega) (by omega), tk37, tk2, show IntKind.u64.wrap (↑(k - 1) : Int) = _ from wrap_u64 _ (by omega) (by omega), show IntKind.u64.wrap (↑k : Int) = _ from wrap_u64 _ (by omega) (by omega), ZA]; rfl) ?_) ?_
      refine Yo (Yp (by simp only [outRes, Yi, resD, outD, outC, C.dat, if_true, ZA]; rfl) rfl (by simp) (by simp) ?_)
      (simp only [dash] at hQ; with_reducible exact hQ)
  · obtain ⟨k, hk⟩ : ∃ k : Nat, n = (k : Int) := ⟨n.toNat, by omega⟩
    subst hk
    rw [if_neg hneg, Int.toNat_natCast] at hQ
    have hC := countB_at k (by omega)
    refine Y3 okW1 rfl (by repeat first | with_reducible exact Y2 | refine Y1 (by simp only [Y5, Y4, Y6, qev, St.ev, St.put, Y8, Y7, List.replicate, Nat.reduceSub, ZA]; rfl) ?_) ?_
    refine seq_in ?_
    refine Y3 okW1 rfl (by repeat first | with_reducible exact Y2 | refine Y1 (by simp only [Y5, Y4, Y6, qev, St.ev, St.put, qint, Yc, Ya, qbin, Y8, Y7, if_true, if_false, ZA]; rfl) ?_) ?_
    refine Yf (b := true) rfl (fun _ => ?_) (fun h => by cases h)
    refine Y3 okW1 rfl (by repeat first | with_reducible exact Y2 | refine Y1 (by simp only [Y5, Y4, Y6, evsA, qev, St.ev, St.put, St.with, C.cpy, qconv, C.cp, C.dat, Nat.reduceEqDiff, if_true, if_false, Bool.or_true, callP, Fs.none, Yg, argD, argC, D.ni, D.ni1, C.ni, settle, settle1, settleC, FsW1, hC, tk37, tk2, show IntKind.u64.wrap (↑k : Int) = _ from wrap_u64 _ (by omega) (by omega), ZA]; rfl) ?_) ?_
    refine Yo (Yp (by simp only [outRes, Yi, resD, outD, outC, C.dat, if_true, ZA]; rfl) rfl (by simp) (by simp) ?_)
    with_reducible exact hQ
end Go.Dl

namespace Go.Dl
open Go.RowKit
open Go.Proofs
set_option linter.unusedSimpArgs false
set_option linter.unusedVariables false
/-- Bits as signs. -/
def hexN : Nat → Nat → List UInt8
  | 0, _ => []
  | k + 1, b => hexN k (b / 16) ++ [hexD (b % 16)]
theorem hexN_len : ∀ (k b : Nat), (hexN k b).length = k
  | 0, b => rfl
  | k + 1, b => by unfold hexN; rw [List.length_append, List.length_singleton, hexN_len k]
def hexB (b : Nat) : ByteArray := ⟨(hexN 16 b).toArray⟩
def floatP : ByteArray := ⟨#[102, 108, 111, 97, 116, 40]⟩
def noneW : ByteArray := ⟨#[110, 111, 110, 101]⟩
/-- A value as a script says it. -/
def valueB (v : Val) : ByteArray :=
  if v.1 = 0 then nullW else if v.1 = 1 then (if v.2.1 = true then trueW else falseW) else if v.1 = 2 then wholeB v.2.2.1
  else if v.1 = 3 then floatP ++ quotedF (hexB v.2.2.2.1.toNat) ++ rpar else if v.1 = 4 then quotedF v.2.2.2.2 else noneW
def valPre (v : Val) : Prop := inR .i64 v.2.2.1 = true ∧ inR .u64 v.2.2.2.1 = true ∧ v.2.2.2.2.size ≤ 100000
theorem u64_rng {n : Int} (h : inR .u64 n = true) : 0 ≤ n ∧ n ≤ 18446744073709551615 := by
  simp only [inR, Bool.and_eq_true, decide_eq_true_eq] at h
  exact h
theorem valC_inj {x y : Val} (h : valC x = valC y) : x = y := by
  obtain ⟨a, b, c, d, f⟩ := x
  obtain ⟨a', b', c', d', f'⟩ := y
  simp only [valC, List.cons.injEq, C.v.injEq, Value.int.injEq, Value.string.injEq, Value.bool.injEq, true_and, and_true] at h
  obtain ⟨rfl, rfl, rfl, rfl, rfl⟩ := h; rfl
theorem shr_nib {b j : Nat} (hb : b < 18446744073709551616) (hj : j < 16) : IntKind.u64.wrap (((b : Nat) : Int).fdiv (2 ^ min ((60 : Int) - 4 * (j : Int)).toNat IntKind.u64.bits)) = ((b / 16 ^ (15 - j) : Nat) : Int) := by
  have h1 : ((60 : Int) - 4 * (j : Int)).toNat = 4 * (15 - j) := by omega
  have h2 : min (4 * (15 - j)) IntKind.u64.bits = 4 * (15 - j) := by show min (4 * (15 - j)) 64 = _; omega
  rw [h1, h2]
  have h3 : (2 : Int) ^ (4 * (15 - j)) = ((16 ^ (15 - j) : Nat) : Int) := by
    rw [show (16 : Nat) = 2 ^ 4 from rfl, ← Nat.pow_mul]
    rw [Int.natCast_pow]; rfl
  rw [h3]
  have h4 : ((b : Nat) : Int).fdiv ((16 ^ (15 - j) : Nat) : Int) = ((b / 16 ^ (15 - j) : Nat) : Int) := by
    rw [Int.fdiv_eq_ediv_of_nonneg _ (Int.natCast_nonneg _)]
    exact (Int.natCast_ediv _ _).symm
  rw [h4]
  have h5 : b / 16 ^ (15 - j) ≤ b := Nat.div_le_self _ _
  generalize b / 16 ^ (15 - j) = q at h5 ⊢
  exact wrap_u64 _ (by omega) (by omega)
theorem and_nib {x : Nat} (hx : x < 18446744073709551616) : IntKind.u64.wrap ((BitVec.ofInt IntKind.u64.bits ((x : Nat) : Int) &&& BitVec.ofInt IntKind.u64.bits 15).toNat) = ((x % 16 : Nat) : Int) := by
  have h : (BitVec.ofInt IntKind.u64.bits ((x : Nat) : Int) &&& BitVec.ofInt IntKind.u64.bits 15).toNat = x % 16 := by
    rw [BitVec.toNat_and, BitVec.toNat_ofInt, BitVec.toNat_ofInt]
    have h1 : (((x : Nat) : Int) % ((2 ^ IntKind.u64.bits : Nat) : Int)).toNat = x := by
      show (((x : Nat) : Int) % ((2 ^ 64 : Nat) : Int)).toNat = x
      omega
    have h2 : ((15 : Int) % ((2 ^ IntKind.u64.bits : Nat) : Int)).toNat = 2 ^ 4 - 1 := by decide
    rw [h1, h2, Nat.and_two_pow_sub_one_eq_mod]
  rw [h]
  exact wrap_u64 _ (by omega) (by omega)
theorem hexN_step {b j : Nat} (hj : j < 16) : hexN j (b / 16 ^ (16 - j)) ++ [hexD (b / 16 ^ (15 - j) % 16)] = hexN (j + 1) (b / 16 ^ (16 - (j + 1))) := by
  rw [hexN, show 16 - (j + 1) = 15 - j by omega, Nat.div_div_eq_div_mul, show 16 - j = (15 - j) + 1 by omega, Nat.pow_succ]
noncomputable def FsWb : Fs := { Fs.none with pure := fun k => if k = 37 then some pWhole else if k = 38 then some pWhole else if k = 14 then some pQuoted else if k = 15 then some pQuoted else none }
theorem okWb : FsOK Try.prog FsWb := by
  refine ⟨fun k f h => ?_, fun _ _ h => (by cases h)⟩
  simp only [FsWb] at h
  split at h
  · rename_i hk; subst hk; cases h; exact ⟨by kernel_rfl, meets37⟩
  split at h
  · rename_i hk; subst hk; cases h; exact ⟨by kernel_rfl, meets38⟩
  split at h
  · rename_i hk; subst hk; cases h; exact ⟨by kernel_rfl, meets14⟩
  split at h
  · rename_i hk; subst hk; cases h; exact ⟨by kernel_rfl, meets15⟩
  · cases h
noncomputable def pValueB : List D → Option D := famP valPre (fun v => [.agg (valC v)]) (fun v => .c (.v (.string (valueB v))))
theorem valueB_at (v : Val) (h : valPre v) : pValueB [.agg (valC v)] = some (.c (.v (.string (valueB v)))) := Ym (fun a b h => by
  simp only [List.cons.injEq, D.agg.injEq, and_true] at h
  rw [valC_inj h]) v h rfl
theorem quotedB_le (s : ByteArray) (h : s.size ≤ 100000) : (quotedF s).size ≤ 400002 := by
  have h2 := qAcc_len s s.size
  show ((qAcc s s.size ++ [34]).toArray).size ≤ _
  rw [List.size_toArray, List.length_append, List.length_singleton]; omega
set_option maxHeartbeats 2000000 in
theorem meets16 : Meets Try.prog 16 (pureS pValueB) := by
  refine Yn (show Try.prog.funcs[16]? = some Try.f16 by kernel_rfl) rfl (n := 43) rfl (rs := [ResultVar.tmp 2]) rfl ?_
  rintro ⟨k, fl, n, bi, tx⟩ ⟨h1, h2, h3⟩ Q hQ
  dsimp only at h1 h2 h3
  unfold valueB at hQ
  dsimp only at hQ
  simp only [valC]
  have hW := whole_at n h1
  obtain ⟨hb1, hb2⟩ := u64_rng h2
  obtain ⟨b, rfl⟩ : ∃ b : Nat, bi = (b : Int) := ⟨bi.toNat, by omega⟩
  rw [Int.toNat_natCast] at hQ
  have hbl : b < 18446744073709551616 := by omega
  have hx16 : (hexB b).size = 16 := by show ((hexN 16 b).toArray).size = 16; rw [List.size_toArray, hexN_len]
  have hQd := quoted_at tx (by omega)
  have hQh := quoted_at (hexB b) (by omega)
  have hqs := quotedB_le (hexB b) (by omega)
  have hA1 : (⟨#[102, 108, 111, 97, 116, 40]⟩ : ByteArray).size + (quotedF (hexB b)).size ≤ maxStr := by show 6 + _ ≤ maxStr; unfold maxStr; omega
  have hA2 : (⟨#[102, 108, 111, 97, 116, 40]⟩ ++ quotedF (hexB b) : ByteArray).size + (⟨#[41]⟩ : ByteArray).size ≤ maxStr := by rw [ByteArray.size_append]; show 6 + (quotedF (hexB b)).size + 1 ≤ maxStr; unfold maxStr; omega
  have hc0 : ((0 : Nat) : Int) = 0 := rfl
  refine Y3 okWb rfl (by repeat first | with_reducible exact Y2 | refine Y1 (by simp only [Y5, Y4, Y6, qev, St.ev, St.put, St.with, D.cells, boxA, C.st, Y8, Y7, List.replicate, Nat.reduceAdd, Nat.reduceSub, if_true, ZA]; rfl) ?_) ?_
  refine seq_in ?_
  refine Y3 okWb rfl (by repeat first | with_reducible exact Y2 | refine Y1 (by simp only [Y5, Y4, Y6, qev, St.ev, St.put, qload, Y9, qmk, C.cpy, TK.agg, Yb, liveR, C.cp, if_true, if_false, reduceCtorEq, Nat.add_zero, tk39, tsz3, tk3, ZA]; rfl) ?_) ?_
  refine tri_block ?_
  refine Y3 okWb rfl (by repeat first | with_reducible exact Y2 | refine Y1 (by simp only [Y5, Y4, Y6, qev, St.ev, St.put, qint, Yc, Ya, qbin, Y8, Y7, if_true, if_false, ZA]; rfl) ?_) ?_
  refine Yf rfl (fun a0 => ?_) (fun a0 => ?_)
  ·
    simp only [decide_eq_true_eq] at a0
    refine Y3 okWb rfl (by repeat first | with_reducible exact Y2 | refine Y1 (by simp only [Y5, Y4, Y6, qev, St.ev, St.put, Y8, Y7, decide_true, a0, ZA]; rfl) ?_) ?_
    refine Yo (Yp (by simp only [outRes, Yi, resD, outD, outC, C.dat, if_true, ZA]; rfl) rfl (by simp) (by simp) ?_)
    (simp only [reduceIte, ↓reduceIte, nullW, a0] at hQ; with_reducible exact hQ)
  ·
    simp only [decide_eq_false_iff_not] at a0
    refine Y3 okWb rfl (by repeat first | with_reducible exact Y2 | refine Y1 (by simp only [Y5, Y4, Y6, qev, St.ev, St.put, qint, Yc, Ya, qbin, Y8, Y7, if_true, if_false, decide_false, a0, ZA]; rfl) ?_) ?_
    refine Yf rfl (fun a1 => ?_) (fun a1 => ?_)
    ·
      simp only [decide_eq_true_eq] at a1
      refine seq_in ?_
      refine Y3 okWb rfl (by repeat first | with_reducible exact Y2 | refine Y1 (by simp only [Y5, Y4, Y6, qev, St.ev, St.put, qload, Y9, qmk, C.cpy, TK.agg, Yb, liveR, C.cp, if_true, if_false, decide_true, reduceCtorEq, tk39, a1, tsz4, tk4, ZA]; rfl) ?_) ?_
      refine Yf rfl (fun a2 => ?_) (fun a2 => ?_)
      ·
        refine Y3 okWb rfl (by repeat first | with_reducible exact Y2 | refine Y1 (by simp only [Y5, Y4, Y6, qev, St.ev, St.put, Y8, Y7, a2, ZA]; rfl) ?_) ?_
        refine Yo (Yp (by simp only [outRes, Yi, resD, outD, outC, C.dat, if_true, ZA]; rfl) rfl (by simp) (by simp) ?_)
        (simp only [reduceIte, ↓reduceIte, Int.reduceEq, trueW, a1, a2] at hQ; with_reducible exact hQ)
      ·
        refine Ye ?_
        refine Y3 okWb rfl (by repeat first | with_reducible exact Y2 | refine Y1 (by simp only [Y5, Y4, Y6, qev, St.ev, St.put, Y8, Y7, a2, ZA]; rfl) ?_) ?_
        refine Yo (Yp (by simp only [outRes, Yi, resD, outD, outC, C.dat, if_true, ZA]; rfl) rfl (by simp) (by simp) ?_)
        (simp only [reduceIte, Z7, ↓reduceIte, Int.reduceEq, falseW, a1, a2] at hQ; with_reducible exact hQ)
    ·
      simp only [decide_eq_false_iff_not] at a1
      refine Y3 okWb rfl (by repeat first | with_reducible exact Y2 | refine Y1 (by simp only [Y5, Y4, Y6, qev, St.ev, St.put, qint, Yc, Ya, qbin, Y8, Y7, if_true, if_false, decide_false, a1, ZA]; rfl) ?_) ?_
      refine Yf rfl (fun a3 => ?_) (fun a3 => ?_)
      ·
        simp only [decide_eq_true_eq] at a3
        refine Y3 okWb rfl (by repeat first | with_reducible exact Y2 | refine Y1 (by simp only [Y5, Y4, Y6, evsA, qev, St.ev, St.put, St.with, qload, Y9, qmk, C.cpy, TK.agg, Yb, liveR, C.cp, C.dat, Nat.reduceEqDiff, if_true, if_false, decide_true, reduceCtorEq, Bool.true_or, callP, Fs.none, Yg, argD, argC, settle, settle1, settleC, FsWb, hW, tk39, a3, tsz2, tk2, ZA]; rfl) ?_) ?_
        refine Yo (Yp (by simp only [outRes, Yi, resD, outD, outC, C.dat, if_true, ZA]; rfl) rfl (by simp) (by simp) ?_)
        (simp only [reduceIte, ↓reduceIte, Int.reduceEq, a3] at hQ; with_reducible exact hQ)
      ·
        simp only [decide_eq_false_iff_not] at a3
        refine Y3 okWb rfl (by repeat first | with_reducible exact Y2 | refine Y1 (by simp only [Y5, Y4, Y6, qev, St.ev, St.put, qint, Yc, Ya, qbin, Y8, Y7, if_true, if_false, decide_false, a3, ZA]; rfl) ?_) ?_
        refine Yf rfl (fun a4 => ?_) (fun a4 => ?_)
        ·
          simp only [decide_eq_true_eq] at a4
          refine Y3 okWb rfl (by repeat first | with_reducible exact Y2 | refine Y1 (by simp only [Y5, Y4, Y6, qev, St.ev, St.put, Y8, Y7, decide_true, a4, ZA]; rfl) ?_) ?_
          refine seq_in ?_
          refine Y3 okWb rfl (by repeat first | with_reducible exact Y2 | refine Y1 (by simp only [Y5, Y4, Y6, qev, St.ev, St.put, Y8, Y7, ZA]; rfl) ?_) ?_
          refine tri_block ?_
          refine tri_nil 3 1 rfl ?_
          show Tri _ _ _ _
          refine tri_loop_le (fun m A => ∃ (j : Nat) (T : List (Option Root)), m = 16 - j ∧ j ≤ 16 ∧ A = ⟨[.top, .c (.p 0 0 0), .c (.v (.string ⟨#[]⟩)), .c (.h 1 0 j), .c (.v (.int .i64 (60 - 4 * (j : Nat)))), .top, .top, .top, .top, .top, .top, .top, .top, .top, .top, .top, .top, .top, .top, .top, .top, .top, .top, .top, .top, .top, .top, .top, .top, .top, .top, .top, .top, .top, .top, .top, .top, .top, .top, .top, .top, .top, .top], some ⟨false, 5, [[.v (.int .i64 3), .v (.bool fl), .v (.int .i64 n), .v (.int .u64 (b : Nat)), .v (.string tx)]]⟩ :: some ⟨true, 1, (hexN j (b / 16 ^ (16 - j))).map byteRow⟩ :: T⟩) 16 (B := ⟨[.top, .c (.p 0 0 0), .c (.v (.string ⟨#[]⟩)), .c (.h 1 0 0), .c (.v (.int .i64 (60 - 4 * (0 : Nat)))), .top, .top, .top, .top, .top, .top, .top, .top, .top, .top, .top, .top, .top, .top, .top, .top, .top, .top, .top, .top, .top, .top, .top, .top, .top, .top, .top, .top, .top, .top, .top, .top, .top, .top, .top, .top, .top, .top], some ⟨false, 5, [[.v (.int .i64 3), .v (.bool fl), .v (.int .i64 n), .v (.int .u64 (b : Nat)), .v (.string tx)]]⟩ :: some ⟨true, 1, []⟩ :: []⟩) ⟨by repeat (first | exact .nil | refine .same ?_ | refine .top ?_), rfl⟩ ⟨0, [], rfl, by omega, rfl⟩ ?_
          rintro m A ⟨j, T, hm, hj, rfl⟩
          obtain ⟨ac, hac⟩ : ∃ ac, (hexN j (b / 16 ^ (16 - j))) = ac := ⟨_, rfl⟩
          rw [hac]
          have hacl : ac.length = j := (by rw [← hac, hexN_len])
          have hsh := fun (h : (0 : Int) ≤ 60 - 4 * ((j : Nat) : Int)) => shr_nib (b := b) (j := j) hbl (by omega)
          have han : IntKind.u64.wrap ((BitVec.ofInt IntKind.u64.bits ((b / 16 ^ (15 - j) : Nat) : Int) &&& BitVec.ofInt IntKind.u64.bits 15).toNat) = ((b / 16 ^ (15 - j) % 16 : Nat) : Int) := and_nib (Nat.lt_of_le_of_lt (Nat.div_le_self _ _) hbl)
          have hnn := fun (h : (0 : Int) ≤ 60 - 4 * ((j : Nat) : Int)) => (show ¬ (60 - 4 * ((j : Nat) : Int) < 0) by omega)
          have hz16 : (⟨#[48, 49, 50, 51, 52, 53, 54, 55, 56, 57, 97, 98, 99, 100, 101, 102]⟩ : ByteArray).size = 16 := rfl
          have hl1 : ((b / 16 ^ (15 - j) % 16 : Nat) : Int) < ((16 : Nat) : Int) := (by omega)
          have hg1 : ∀ n : Nat, ([48, 49, 50, 51, 52, 53, 54, 55, 56, 57, 97, 98, 99, 100, 101, 102] : List UInt8).getD n 0 = hexD n := fun _ => rfl
          have hg2 : ∀ n : Nat, (⟨#[48, 49, 50, 51, 52, 53, 54, 55, 56, 57, 97, 98, 99, 100, 101, 102]⟩ : ByteArray).data.toList.getD n 0 = hexD n := fun _ => rfl
          have hq4 : (60 : Int) - 4 * ((j : Nat) : Int) - 4 = 60 - 4 * ((j + 1 : Nat) : Int) := (by omega)
          have ht0 : (ac.map byteRow).take j = ac.map byteRow := List.take_of_length_le (by rw [List.length_map]; omega)
          have hne : ∀ k : Nat, (k + 1 + 1 != 1) = true := (by intro k; simp)
          have hz : (j + 1) * 1 ≤ 140737488355328 := (by omega)
          have hbn := byte_nb ac
          have hba := byte_all ac
          have hbs := byte_str ac
          have hblm : (ac.map byteRow).length ≤ maxStr := (by unfold maxStr; rw [List.length_map]; omega)
          have hxB := fun (h : ¬ (0 : Int) ≤ 60 - 4 * ((j : Nat) : Int)) => (show (⟨ac.toArray⟩ : ByteArray) = hexB b by rw [← hac, show j = 16 by omega]; show (⟨(hexN 16 (b / 16 ^ 0)).toArray⟩ : ByteArray) = _; rw [Nat.pow_zero, Nat.div_one]; rfl)
          refine seq_in ?_
          refine Y3 okWb rfl (by repeat first | with_reducible exact Y2 | refine Y1 (by simp only [Y5, Y4, Y6, qev, St.ev, St.put, qint, Yc, Ya, qbin, Y8, Y7, if_true, if_false, ZA]; rfl) ?_) ?_
          refine Yf rfl (fun a5 => ?_) (fun a5 => ?_)
          ·
            simp only [decide_eq_true_eq] at a5
            refine Ye ?_
            refine seq_in (tri_block ?_)
            refine Yk okWb rfl (by repeat first | with_reducible exact Y2 | refine Y1 (by simp only [Y5, Y4, Y6, qev, St.ev, St.put, St.with, D.cells, D.int, qload, Y9, qmk, C.cpy, TK.agg, Yb, qindex, qint, Yc, Ya, qbin, liveR, C.st, C.cp, C.dat, putCells, Y8, Y7, Nat.reduceMul, if_true, if_false, decide_true, ne_eq, reduceCtorEq, Nat.reduceLeDiff, Nat.le_refl, Nat.reduceBNe, bne_self_eq_false, Int.toNat_natCast, Int.natCast_nonneg, tk39, hsh, han, hnn, hz16, hl1, hg1, ht0, hne, hz, hbn, last_get, buildSliceA, partsA, fillA, reps, chop, tkApp, appendA, srcRows, srcOther, D.kill, D.no, C.no, C.kill, killH, Root.kill, a5, tsz37, tk37, tk9, tk35, tz5, tsz5, bo5, ZA]; rfl) ?_) ?_
            show Tri _ _ _ _
            refine Yk okWb rfl (by repeat first | with_reducible exact Y2 | refine Y1 (by simp only [Y5, Y4, Y6, qev, St.ev, St.put, qint, Yc, Ya, qbin, Y8, Y7, if_true, if_false, hq4, show IntKind.i64.wrap (60 - 4 * (↑(j + 1) : Int)) = _ from wrap_i64 _ (by omega) (by omega), ZA]; rfl) ?_) ?_
            simp only []
            (exact ⟨16 - (j + 1), by omega, ⟨[.top, .c (.p 0 0 0), .c (.v (.string ⟨#[]⟩)), .c (.h 1 0 (j + 1)), .c (.v (.int .i64 (60 - 4 * (j + 1 : Nat)))), .top, .top, .top, .top, .top, .top, .top, .top, .top, .top, .top, .top, .top, .top, .top, .top, .top, .top, .top, .top, .top, .top, .top, .top, .top, .top, .top, .top, .top, .top, .top, .top, .top, .top, .top, .top, .top, .top], some ⟨false, 5, [[.v (.int .i64 3), .v (.bool fl), .v (.int .i64 n), .v (.int .u64 (b : Nat)), .v (.string tx)]]⟩ :: some ⟨true, 1, (hexN (j + 1) (b / 16 ^ (16 - (j + 1)))).map byteRow⟩ :: _⟩, ⟨by repeat (first | exact .nil | refine .same ?_ | refine .top ?_), (by rw [show (hexN (j + 1) (b / 16 ^ (16 - (j + 1)))).map byteRow = ac.map byteRow ++ [byteRow (hexD (b / 16 ^ (15 - j) % 16))] from by rw [← hexN_step (by omega), hac, List.map_append]; rfl]; rfl)⟩, j + 1, _, rfl, by omega, rfl⟩)
          ·
            simp only [decide_eq_false_iff_not] at a5
            refine tri_exit ?_
            show Tri _ _ _ _
            refine Y3 okWb rfl (by repeat first | with_reducible exact Y2 | refine Y1 (by simp only [Y5, Y4, Y6, evsA, qev, St.ev, St.put, St.with, C.cpy, qstr, qbin, qconv, C.cp, C.dat, Y8, Y7, Nat.reduceEqDiff, if_true, if_false, decide_false, Bool.true_or, callP, Fs.none, Yg, argD, argC, settle, settle1, settleC, FsWb, hQh, hA1, hA2, ht0, hba, hbs, hblm, hxB, bytesStr, rowsOf, a5, tk9, tk35, tk5, ZA]; rfl) ?_) ?_
            refine Yo (Yp (by simp only [outRes, Yi, resD, outD, outC, C.dat, if_true, ZA]; rfl) rfl (by simp) (by simp) ?_)
            (simp only [reduceIte, ↓reduceIte, Int.reduceEq, floatP, rpar, a4] at hQ; with_reducible exact hQ)
        ·
          simp only [decide_eq_false_iff_not] at a4
          refine Y3 okWb rfl (by repeat first | with_reducible exact Y2 | refine Y1 (by simp only [Y5, Y4, Y6, qev, St.ev, St.put, qint, Yc, Ya, qbin, Y8, Y7, if_true, if_false, decide_false, a4, ZA]; rfl) ?_) ?_
          refine Yf rfl (fun a6 => ?_) (fun a6 => ?_)
          ·
            simp only [decide_eq_true_eq] at a6
            refine Y3 okWb rfl (by repeat first | with_reducible exact Y2 | refine Y1 (by simp only [Y5, Y4, Y6, evsA, qev, St.ev, St.put, St.with, qload, Y9, qmk, C.cpy, TK.agg, Yb, liveR, C.cp, C.dat, Nat.reduceEqDiff, if_true, if_false, decide_true, reduceCtorEq, Bool.true_or, callP, Fs.none, Yg, argD, argC, settle, settle1, settleC, FsWb, hQd, tk39, a6, tsz9, tk9, ZA]; rfl) ?_) ?_
            refine Yo (Yp (by simp only [outRes, Yi, resD, outD, outC, C.dat, if_true, ZA]; rfl) rfl (by simp) (by simp) ?_)
            (simp only [reduceIte, ↓reduceIte, Int.reduceEq, a6] at hQ; with_reducible exact hQ)
          ·
            simp only [decide_eq_false_iff_not] at a6
            refine tri_skip ?_
            show Tri _ _ _ _
            refine Y3 okWb rfl (by repeat first | with_reducible exact Y2 | refine Y1 (by simp only [Y5, Y4, Y6, qev, St.ev, St.put, Y8, Y7, decide_false, a6, ZA]; rfl) ?_) ?_
            refine Yo (Yp (by simp only [outRes, Yi, resD, outD, outC, C.dat, if_true, ZA]; rfl) rfl (by simp) (by simp) ?_)
            (simp only [reduceIte, ↓reduceIte, noneW, a0, a1, a3, a4, a6] at hQ; with_reducible exact hQ)
end Go.Dl
