/- The walks of a text's quote: the program's and the reference's; Plain law: a text's quote is one token, with this text; The walks of a number's digits: the program's and the reference's. -/
import Derived.Test.YtbefgbljlmnfoaaU12
set_option linter.all false
namespace Go.Dl
open Go.RowKit
open Go.Proofs
set_option linter.unusedSimpArgs false
set_option linter.unusedVariables false
def hexD (n : Nat) : UInt8 := hexT.data.toList.getD n 0
/-- A byte as it stands in a quote. -/
def encB (x : UInt8) : List UInt8 := if isPlain x.toNat = true then [x] else [92, 120, hexD (x.toNat / 16), hexD (x.toNat % 16)]
def qAcc (s : ByteArray) (i : Nat) : List UInt8 := 34 :: (s.data.toList.take i).flatMap encB
def quotedF (s : ByteArray) : ByteArray := ⟨(qAcc s s.size ++ [34]).toArray⟩
theorem encB_len (x : UInt8) : (encB x).length ≤ 4 := by unfold encB; split <;> simp
theorem flat_len : ∀ l : List UInt8, (l.flatMap encB).length ≤ 4 * l.length
 | [] => Nat.le_refl 0
 | x :: l => by
  have := flat_len l
  have := encB_len x
  rw [List.flatMap_cons, List.length_append, List.length_cons]; omega
theorem qAcc_len (s : ByteArray) (i : Nat) : (qAcc s i).length ≤ 4 * i + 1 := by
 have := flat_len (s.data.toList.take i)
 have h2 : (s.data.toList.take i).length ≤ i := List.length_take_le _ _
 unfold qAcc
 rw [List.length_cons]; omega
theorem qAcc_succ {s : ByteArray} {i : Nat} (h : i < s.size) : qAcc s (i + 1) = qAcc s i ++ encB (byU s i) := by
 have h' : i < s.data.toList.length := by simpa using h
 have hb : byU s i = s.data.toList[i] := by unfold byU; rw [List.getD_eq_getElem?_getD, List.getElem?_eq_getElem h', Option.getD_some]
 unfold qAcc
 rw [List.take_succ_eq_append_getElem h', List.flatMap_append, List.flatMap_singleton, hb, List.cons_append]
theorem qAcc_plain {s : ByteArray} {i : Nat} (h : i < s.size) (hp : isPlain (byU s i).toNat = true) : qAcc s i ++ [byU s i] = qAcc s (i + 1) := by
 rw [qAcc_succ h, encB, if_pos hp]
theorem qAcc_esc {s : ByteArray} {i : Nat} (h : i < s.size) (hp : isPlain (byU s i).toNat = false) : qAcc s i ++ [92, 120] ++ [hexD ((byU s i).toNat / 16)] ++ [hexD ((byU s i).toNat % 16)] = qAcc s (i + 1) := by
 rw [qAcc_succ h, encB, if_neg (by rw [hp]; simp)]; simp
theorem tab_hi : ∀ n : Fin 256, IntKind.u8.wrap (((n.val : Nat) : Int).fdiv (2 ^ min 4 IntKind.u8.bits)) = ((n.val / 16 : Nat) : Int) := by decide +kernel
theorem tab_lo : ∀ n : Fin 256, IntKind.u8.wrap ((BitVec.ofInt IntKind.u8.bits ((n.val : Nat) : Int) &&& BitVec.ofInt IntKind.u8.bits 15).toNat) = ((n.val % 16 : Nat) : Int) := by decide +kernel
theorem tab_dv : ∀ n : Fin 256, IntKind.i64.wrap (((n.val : Nat) : Int).tdiv 16) = ((n.val / 16 : Nat) : Int) := by decide +kernel
theorem tab_md : ∀ n : Fin 256, IntKind.i64.wrap (((n.val : Nat) : Int).tmod 16) = ((n.val % 16 : Nat) : Int) := by decide +kernel
noncomputable def FsU1 : Fs := { pure := fun k => if k = 33 then some (pU8 isPlain) else none, objs := fun k => if k = 32 then some oWB else if k = 34 then some oWS else if k = 35 then some oStr else none }
theorem okU1 : FsOK Try.prog FsU1 := by
 refine ⟨fun k f h => ?_, fun k f h => ?_⟩
 · simp only [FsU1] at h
   split at h
   · rename_i hk; subst hk; cases h; exact ⟨by kernel_rfl, meets33⟩
   · cases h
 · simp only [FsU1] at h
   split at h
   · rename_i hk; subst hk; cases h; exact ⟨by kernel_rfl, meets32⟩
   split at h
   · rename_i hk; subst hk; cases h; exact ⟨by kernel_rfl, meets34⟩
   split at h
   · rename_i hk; subst hk; cases h; exact ⟨by kernel_rfl, meets35⟩
   · cases h
noncomputable def pQuoted : List D → Option D := famP (fun s : ByteArray => s.size ≤ 1000000) (fun s => [.c (.v (.string s))]) (fun s => .c (.v (.string (quotedF s))))
theorem str_inj {β : Type} {f : ByteArray → β} (a b : ByteArray) (h : ([.c (.v (.string a))] : List D) = [.c (.v (.string b))]) : f a = f b := by
 simp only [List.cons.injEq, D.c.injEq, C.v.injEq, Value.string.injEq, and_true] at h
 subst h; rfl
theorem quoted_at (s : ByteArray) (hs : s.size ≤ 1000000) : pQuoted [.c (.v (.string s))] = some (.c (.v (.string (quotedF s)))) := Ym (fun a b h => str_inj a b h) s hs rfl
set_option maxHeartbeats 2000000 in
theorem meets14 : Meets Try.prog 14 (pureS pQuoted) := by
 refine Yn (show Try.prog.funcs[14]? = some Try.f14 by kernel_rfl) rfl (n := 31) rfl (rs := [ResultVar.tmp 2]) rfl ?_
 intro s hs Q hQ
 have hsm : s.size ≤ maxStr := by unfold maxStr; omega
 have hc0 : ((0 : Nat) : Int) = 0 := rfl
 have hW34 : oWB [.c (.p 0 0 0), .c (.v (.int .u8 34))] [⟨2, [[.b 69, .u 5 []]]⟩] = some (.c (.v .nilIface), [⟨2, [[.b 69, .u 5 [34]]]⟩]) := wb_at [] 34 (by decide)
 refine Y3 ok0 rfl (by repeat first | with_reducible exact Y2 | refine Y1 (by simp only [Y5, Y4, Y6, qev, St.ev, St.put, Y8, Y7, List.replicate, Nat.reduceSub, ZA]; rfl) ?_) ?_
 refine seq_runR ?_
 refine rr_bld 5 rfl rfl Try.zeroValue69 (rr_nil ?_)
 refine Y3 okU1 rfl (by repeat first | with_reducible exact Y2 | refine Y1 (by simp only [Y5, Y4, evsA, St.ev, St.put, St.with, D.cell, C.cpy, C.cp, C.dat, Y8, Y7, Bool.and_true, Nat.reduceEqDiff, if_true, if_false, beq_self_eq_true, Bool.true_or, callP, callO, dedup, rootsD, rootsC, List.flatMap_cons, List.flatMap_nil, List.filterMap_cons, List.filterMap_nil, Yg, argD, argC, List.contains_nil, objsAt, objOf, List.idxOf?, List.findIdx?, List.findIdx?.go, setObjs, settle, settle1, settleC, FsU1, hW34, ZA]; rfl) ?_) ?_
 refine seq_in ?_
 refine Y3 okU1 rfl (by repeat first | with_reducible exact Y2 | refine Y1 (by simp only [Y5, Y4, Y6, qev, St.ev, St.put, qlen, qbuiltin, Y8, Y7, tk9, ZA]; rfl) ?_) ?_
 refine tri_block ?_
 refine tri_loop_le (fun m A => ∃ i : Nat, m = s.size - i ∧ i ≤ s.size ∧ A = ⟨[.c (.v (.string s)), .o, .c (.v (.string ⟨#[]⟩)), .c (.p 0 0 0), .o, .o, .o, .o, .c (.v (.int .i64 (s.size : Nat))), .c (.v (.int .i64 (i : Nat))), .o, .o, .o, .o, .o, .o, .o, .o, .o, .o, .o, .o, .o, .o, .o, .o, .o, .o, .o, .o, .o], [some ⟨false, 2, [[.b 69, .u 5 (qAcc s i)]]⟩]⟩) s.size (B := ⟨[.c (.v (.string s)), .o, .c (.v (.string ⟨#[]⟩)), .c (.p 0 0 0), .o, .o, .o, .o, .c (.v (.int .i64 (s.size : Nat))), .c (.v (.int .i64 (0 : Nat))), .o, .o, .o, .o, .o, .o, .o, .o, .o, .o, .o, .o, .o, .o, .o, .o, .o, .o, .o, .o, .o], [some ⟨false, 2, [[.b 69, .u 5 (qAcc s 0)]]⟩]⟩) ⟨by repeat (first | exact .nil | refine .same ?_ | refine .o ?_), rfl⟩ ⟨0, rfl, Nat.zero_le _, rfl⟩ ?_
 rintro m A ⟨i, hm, hi, rfl⟩
 have hq1 : (i : Int) + 1 = ((i + 1 : Nat) : Int) := by omega
 have hb : ∀ j, s.data.toList.getD j 0 = byU s j := fun _ => rfl
 have hql := qAcc_len s i
 have hbl := (byU s i).toNat_lt
 have hW1 := wb_at (qAcc s i) (byU s i) (by omega)
 have hS1 : oWS [.c (.p 0 0 0), .c (.v (.string ⟨#[92, 120]⟩))] [⟨2, [[.b 69, .u 5 (qAcc s i)]]⟩] = some (.t [.c (.v (.int .i64 2)), .c (.v .nilIface)], [⟨2, [[.b 69, .u 5 (qAcc s i ++ [92, 120])]]⟩]) := ws_at (qAcc s i) ⟨#[92, 120]⟩ (by show (qAcc s i).length + 2 ≤ _; omega)
 have hW2 := wb_at (qAcc s i ++ [92, 120]) (hexD ((byU s i).toNat / 16)) (by rw [List.length_append]; show (qAcc s i).length + 2 + 1 ≤ _; omega)
 have hW3 := wb_at (qAcc s i ++ [92, 120] ++ [hexD ((byU s i).toNat / 16)]) (hexD ((byU s i).toNat % 16)) (by rw [List.length_append, List.length_append]; show (qAcc s i).length + 2 + 1 + 1 ≤ _; omega)
 have hHi : IntKind.u8.wrap (((byU s i).toNat : Int).fdiv (2 ^ min 4 IntKind.u8.bits)) = (((byU s i).toNat / 16 : Nat) : Int) := tab_hi ⟨(byU s i).toNat, hbl⟩
 have hLo : IntKind.u8.wrap ((BitVec.ofInt IntKind.u8.bits ((byU s i).toNat : Int) &&& BitVec.ofInt IntKind.u8.bits 15).toNat) = (((byU s i).toNat % 16 : Nat) : Int) := tab_lo ⟨(byU s i).toNat, hbl⟩
 have hz16 : (⟨#[48, 49, 50, 51, 52, 53, 54, 55, 56, 57, 97, 98, 99, 100, 101, 102]⟩ : ByteArray).size = 16 := rfl
 have hl1 : (((byU s i).toNat / 16 : Nat) : Int) < ((16 : Nat) : Int) := (by omega)
 have hl2 : (((byU s i).toNat % 16 : Nat) : Int) < ((16 : Nat) : Int) := (by omega)
 have hg1 : ∀ n : Nat, ([48, 49, 50, 51, 52, 53, 54, 55, 56, 57, 97, 98, 99, 100, 101, 102] : List UInt8).getD n 0 = hexD n := fun _ => rfl
 have hg2 : ∀ n : Nat, (⟨#[48, 49, 50, 51, 52, 53, 54, 55, 56, 57, 97, 98, 99, 100, 101, 102]⟩ : ByteArray).data.toList.getD n 0 = hexD n := fun _ => rfl
 have hWe : oWB [.c (.p 0 0 0), .c (.v (.int .u8 34))] [⟨2, [[.b 69, .u 5 (qAcc s i)]]⟩] = some (.c (.v .nilIface), [⟨2, [[.b 69, .u 5 (qAcc s i ++ [34])]]⟩]) := wb_at (qAcc s i) 34 (by omega)
 have hSt := str_at (qAcc s i ++ [34]) (by rw [List.length_append]; show (qAcc s i).length + 1 ≤ _; omega)
 refine Y3 okU1 rfl (by repeat first | with_reducible exact Y2 | refine Y1 (by simp only [Y5, Y4, Y6, qev, St.ev, St.put, qint, Yc, Ya, qbin, if_true, if_false, ZA]; rfl) ?_) ?_
 refine seq_in (Yf rfl (fun a0 => ?_) (fun a0 => ?_))
 ·
  simp only [decide_eq_true_eq] at a0
  refine Ye ?_
  refine seq_in (tri_block ?_)
  refine Y3 okU1 rfl (by repeat first | with_reducible exact Y2 | refine Y1 (by simp only [Y5, Y4, Y6, qev, St.ev, St.put, decide_true, a0, ZA]; rfl) ?_) ?_
  refine Y3 okU1 rfl (by repeat first | with_reducible exact Y2 | refine Y1 (by simp only [Y5, Y4, Y6, qev, St.ev, St.put, D.int, qindex, if_true, Int.toNat_natCast, Int.natCast_nonneg, hb, tk9, a0, ZA]; rfl) ?_) ?_
  refine seq_in ?_
  refine Y3 okU1 rfl (by repeat first | with_reducible exact Y2 | refine Y1 (by simp only [Y5, Y4, Y6, evsA, qev, St.ev, St.put, St.with, C.cpy, C.cp, C.dat, if_true, Bool.true_or, callP, Yg, argD, argC, settle, settle1, settleC, dB, FsU1, plain_at, ZA]; rfl) ?_) ?_
  refine Yf rfl (fun a1 => ?_) (fun a1 => ?_)
  ·
   refine Y3 okU1 rfl (by repeat first | with_reducible exact Y2 | refine Y1 (by simp only [Y5, Y4, Y6, evsA, qev, St.ev, St.put, St.with, D.cell, C.cpy, C.cp, C.dat, Bool.and_true, Nat.reduceEqDiff, if_true, if_false, beq_self_eq_true, Bool.true_or, callP, callO, dedup, rootsD, rootsC, List.flatMap_cons, List.flatMap_nil, List.filterMap_cons, List.filterMap_nil, Yg, argD, argC, List.contains_nil, objsAt, objOf, List.idxOf?, List.findIdx?, List.findIdx?.go, setObjs, settle, settle1, settleC, FsU1, hW1, a1, ZA]; rfl) ?_) ?_
   refine tri_exit ?_
   show Tri _ _ _ _
   refine Yk okU1 rfl (by repeat first | with_reducible exact Y2 | refine Y1 (by simp only [Y5, Y4, Y6, qev, St.ev, St.put, qint, Yc, Ya, qbin, Y8, Y7, if_true, if_false, hq1, show IntKind.i64.wrap (↑(i + 1) : Int) = _ from wrap_i64 _ (by omega) (by omega), ZA]; rfl) ?_) ?_
   (exact ⟨s.size - (i + 1), by omega, ⟨[.c (.v (.string s)), .o, .c (.v (.string ⟨#[]⟩)), .c (.p 0 0 0), .o, .o, .o, .o, .c (.v (.int .i64 (s.size : Nat))), .c (.v (.int .i64 (i + 1 : Nat))), .o, .o, .o, .o, .o, .o, .o, .o, .o, .o, .o, .o, .o, .o, .o, .o, .o, .o, .o, .o, .o], [some ⟨false, 2, [[.b 69, .u 5 (qAcc s (i + 1))]]⟩]⟩, ⟨by repeat (first | exact .nil | refine .same ?_ | refine .o ?_), (by rw [← qAcc_plain (by omega) (by assumption)]; try rfl)⟩, i + 1, rfl, by omega, rfl⟩)
  ·
   refine Ye ?_
   refine Y3 okU1 rfl (by repeat first | with_reducible exact Y2 | refine Y1 (by simp only [Y5, Y4, evsA, St.ev, St.put, St.with, D.cell, C.cpy, C.cp, C.dat, Y8, Y7, Bool.and_true, Nat.reduceEqDiff, if_true, if_false, beq_self_eq_true, Bool.true_or, callP, callO, dedup, rootsD, rootsC, List.flatMap_cons, List.flatMap_nil, List.filterMap_cons, List.filterMap_nil, Yg, argD, argC, List.contains_nil, objsAt, objOf, List.idxOf?, List.findIdx?, List.findIdx?.go, setObjs, settle, settle1, settleC, settleDs, FsU1, hS1, a1, ZA]; rfl) ?_) ?_
   refine Y3 okU1 rfl (by repeat first | with_reducible exact Y2 | refine Y1 (by simp only [Y5, Y4, Y6, evsA, qev, St.ev, St.put, St.with, D.cell, D.int, C.cpy, qindex, qint, Yc, Ya, qbin, C.cp, C.dat, Y8, Y7, Bool.and_true, Nat.reduceEqDiff, if_true, if_false, reduceCtorEq, Int.reduceLT, Int.reduceToNat, beq_self_eq_true, Bool.true_or, callP, callO, dedup, rootsD, rootsC, List.flatMap_cons, List.flatMap_nil, List.filterMap_cons, List.filterMap_nil, Yg, argD, argC, List.contains_nil, objsAt, objOf, List.idxOf?, List.findIdx?, List.findIdx?.go, setObjs, settle, settle1, settleC, FsU1, Int.toNat_natCast, Int.natCast_nonneg, hW2, hHi, hz16, hl1, hg1, tk9, ZA]; rfl) ?_) ?_
   refine Yk okU1 rfl (by repeat first | with_reducible exact Y2 | refine Y1 (by simp only [Y5, Y4, Y6, evsA, qev, St.ev, St.put, St.with, D.cell, D.int, C.cpy, qindex, qint, Yc, Ya, qbin, C.cp, C.dat, Y8, Y7, Bool.and_true, Nat.reduceEqDiff, if_true, if_false, beq_self_eq_true, Bool.true_or, callP, callO, dedup, rootsD, rootsC, List.flatMap_cons, List.flatMap_nil, List.filterMap_cons, List.filterMap_nil, Yg, argD, argC, List.contains_nil, objsAt, objOf, List.idxOf?, List.findIdx?, List.findIdx?.go, setObjs, settle, settle1, settleC, FsU1, Int.toNat_natCast, Int.natCast_nonneg, hW3, hLo, hz16, hl2, hg1, tk9, ZA]; rfl) ?_) ?_
   show Tri _ _ _ _
   refine Yk okU1 rfl (by repeat first | with_reducible exact Y2 | refine Y1 (by simp only [Y5, Y4, Y6, qev, St.ev, St.put, qint, Yc, Ya, qbin, Y8, Y7, if_true, if_false, hq1, show IntKind.i64.wrap (↑(i + 1) : Int) = _ from wrap_i64 _ (by omega) (by omega), ZA]; rfl) ?_) ?_
   (exact ⟨s.size - (i + 1), by omega, ⟨[.c (.v (.string s)), .o, .c (.v (.string ⟨#[]⟩)), .c (.p 0 0 0), .o, .o, .o, .o, .c (.v (.int .i64 (s.size : Nat))), .c (.v (.int .i64 (i + 1 : Nat))), .o, .o, .o, .o, .o, .o, .o, .o, .o, .o, .o, .o, .o, .o, .o, .o, .o, .o, .o, .o, .o], [some ⟨false, 2, [[.b 69, .u 5 (qAcc s (i + 1))]]⟩]⟩, ⟨by repeat (first | exact .nil | refine .same ?_ | refine .o ?_), (by rw [← qAcc_esc (by omega) (by first | assumption | exact Bool.eq_false_iff.2 (by assumption))]; try rfl)⟩, i + 1, rfl, by omega, rfl⟩)
 ·
  simp only [decide_eq_false_iff_not] at a0
  refine tri_exit ?_
  show Tri _ _ _ _
  refine Y3 okU1 rfl (by repeat first | with_reducible exact Y2 | refine Y1 (by simp only [Y5, Y4, evsA, St.ev, St.put, St.with, D.cell, C.cpy, C.cp, C.dat, Y8, Y7, Bool.and_true, Nat.reduceEqDiff, if_true, if_false, decide_false, beq_self_eq_true, Bool.true_or, callP, callO, dedup, rootsD, rootsC, List.flatMap_cons, List.flatMap_nil, List.filterMap_cons, List.filterMap_nil, Yg, argD, argC, List.contains_nil, objsAt, objOf, List.idxOf?, List.findIdx?, List.findIdx?.go, setObjs, settle, settle1, settleC, FsU1, hWe, a0, ZA]; rfl) ?_) ?_
  refine Y3 okU1 rfl (by repeat first | with_reducible exact Y2 | refine Y1 (by simp only [Y5, Y4, Y6, evsA, qev, St.ev, St.put, St.with, D.cell, C.dat, Bool.and_true, Nat.reduceEqDiff, if_true, if_false, beq_self_eq_true, Bool.true_or, callP, callO, dedup, rootsD, rootsC, List.flatMap_cons, List.flatMap_nil, List.filterMap_cons, List.filterMap_nil, Yg, argD, argC, List.contains_nil, objsAt, objOf, List.idxOf?, List.findIdx?, List.findIdx?.go, setObjs, settle, settle1, settleC, FsU1, hSt, ZA]; rfl) ?_) ?_
  refine Yo (Yp (by simp only [outRes, Yi, resD, outD, outC, C.dat, if_true, ZA]; rfl) rfl (by simp) (by simp) ?_)
  (obtain rfl : i = s.size := (by omega); exact hQ)
def qS (s : ByteArray) (i : Nat) : ByteArray := ⟨(qAcc s i).toArray⟩
theorem qS_len (s : ByteArray) (i : Nat) : (qS s i).size ≤ 4 * i + 1 := qAcc_len s i
theorem app2 (acc : List UInt8) (x y : UInt8) : (⟨acc.toArray⟩ : ByteArray) ++ ⟨#[x, y]⟩ = ⟨(acc ++ [x, y]).toArray⟩ := by
 apply ByteArray.ext
 rw [ByteArray.data_append]
 simp
theorem app1' (acc : List UInt8) (x : UInt8) : (⟨acc.toArray⟩ : ByteArray) ++ ⟨#[x]⟩ = ⟨(acc ++ [x]).toArray⟩ := by
 apply ByteArray.ext
 rw [ByteArray.data_append]
 simp
theorem ext1' {s : ByteArray} {i : Nat} (h : i < s.size) : s.extract i (i + 1) = ⟨#[byU s i]⟩ := by
 apply ByteArray.ext
 rw [ByteArray.data_extract]
 apply Array.ext'
 rw [Array.toList_extract, List.extract_eq_take_drop]
 have h' : i < s.data.toList.length := by simpa using h
 rw [List.drop_eq_getElem_cons h', show i + 1 - i = 1 from by omega]
 simp only [Z17, Z20, byU, List.getD_eq_getElem?_getD, List.getElem?_eq_getElem h', Option.getD_some]
theorem qS_plain {s : ByteArray} {i : Nat} (h : i < s.size) (hp : isPlainR (byU s i).toNat = true) : qS s i ++ s.extract i (i + 1) = qS s (i + 1) := by
 unfold qS
 rw [ext1' h, app1', qAcc_plain h (by rw [← plainR_eq]; exact hp)]
theorem qS_esc {s : ByteArray} {i : Nat} (h : i < s.size) (hp : isPlainR (byU s i).toNat = false) : qS s i ++ ⟨#[92, 120]⟩ ++ hexT.extract ((byU s i).toNat / 16) ((byU s i).toNat / 16 + 1) ++ hexT.extract ((byU s i).toNat % 16) ((byU s i).toNat % 16 + 1) = qS s (i + 1) := by
 have hb := (byU s i).toNat_lt
 have hz : hexT.size = 16 := rfl
 unfold qS
 rw [ext1' (by omega), ext1' (by omega), app2, app1', app1']
 rw [← qAcc_esc h (by rw [← plainR_eq]; exact hp)]
 rfl
theorem qS_end (s : ByteArray) : qS s s.size ++ ⟨#[34]⟩ = quotedF s := by
 unfold qS quotedF
 rw [app1']
noncomputable def FsU2 : Fs := { Fs.none with pure := fun k => if k = 36 then some (pU8 isPlainR) else none }
theorem okU2 : FsOK Try.prog FsU2 := by
 refine ⟨fun k f h => ?_, fun _ _ h => (by cases h)⟩
 simp only [FsU2] at h
 split at h
 · rename_i hk; subst hk; cases h; exact ⟨by kernel_rfl, meets36⟩
 · cases h
set_option maxHeartbeats 2000000 in
theorem meets15 : Meets Try.prog 15 (pureS pQuoted) := by
 refine Yn (show Try.prog.funcs[15]? = some Try.f15 by kernel_rfl) rfl (n := 51) rfl (rs := [ResultVar.tmp 2]) rfl ?_
 intro s hs Q hQ
 have hsm : s.size ≤ maxStr := by unfold maxStr; omega
 have hc0 : ((0 : Nat) : Int) = 0 := rfl
 refine Y3 okU2 rfl (by repeat first | with_reducible exact Y2 | refine Y1 (by simp only [Y5, Y4, Y6, qev, St.ev, St.put, Y8, Y7, List.replicate, Nat.reduceSub, ZA]; rfl) ?_) ?_
 refine Y3 okU2 rfl (by repeat first | with_reducible exact Y2 | refine Y1 (by simp only [Y5, Y4, Y6, qev, St.ev, St.put, Y8, Y7, ZA]; rfl) ?_) ?_
 refine Y3 okU2 rfl (by repeat first | with_reducible exact Y2 | refine Y1 (by simp only [Y5, Y4, Y6, qev, St.ev, St.put, Y8, Y7, ZA]; rfl) ?_) ?_
 refine seq_in ?_
 refine Y3 okU2 rfl (by repeat first | with_reducible exact Y2 | refine Y1 (by simp only [Y5, Y4, Y6, qev, St.ev, St.put, Y8, Y7, ZA]; rfl) ?_) ?_
 refine tri_block ?_
 refine tri_loop_le (fun m A => ∃ i : Nat, m = s.size - i ∧ i ≤ s.size ∧ A = ⟨[.c (.v (.string s)), .o, .c (.v (.string ⟨#[]⟩)), .c (.v (.string ⟨#[48, 49, 50, 51, 52, 53, 54, 55, 56, 57, 97, 98, 99, 100, 101, 102]⟩)), .c (.v (.string (qS s i))), .c (.v (.int .i64 (i : Nat))), .o, .o, .o, .o, .o, .o, .o, .o, .o, .o, .o, .o, .o, .o, .o, .o, .o, .o, .o, .o, .o, .o, .o, .o, .o, .o, .o, .o, .o, .o, .o, .o, .o, .o, .o, .o, .o, .o, .o, .o, .o, .o, .o, .o, .o], []⟩) s.size (B := ⟨[.c (.v (.string s)), .o, .c (.v (.string ⟨#[]⟩)), .c (.v (.string ⟨#[48, 49, 50, 51, 52, 53, 54, 55, 56, 57, 97, 98, 99, 100, 101, 102]⟩)), .c (.v (.string (qS s 0))), .c (.v (.int .i64 (0 : Nat))), .o, .o, .o, .o, .o, .o, .o, .o, .o, .o, .o, .o, .o, .o, .o, .o, .o, .o, .o, .o, .o, .o, .o, .o, .o, .o, .o, .o, .o, .o, .o, .o, .o, .o, .o, .o, .o, .o, .o, .o, .o, .o, .o, .o, .o], []⟩) ⟨by repeat (first | exact .nil | refine .same ?_ | refine .o ?_), rfl⟩ ⟨0, rfl, Nat.zero_le _, rfl⟩ ?_
 rintro m A ⟨i, hm, hi, rfl⟩
 have hq1 : (i : Int) + 1 = ((i + 1 : Nat) : Int) := by omega
 have hb : ∀ j, s.data.toList.getD j 0 = byU s j := fun _ => rfl
 have hql := qS_len s i
 have hbl := (byU s i).toNat_lt
 have hDv : IntKind.i64.wrap (((byU s i).toNat : Int).tdiv 16) = (((byU s i).toNat / 16 : Nat) : Int) := tab_dv ⟨(byU s i).toNat, hbl⟩
 have hMd : IntKind.i64.wrap (((byU s i).toNat : Int).tmod 16) = (((byU s i).toNat % 16 : Nat) : Int) := tab_md ⟨(byU s i).toNat, hbl⟩
 have hq2 : (((byU s i).toNat / 16 : Nat) : Int) + 1 = (((byU s i).toNat / 16 + 1 : Nat) : Int) := by omega
 have hq3 : (((byU s i).toNat % 16 : Nat) : Int) + 1 = (((byU s i).toNat % 16 + 1 : Nat) : Int) := by omega
 have hz16 : (⟨#[48, 49, 50, 51, 52, 53, 54, 55, 56, 57, 97, 98, 99, 100, 101, 102]⟩ : ByteArray).size = 16 := rfl
 have hz2 : (⟨#[92, 120]⟩ : ByteArray).size = 2 := rfl
 have hz1 : (⟨#[34]⟩ : ByteArray).size = 1 := rfl
 have hl1 : (((byU s i).toNat / 16 + 1 : Nat) : Int) ≤ ((16 : Nat) : Int) := (by omega)
 have hl2 : (((byU s i).toNat % 16 + 1 : Nat) : Int) ≤ ((16 : Nat) : Int) := (by omega)
 have hn1 : (((byU s i).toNat / 16 : Nat) : Int) ≤ (((byU s i).toNat / 16 + 1 : Nat) : Int) := (by omega)
 have hn2 : (((byU s i).toNat % 16 : Nat) : Int) ≤ (((byU s i).toNat % 16 + 1 : Nat) : Int) := (by omega)
 have hA1 : (qS s i).size + (s.extract i (i + 1)).size ≤ maxStr := (by unfold maxStr; rw [ByteArray.size_extract]; omega)
 have hA2 : (qS s i).size + 2 ≤ maxStr := (by unfold maxStr; omega)
 have hA5 : (qS s i).size + 1 ≤ maxStr := (by unfold maxStr; omega)
 have hA3 : (qS s i ++ ⟨#[92, 120]⟩).size + ((⟨#[48, 49, 50, 51, 52, 53, 54, 55, 56, 57, 97, 98, 99, 100, 101, 102]⟩ : ByteArray).extract ((byU s i).toNat / 16) ((byU s i).toNat / 16 + 1)).size ≤ maxStr := (by unfold maxStr; rw [ByteArray.size_append, ByteArray.size_extract, hz2, hz16]; omega)
 have hA4 : (qS s i ++ ⟨#[92, 120]⟩ ++ (⟨#[48, 49, 50, 51, 52, 53, 54, 55, 56, 57, 97, 98, 99, 100, 101, 102]⟩ : ByteArray).extract ((byU s i).toNat / 16) ((byU s i).toNat / 16 + 1)).size + ((⟨#[48, 49, 50, 51, 52, 53, 54, 55, 56, 57, 97, 98, 99, 100, 101, 102]⟩ : ByteArray).extract ((byU s i).toNat % 16) ((byU s i).toNat % 16 + 1)).size ≤ maxStr := (by unfold maxStr; rw [ByteArray.size_append, ByteArray.size_append, ByteArray.size_extract, ByteArray.size_extract, hz2, hz16]; omega)
 refine seq_in ?_
 refine Y3 okU2 rfl (by repeat first | with_reducible exact Y2 | refine Y1 (by simp only [Y5, Y4, Y6, qev, St.ev, St.put, qint, Yc, Ya, qbin, qlen, qbuiltin, if_true, if_false, tk9, ZA]; rfl) ?_) ?_
 refine Yf rfl (fun b0 => ?_) (fun b0 => ?_)
 ·
  simp only [decide_eq_true_eq] at b0
  refine Ye ?_
  refine seq_in (tri_block ?_)
  refine Y3 okU2 rfl (by repeat first | with_reducible exact Y2 | refine Y1 (by simp only [Y5, Y4, Y6, evsA, qev, St.ev, St.put, St.with, D.int, C.cpy, qindex, C.cp, C.dat, if_true, decide_true, Bool.true_or, callP, Fs.none, Yg, argD, argC, settle, settle1, settleC, dB, FsU2, Int.toNat_natCast, Int.natCast_nonneg, hb, plainR_at, tk9, b0, ZA]; rfl) ?_) ?_
  refine Yf rfl (fun b1 => ?_) (fun b1 => ?_)
  ·
   refine Yk okU2 rfl (by repeat first | with_reducible exact Y2 | refine Y1 (by simp only [Y5, Y4, Y6, qev, St.ev, St.put, D.int, qint, Yc, qstr, Ya, qbin, qbounds, qslice, omap, Y8, Y7, if_true, if_false, Int.toNat_natCast, Int.natCast_nonneg, hq1, hA1, tk9, b1, show IntKind.i64.wrap (↑(i + 1) : Int) = _ from wrap_i64 _ (by omega) (by omega), show ((↑(i + 1) : Int) ≤ (↑s.size : Int)) = True from eq_true (by omega), show ((↑i : Int) ≤ (↑(i + 1) : Int)) = True from eq_true (by omega), ZA]; rfl) ?_) ?_
   show Tri _ _ _ _
   refine Yk okU2 rfl (by repeat first | with_reducible exact Y2 | refine Y1 (by simp only [Y5, Y4, Y6, qev, St.ev, St.put, qint, Yc, Ya, qbin, Y8, Y7, if_true, if_false, hq1, show IntKind.i64.wrap (↑(i + 1) : Int) = _ from wrap_i64 _ (by omega) (by omega), ZA]; rfl) ?_) ?_
   simp only []
   (exact ⟨s.size - (i + 1), by omega, ⟨[.c (.v (.string s)), .o, .c (.v (.string ⟨#[]⟩)), .c (.v (.string ⟨#[48, 49, 50, 51, 52, 53, 54, 55, 56, 57, 97, 98, 99, 100, 101, 102]⟩)), .c (.v (.string (qS s (i + 1)))), .c (.v (.int .i64 ((i + 1) : Nat))), .o, .o, .o, .o, .o, .o, .o, .o, .o, .o, .o, .o, .o, .o, .o, .o, .o, .o, .o, .o, .o, .o, .o, .o, .o, .o, .o, .o, .o, .o, .o, .o, .o, .o, .o, .o, .o, .o, .o, .o, .o, .o, .o, .o, .o], []⟩, ⟨(by rw [← qS_plain (by omega) (by assumption)]; repeat (first | exact .nil | refine .same ?_ | refine .o ?_)), rfl⟩, i + 1, rfl, by omega, rfl⟩)
  ·
   refine Y3 okU2 rfl (by repeat first | with_reducible exact Y2 | refine Y1 (by simp only [Y5, Y4, Y6, qev, St.ev, St.put, D.int, qindex, qint, Yc, Ya, qbin, qconv, Y8, Y7, if_true, if_false, Int.reduceEq, Int.toNat_natCast, Int.natCast_nonneg, hb, hDv, tk9, b0, b1, tk3, tk5, show IntKind.i64.wrap (↑(byU s i).toNat : Int) = _ from wrap_i64 _ (by omega) (by omega), ZA]; rfl) ?_) ?_
   refine Y3 okU2 rfl (by repeat first | with_reducible exact Y2 | refine Y1 (by simp only [Y5, Y4, Y6, qev, St.ev, St.put, D.int, qindex, qint, Yc, Ya, qbin, qconv, Y8, Y7, if_true, if_false, Int.reduceEq, Int.toNat_natCast, Int.natCast_nonneg, hb, hMd, tk9, b0, tk3, tk5, show IntKind.i64.wrap (↑(byU s i).toNat : Int) = _ from wrap_i64 _ (by omega) (by omega), ZA]; rfl) ?_) ?_
   refine any_endE mixed okU2 rfl (by kernel_rfl) ?_
   refine ⟨_, (by repeat first | with_reducible exact Y2 | refine Y1 (by simp only [Y5, Y4, Y6, qev, St.ev, St.put, D.int, qint, Yc, qstr, Ya, qbin, qbounds, qslice, omap, Y8, Y7, if_true, if_false, Int.toNat_natCast, Int.natCast_nonneg, hq2, hq3, hz16, hz2, hl1, hl2, hn1, hn2, hA2, hA3, hA4, tk9, show IntKind.i64.wrap (↑((byU s i).toNat / 16 + 1) : Int) = _ from wrap_i64 _ (by omega) (by omega), show IntKind.i64.wrap (↑((byU s i).toNat % 16 + 1) : Int) = _ from wrap_i64 _ (by omega) (by omega), ZA]; rfl) ?_), ?_⟩
   show Tri _ _ _ _
   refine Yk okU2 rfl (by repeat first | with_reducible exact Y2 | refine Y1 (by simp only [Y5, Y4, Y6, qev, St.ev, St.put, qint, Yc, Ya, qbin, Y8, Y7, if_true, if_false, hq1, show IntKind.i64.wrap (↑(i + 1) : Int) = _ from wrap_i64 _ (by omega) (by omega), ZA]; rfl) ?_) ?_
   simp only []
   (exact ⟨s.size - (i + 1), by omega, ⟨[.c (.v (.string s)), .o, .c (.v (.string ⟨#[]⟩)), .c (.v (.string ⟨#[48, 49, 50, 51, 52, 53, 54, 55, 56, 57, 97, 98, 99, 100, 101, 102]⟩)), .c (.v (.string (qS s (i + 1)))), .c (.v (.int .i64 ((i + 1) : Nat))), .o, .o, .o, .o, .o, .o, .o, .o, .o, .o, .o, .o, .o, .o, .o, .o, .o, .o, .o, .o, .o, .o, .o, .o, .o, .o, .o, .o, .o, .o, .o, .o, .o, .o, .o, .o, .o, .o, .o, .o, .o, .o, .o, .o, .o], []⟩, ⟨(by rw [← qS_esc (by omega) (by first | assumption | exact Bool.eq_false_iff.2 (by assumption))]; repeat (first | exact .nil | refine .same ?_ | refine .o ?_)), rfl⟩, i + 1, rfl, by omega, rfl⟩)
 ·
  simp only [decide_eq_false_iff_not] at b0
  refine tri_exit ?_
  show Tri _ _ _ _
  refine Y3 okU2 rfl (by repeat first | with_reducible exact Y2 | refine Y1 (by simp only [Y5, Y4, Y6, qev, St.ev, St.put, qstr, qbin, Y8, Y7, if_true, decide_false, hz1, hA5, b0, ZA]; rfl) ?_) ?_
  refine Yo (Yp (by simp only [outRes, Yi, resD, outD, outC, C.dat, if_true, ZA]; rfl) rfl (by simp) (by simp) ?_)
  (obtain rfl : i = s.size := (by omega); rw [qS_end]; with_reducible exact hQ)
end Go.Dl

namespace Go.Dl
open Go.RowKit
open Go.Proofs
set_option linter.unusedVariables false
theorem tab_hex : ∀ n : Fin 16, nibR ((hexD n.val).toNat : Int) = ((n.val : Nat) : Int) := by decide +kernel
theorem quoted_split {s : ByteArray} {i : Nat} : (quotedF s).data.toList = qAcc s i ++ ((s.data.toList.drop i).flatMap encB ++ [34]) := by
 have h : s.data.toList.length = s.size := by simp
 have : (quotedF s).data.toList = qAcc s s.size ++ [34] := rfl
 rw [this]
 unfold qAcc
 rw [List.take_of_length_le (by omega)]
 have e : s.data.toList.flatMap encB = (s.data.toList.take i).flatMap encB ++ (s.data.toList.drop i).flatMap encB := by rw [← List.flatMap_append, List.take_append_drop]
 rw [e]
 simp only [List.cons_append, List.append_assoc]
theorem getD_app (a b : List UInt8) (j : Nat) : (a ++ b).getD (a.length + j) 0 = b.getD j 0 := by
 rw [List.getD_eq_getElem?_getD, List.getD_eq_getElem?_getD, List.getElem?_append_right (by omega), Nat.add_sub_cancel_left]
theorem byU_q {s : ByteArray} (i j : Nat) : byU (quotedF s) ((qAcc s i).length + j) = ((s.data.toList.drop i).flatMap encB ++ [34]).getD j 0 := by
 unfold byU
 rw [quoted_split (i := i), getD_app]
theorem quoted_size (s : ByteArray) (i : Nat) : (quotedF s).size = (qAcc s i).length + ((s.data.toList.drop i).flatMap encB).length + 1 := by
 have : (quotedF s).size = (quotedF s).data.toList.length := by simp
 rw [this, quoted_split (i := i)]
 simp; omega
theorem take_ok (s : ByteArray) : (⟨(s.data.toList.take s.size).toArray⟩ : ByteArray) = s := by
 have h : s.data.toList.length = s.size := by simp
 rw [List.take_of_length_le (by omega)]
theorem quoted_le (s : ByteArray) : (quotedF s).size ≤ 4 * s.size + 2 := by
 have h := quoted_size s s.size
 have h2 := qAcc_len s s.size
 have hlen : s.data.toList.length = s.size := by simp
 rw [List.drop_of_length_le (by omega), List.flatMap_nil, List.length_nil] at h
 omega
theorem flat_ge : ∀ l : List UInt8, l.length ≤ (l.flatMap encB).length
 | [] => Nat.le_refl 0
 | x :: l => by
  have hx : 1 ≤ (encB x).length := by unfold encB; split <;> simp
  have := flat_ge l
  rw [List.flatMap_cons, List.length_append, List.length_cons]; omega
theorem quoted_ge (s : ByteArray) : s.size + 2 ≤ (quotedF s).size := by
 have h5 := quoted_size s 0
 have h6 := flat_ge (s.data.toList.drop 0)
 have h7 : s.data.toList.length = s.size := by simp
 have h8 : (qAcc s 0).length = 1 := rfl
 rw [List.length_drop] at h6
 omega
end Go.Dl

namespace Go.Dl
open Go.RowKit
open Go.Proofs
set_option linter.unusedSimpArgs false
set_option linter.unusedVariables false
def dig (n : Nat) : UInt8 := UInt8.ofNat (48 + n)
theorem dig_int {n : Nat} (h : n ≤ 9) : (48 : Int) + ((n : Nat) : Int) = ((dig n).toNat : Int) := by
 unfold dig
 rw [UInt8.toNat_ofNat']
 omega
/-- A number's digits. -/
def decG : Nat → Nat → List UInt8
 | 0, n => [dig n]
 | f + 1, n => if n ≤ 9 then [dig n] else decG f (n / 10) ++ [dig (n % 10)]
def decL (n : Nat) : List UInt8 := decG 20 n
def decB (n : Nat) : ByteArray := ⟨(decL n).toArray⟩
theorem decG_len : ∀ (f n : Nat), (decG f n).length ≤ f + 1
 | 0, n => Nat.le_refl 1
 | f + 1, n => by
  unfold decG
  split
  · simp
  · have := decG_len f (n / 10)
    rw [List.length_append, List.length_singleton]; omega
theorem div_pow {n f : Nat} (h : n < 10 ^ (f + 1)) : n / 10 < 10 ^ f := (Nat.div_lt_iff_lt_mul (by decide)).2 (by rw [← Nat.pow_succ]; exact h)
theorem pow_pos' {n f : Nat} (h : n < 10 ^ f) (h9 : 9 < n) : ∃ g, f = g + 1 := by
 cases f with
 | zero => exfalso; rw [Nat.pow_zero] at h; omega
 | succ g => exact ⟨g, rfl⟩
theorem lt_pow20 {n : Nat} (h : n < 18446744073709551616) : n < 10 ^ 20 := Nat.lt_of_lt_of_le h (by decide)
theorem decG_small {f n : Nat} (h : n ≤ 9) : decG f n = [dig n] := by
 cases f with
 | zero => rfl
 | succ f => unfold decG; rw [if_pos h]
theorem decG_big {f n : Nat} (h : 9 < n) : decG (f + 1) n = decG f (n / 10) ++ [dig (n % 10)] := by
 rw [decG, if_neg (by omega)]
/-- A list with so many of its ends swapped. -/
def swp (L : List UInt8) (i : Nat) : List UInt8 := (List.range L.length).map fun j => if j < i ∨ L.length ≤ j + i then L.getD (L.length - 1 - j) 0 else L.getD j 0
theorem swp_len (L : List UInt8) (i : Nat) : (swp L i).length = L.length := by simp [swp]
theorem swp_get {L : List UInt8} {i j : Nat} (h : j < L.length) : (swp L i)[j]? = some (if j < i ∨ L.length ≤ j + i then L.getD (L.length - 1 - j) 0 else L.getD j 0) := by
 simp [swp, h]
theorem swp_0 (L : List UInt8) : swp L 0 = L := by
 apply List.ext_getElem?
 intro j
 by_cases h : j < L.length
 · rw [swp_get h, if_neg (by omega), List.getD_eq_getElem?_getD, List.getElem?_eq_getElem h, Option.getD_some]
 · rw [List.getElem?_eq_none (by rw [swp_len]; omega), List.getElem?_eq_none (by omega)]
theorem swp_end {L : List UInt8} {i : Nat} (h : L.length ≤ i + i + 1) : swp L i = L.reverse := by
 apply List.ext_getElem?
 intro j
 by_cases hj : j < L.length
 · rw [swp_get hj, List.getElem?_reverse hj]
   have h2 : L.length - 1 - j < L.length := by omega
   rw [List.getElem?_eq_getElem h2]
   congr 1
   split
   · rw [List.getD_eq_getElem?_getD, List.getElem?_eq_getElem h2, Option.getD_some]
   · have : j = L.length - 1 - j := by omega
     rw [List.getD_eq_getElem?_getD, List.getElem?_eq_getElem hj, Option.getD_some]
     congr 1
 · rw [List.getElem?_eq_none (by rw [swp_len]; omega), List.getElem?_eq_none (by rw [List.length_reverse]; omega)]
theorem swp_set {L : List UInt8} {i k : Nat} (h : k + i + 1 = L.length) (hik : i < k) : ((swp L i).set i (L.getD k 0)).set k (L.getD i 0) = swp L (i + 1) := by
 apply List.ext_getElem?
 intro j
 by_cases hj : j < L.length
 · rw [swp_get hj, List.getElem?_set, List.getElem?_set]
   by_cases h1 : k = j
   · subst h1
     rw [if_pos rfl, if_pos (by rw [List.length_set, swp_len]; omega), if_pos (by omega)]
     congr 2; omega
   · rw [if_neg h1]
     by_cases h2 : i = j
     · subst h2
       rw [if_pos rfl, if_pos (by rw [swp_len]; omega), if_pos (by omega)]
       congr 2; omega
     · rw [if_neg h2, swp_get hj]
       congr 1
       by_cases h3 : j < i ∨ L.length ≤ j + i
       · rw [if_pos h3, if_pos (by omega)]
       · rw [if_neg h3, if_neg (by omega)]
 · rw [List.getElem?_eq_none (by rw [List.length_set, List.length_set, swp_len]; omega), List.getElem?_eq_none (by rw [swp_len]; omega)]
theorem byte_set (l : List UInt8) (i : Nat) (x : UInt8) : (l.map byteRow).set i [.v (.int .u8 x.toNat)] = (l.set i x).map byteRow := by rw [List.map_set]; rfl
theorem byte_nb (l : List UInt8) : rowsNB (l.map byteRow) = true := nb_map (fun _ => rfl)
theorem byte_all (l : List UInt8) : (l.map byteRow).all isByteRow = true := by
 rw [List.all_eq_true]
 intro row h
 obtain ⟨x, _, rfl⟩ := List.mem_map.1 h
 rfl
theorem byte_str (l : List UInt8) : (l.map byteRow).map rowByte = l := by
 rw [List.map_map]
 conv => rhs; rw [← List.map_id l]
 apply List.map_congr_left
 intro x _
 have := x.toNat_lt
 simp [byteRow, rowByte]
noncomputable def pCountB : List D → Option D := famP (fun n : Nat => n < 18446744073709551616) (fun n => [.c (.v (.int .u64 (n : Nat)))]) (fun n => .c (.v (.string (decB n))))
theorem countB_at (n : Nat) (h : n < 18446744073709551616) : pCountB [.c (.v (.int .u64 (n : Nat)))] = some (.c (.v (.string (decB n)))) := Ym (fun a b h => by
 simp only [List.cons.injEq, D.c.injEq, C.v.injEq, Value.int.injEq, and_true, true_and] at h
 obtain rfl : a = b := by omega
 rfl) n h rfl
set_option maxHeartbeats 2000000 in
theorem meets61 : Meets Try.prog 61 (pureS pCountB) := by
 refine Yn (show Try.prog.funcs[61]? = some Try.f61 by kernel_rfl) rfl (n := 49) rfl (rs := [ResultVar.tmp 2]) rfl ?_
 intro n0 hn0 Q hQ
 have hc0 : ((0 : Nat) : Int) = 0 := rfl
 have hres : decG 20 n0 = decL n0 := rfl
 generalize hr : decL n0 = res at hres
 unfold decB at hQ
 rw [hr] at hQ
 have hp20 := lt_pow20 hn0
 clear hr
 refine Y3 ok0 rfl (by repeat first | with_reducible exact Y2 | refine Y1 (by simp only [Y5, Y4, Y6, qev, St.ev, St.put, Y8, Y7, List.replicate, Nat.reduceSub, ZA]; rfl) ?_) ?_
 refine Y3 ok0 rfl (by repeat first | with_reducible exact Y2 | refine Y1 (by simp only [Y5, Y4, Y6, qev, St.ev, St.put, Y8, Y7, ZA]; rfl) ?_) ?_
 refine seq_in (tri_block ?_)
 refine tri_nil 3 1 rfl ?_
 show Tri _ _ _ _
 refine tri_loop_le (fun m A => ∃ (f n : Nat) (acc : List UInt8) (T : List (Option Root)), m = n ∧ n < 18446744073709551616 ∧ n < 10 ^ f ∧ acc.length + f = 20 ∧ decG f n ++ acc.reverse = res ∧ A = ⟨[.c (.v (.int .u64 (n : Nat))), .o, .c (.v (.string ⟨#[]⟩)), .c (.h 0 0 acc.length), .o, .o, .o, .o, .o, .o, .o, .o, .o, .o, .o, .o, .o, .o, .o, .o, .o, .o, .o, .o, .o, .o, .o, .o, .o, .o, .o, .o, .o, .o, .o, .o, .o, .o, .o, .o, .o, .o, .o, .o, .o, .o, .o, .o, .o], some ⟨true, 1, acc.map byteRow⟩ :: T⟩) n0 (B := ⟨[.c (.v (.int .u64 (n0 : Nat))), .o, .c (.v (.string ⟨#[]⟩)), .c (.h 0 0 0), .o, .o, .o, .o, .o, .o, .o, .o, .o, .o, .o, .o, .o, .o, .o, .o, .o, .o, .o, .o, .o, .o, .o, .o, .o, .o, .o, .o, .o, .o, .o, .o, .o, .o, .o, .o, .o, .o, .o, .o, .o, .o, .o, .o, .o], some ⟨true, 1, []⟩ :: []⟩) ⟨by repeat (first | exact .nil | refine .same ?_ | refine .o ?_), rfl⟩ ⟨20, n0, [], [], rfl, hn0, hp20, rfl, by rw [List.reverse_nil, List.append_nil]; exact hres, rfl⟩ ?_
 rintro m A ⟨f, n, acc, T, hm, hn, hpf, hacc, hk, rfl⟩
 have hmd : ((n : Nat) : Int).tmod 10 = ((n % 10 : Nat) : Int) := rfl
 have hdv : ((n : Nat) : Int).tdiv 10 = ((n / 10 : Nat) : Int) := rfl
 have hdg := dig_int (n := n % 10) (by omega)
 have hdl := (dig (n % 10)).toNat_lt
 have hdn := fun (h : ¬ (9 : Int) < ((n : Nat) : Int)) => dig_int (n := n) (by omega)
 have hdl2 := (dig n).toNat_lt
 have ht0 : (acc.map byteRow).take acc.length = acc.map byteRow := List.take_of_length_le (by simp)
 have hne : ∀ k : Nat, (k + 1 != 0) = true := (by intro k; simp)
 have hz : (acc.length + 1) * 1 ≤ 140737488355328 := (by omega)
 have hbn := byte_nb acc
 have hlma : acc.length + 1 ≤ maxStr := (by unfold maxStr; omega)
 refine seq_in ?_
 refine Y3 ok0 rfl (by repeat first | with_reducible exact Y2 | refine Y1 (by simp only [Y5, Y4, Y6, qev, St.ev, St.put, qint, Yc, Ya, qbin, Y8, Y7, if_true, if_false, ZA]; rfl) ?_) ?_
 refine Yf rfl (fun a0 => ?_) (fun a0 => ?_)
 ·
  simp only [decide_eq_true_eq] at a0
  refine Ye ?_
  refine seq_in (tri_block ?_)
  refine Yk ok0 rfl (by repeat first | with_reducible exact Y2 | refine Y1 (by simp only [Y5, Y4, Y6, qev, St.ev, St.put, St.with, D.cells, qint, Yc, Ya, qbin, qconv, C.st, C.cp, C.dat, putCells, Y8, Y7, Nat.reduceMul, if_true, if_false, decide_true, ne_eq, reduceCtorEq, Nat.reduceLeDiff, Nat.le_refl, bne_self_eq_false, hmd, hdg, ht0, hne, hz, hbn, Int.reduceEq, last_get, buildSliceA, partsA, fillA, reps, chop, tkApp, appendA, srcRows, srcOther, D.kill, D.no, C.no, killH, Root.kill, a0, show IntKind.u64.wrap (↑(n % 10) : Int) = _ from wrap_u64 _ (by omega) (by omega), show IntKind.u64.wrap (↑(dig (n % 10)).toNat : Int) = _ from wrap_u64 _ (by omega) (by omega), tk5, tk37, show IntKind.u8.wrap (↑(dig (n % 10)).toNat : Int) = _ from wrap_u8 _ (by omega) (by omega), tk35, tz5, tsz5, bo5, ZA]; rfl) ?_) ?_
  show Tri _ _ _ _
  refine Yk ok0 rfl (by repeat first | with_reducible exact Y2 | refine Y1 (by simp only [Y5, Y4, Y6, qev, St.ev, St.put, qint, Yc, Ya, qbin, Y8, Y7, if_true, if_false, hdv, Int.reduceEq, show IntKind.u64.wrap (↑(n / 10) : Int) = _ from wrap_u64 _ (by omega) (by omega), ZA]; rfl) ?_) ?_
  simp only []
  (obtain ⟨g, rfl⟩ := pow_pos' hpf (by omega); rw [decG_big (by omega)] at hk; exact ⟨n / 10, by omega, ⟨[.c (.v (.int .u64 (n / 10 : Nat))), .o, .c (.v (.string ⟨#[]⟩)), .c (.h 0 0 (acc ++ [dig (n % 10)]).length), .o, .o, .o, .o, .o, .o, .o, .o, .o, .o, .o, .o, .o, .o, .o, .o, .o, .o, .o, .o, .o, .o, .o, .o, .o, .o, .o, .o, .o, .o, .o, .o, .o, .o, .o, .o, .o, .o, .o, .o, .o, .o, .o, .o, .o], some ⟨true, 1, (acc ++ [dig (n % 10)]).map byteRow⟩ :: _⟩, ⟨(by rw [show (acc ++ [dig (n % 10)]).length = acc.length + 1 from by simp]; repeat (first | exact .nil | refine .same ?_ | refine .o ?_)), (by rw [show (acc ++ [dig (n % 10)]).length = acc.length + 1 from by simp, show (acc ++ [dig (n % 10)]).map byteRow = acc.map byteRow ++ [byteRow (dig (n % 10))] from List.map_append]; rfl)⟩, g, n / 10, acc ++ [dig (n % 10)], _, rfl, by omega, div_pow hpf, (by rw [List.length_append, List.length_singleton]; omega), (by rw [List.reverse_append, List.reverse_singleton, ← List.append_assoc]; exact hk), rfl⟩)
 ·
  simp only [decide_eq_false_iff_not] at a0
  refine tri_exit ?_
  show Tri _ _ _ _
  refine Y3 ok0 rfl (by repeat first | with_reducible exact Y2 | refine Y1 (by simp only [Y5, Y4, Y6, qev, St.ev, St.put, St.with, D.cells, qint, Yc, Ya, qbin, qconv, C.st, C.cp, C.dat, putCells, Y8, Y7, Nat.reduceMul, if_true, if_false, decide_false, ne_eq, reduceCtorEq, Nat.reduceLeDiff, Nat.le_refl, bne_self_eq_false, hdn, ht0, hne, hz, hbn, last_get, buildSliceA, partsA, fillA, reps, chop, tkApp, appendA, srcRows, srcOther, D.kill, D.no, C.no, killH, Root.kill, a0, show IntKind.u64.wrap (↑(dig n).toNat : Int) = _ from wrap_u64 _ (by omega) (by omega), tk5, tk37, show IntKind.u8.wrap (↑(dig n).toNat : Int) = _ from wrap_u8 _ (by omega) (by omega), tk35, tz5, tsz5, bo5, ZA]; rfl) ?_) ?_
  refine seq_in ?_
  refine Y3 ok0 rfl (by repeat first | with_reducible exact Y2 | refine Y1 (by simp only [Y5, Y4, Y6, qev, St.ev, St.put, qint, Yc, Ya, qbin, qlen, qbuiltin, liveR, Y8, Y7, if_true, if_false, hlma, tk35, show IntKind.i64.wrap ((↑(acc.length + 1) : Int) - 1) = _ from wrap_i64 _ (by omega) (by omega), ZA]; rfl) ?_) ?_
  refine tri_block ?_
  obtain ⟨L, hL⟩ : ∃ L, acc ++ [dig n] = L := ⟨_, rfl⟩
  have hLr : L.reverse = res := (by rw [← hL, ← hk, decG_small (by omega)]; simp)
  have hLl : L.length = acc.length + 1 := (by rw [← hL]; simp)
  have hLm : acc.map byteRow ++ [[.v (.int .u8 (dig n).toNat)]] = (swp L 0).map byteRow := (by rw [swp_0, ← hL, List.map_append]; rfl)
  rw [hLm]
  rw [← hLl]
  have hLk : ((L.length : Nat) : Int) - 1 = ((L.length - 1 : Nat) : Int) := (by omega)
  rw [hLk]
  refine tri_loop_le (fun m2 A => ∃ (i k : Nat) (T2 : List (Option Root)), m2 = k ∧ k + i + 1 = L.length ∧ A = ⟨[.o, .o, .c (.v (.string ⟨#[]⟩)), .c (.h 0 0 L.length), .c (.v (.int .i64 (i : Nat))), .c (.v (.int .i64 (k : Nat))), .o, .o, .o, .o, .o, .o, .o, .o, .o, .o, .o, .o, .o, .o, .o, .o, .o, .o, .o, .o, .o, .o, .o, .o, .o, .o, .o, .o, .o, .o, .o, .o, .o, .o, .o, .o, .o, .o, .o, .o, .o, .o, .o], some ⟨true, 1, (swp L (i)).map byteRow⟩ :: T2⟩) (L.length - 1) (B := ⟨[.o, .o, .c (.v (.string ⟨#[]⟩)), .c (.h 0 0 L.length), .c (.v (.int .i64 (0 : Nat))), .c (.v (.int .i64 (L.length - 1 : Nat))), .o, .o, .o, .o, .o, .o, .o, .o, .o, .o, .o, .o, .o, .o, .o, .o, .o, .o, .o, .o, .o, .o, .o, .o, .o, .o, .o, .o, .o, .o, .o, .o, .o, .o, .o, .o, .o, .o, .o, .o, .o, .o, .o], some ⟨true, 1, (swp L (0)).map byteRow⟩ :: _⟩) ⟨by repeat (first | exact .nil | refine .same ?_ | refine .o ?_), rfl⟩ ⟨0, L.length - 1, _, rfl, by omega, rfl⟩ ?_
  rintro m2 A ⟨i, k, T2, hm2, hki, rfl⟩
  have hq1 : (i : Int) + 1 = ((i + 1 : Nat) : Int) := by omega
  have hq2 := fun (h : ((i : Nat) : Int) < ((k : Nat) : Int)) => (show (k : Int) - 1 = ((k - 1 : Nat) : Int) by omega)
  have hgk := fun (h : ((i : Nat) : Int) < ((k : Nat) : Int)) => (show ((swp L i).map byteRow)[k]? = some [.v (.int .u8 (L.getD k 0).toNat)] by rw [List.getElem?_map, swp_get (by omega), if_neg (by omega)]; rfl)
  have hgi := fun (h : ((i : Nat) : Int) < ((k : Nat) : Int)) => (show ((swp L i).map byteRow)[i]? = some [.v (.int .u8 (L.getD i 0).toNat)] by rw [List.getElem?_map, swp_get (by omega), if_neg (by omega)]; rfl)
  have hgk2 := fun (h : ((i : Nat) : Int) < ((k : Nat) : Int)) => (show (((swp L i).set i (L.getD k 0)).map byteRow)[k]? = some [.v (.int .u8 (L.getD k 0).toNat)] by rw [List.getElem?_map, List.getElem?_set_ne (by omega), swp_get (by omega), if_neg (by omega)]; rfl)
  have hst := fun (h : ((i : Nat) : Int) < ((k : Nat) : Int)) => swp_set hki (show i < k by omega)
  have hend := fun (h : ¬ ((i : Nat) : Int) < ((k : Nat) : Int)) => (show swp L i = L.reverse from swp_end (by omega))
  have htk : (L.reverse.map byteRow).take L.length = L.reverse.map byteRow := List.take_of_length_le (by simp)
  have hba := byte_all L.reverse
  have hbs := byte_str L.reverse
  have hbl : (L.reverse.map byteRow).length ≤ maxStr := (by unfold maxStr; simp; omega)
  have hLm2 : L.length ≤ maxStr := (by unfold maxStr; omega)
  have hswl := swp_len L i
  refine seq_in ?_
  refine Y3 ok0 rfl (by repeat first | with_reducible exact Y2 | refine Y1 (by simp only [Y5, Y4, Y6, qev, St.ev, St.put, qint, Yc, Ya, qbin, if_true, if_false, ZA]; rfl) ?_) ?_
  refine Yf rfl (fun a1 => ?_) (fun a1 => ?_)
  ·
   simp only [decide_eq_true_eq] at a1
   refine Ye ?_
   refine seq_in (tri_block ?_)
   refine any_endE mixed ok0 rfl (by kernel_rfl) ?_
   refine ⟨_, (by repeat first | with_reducible exact Y2 | refine Y1 (by simp only [Y5, Y4, Y6, qev, St.ev, St.put, D.cells, D.int, qload, Y9, qmk, C.cpy, TK.agg, qindexAddr, C.st, C.cp, C.dat, storeA, putCells, if_true, if_false, decide_true, forall_const, ne_eq, reduceCtorEq, Nat.le_refl, Int.toNat_natCast, Int.natCast_nonneg, hgk, hgi, hgk2, hst, byte_set, tk5, tk35, tsz5, a1, show ((↑k : Int) < (↑L.length : Int)) = True from eq_true (by omega), show ((↑i : Int) < (↑L.length : Int)) = True from eq_true (by omega), ZA]; rfl) ?_), ?_⟩
   show Tri _ _ _ _
   refine Yk ok0 rfl (by repeat first | with_reducible exact Y2 | refine Y1 (by simp only [Y5, Y4, Y6, qev, St.ev, St.put, qint, Yc, Ya, qbin, Y8, Y7, if_true, if_false, hq1, hq2, a1, show IntKind.i64.wrap (↑(i + 1) : Int) = _ from wrap_i64 _ (by omega) (by omega), show IntKind.i64.wrap (↑(k - 1) : Int) = _ from wrap_i64 _ (by omega) (by omega), ZA]; rfl) ?_) ?_
   simp only []
   (exact ⟨k - 1, by omega, ⟨[.o, .o, .c (.v (.string ⟨#[]⟩)), .c (.h 0 0 L.length), .c (.v (.int .i64 (i + 1 : Nat))), .c (.v (.int .i64 (k - 1 : Nat))), .o, .o, .o, .o, .o, .o, .o, .o, .o, .o, .o, .o, .o, .o, .o, .o, .o, .o, .o, .o, .o, .o, .o, .o, .o, .o, .o, .o, .o, .o, .o, .o, .o, .o, .o, .o, .o, .o, .o, .o, .o, .o, .o], some ⟨true, 1, (swp L (i + 1)).map byteRow⟩ :: _⟩, ⟨by repeat (first | exact .nil | refine .same ?_ | refine .o ?_), rfl⟩, i + 1, k - 1, _, rfl, by omega, rfl⟩)
  ·
   simp only [decide_eq_false_iff_not] at a1
   refine tri_exit ?_
   show Tri _ _ _ _
   refine Y3 ok0 rfl (by repeat first | with_reducible exact Y2 | refine Y1 (by simp only [Y5, Y4, Y6, qev, St.ev, St.put, qconv, if_true, decide_false, List.length_map, hend, htk, hba, hbs, hLm2, bytesStr, rowsOf, List.length_reverse, tk5, tk35, a1, tk9, ZA]; rfl) ?_) ?_
   refine Yo (Yp (by simp only [outRes, Yi, resD, outD, outC, C.dat, if_true, ZA]; rfl) rfl (by simp) (by simp) ?_)
   (rw [hLr]; with_reducible exact hQ)
set_option maxHeartbeats 2000000 in
theorem meets50 : Meets Try.prog 50 (pureS pCountB) := by
 refine Yn (show Try.prog.funcs[50]? = some Try.f50 by kernel_rfl) rfl (n := 17) rfl (rs := [ResultVar.tmp 2]) rfl ?_
 intro n0 hn0 Q hQ
 have hc0 : ((0 : Nat) : Int) = 0 := rfl
 have hres : decG 20 n0 = decL n0 := rfl
 generalize hr : decL n0 = res at hres
 unfold decB at hQ
 rw [hr] at hQ
 have hp20 := lt_pow20 hn0
 clear hr
 refine Y3 ok0 rfl (by repeat first | with_reducible exact Y2 | refine Y1 (by simp only [Y5, Y4, Y6, qev, St.ev, St.put, Y8, Y7, List.replicate, Nat.reduceSub, ZA]; rfl) ?_) ?_
 refine Y3 ok0 rfl (by repeat first | with_reducible exact Y2 | refine Y1 (by simp only [Y5, Y4, Y6, qev, St.ev, St.put, Y8, Y7, ZA]; rfl) ?_) ?_
 refine tri_block ?_
 have hl1 : (1 : Nat) ≤ maxStr := (by decide)
 refine tri_loop_le (fun m A => ∃ (f n : Nat) (acc : List UInt8) (T : List (Option Root)), m = n ∧ n < 18446744073709551616 ∧ n < 10 ^ f ∧ acc.length + f = 20 ∧ decG f n ++ acc = res ∧ A = ⟨[.c (.v (.int .u64 (n : Nat))), .o, .c (.v (.string ⟨#[]⟩)), .c (.v (.string ⟨(acc).toArray⟩)), .o, .o, .o, .o, .o, .o, .o, .o, .o, .o, .o, .o, .o], T⟩) n0 (B := ⟨[.c (.v (.int .u64 (n0 : Nat))), .o, .c (.v (.string ⟨#[]⟩)), .c (.v (.string ⟨([]).toArray⟩)), .o, .o, .o, .o, .o, .o, .o, .o, .o, .o, .o, .o, .o], []⟩) ⟨by repeat (first | exact .nil | refine .same ?_ | refine .o ?_), rfl⟩ ⟨20, n0, [], [], rfl, hn0, hp20, rfl, by rw [List.append_nil]; exact hres, rfl⟩ ?_
 rintro m A ⟨f, n, acc, T, hm, hn, hpf, hacc, hk, rfl⟩
 have hmd : ((n : Nat) : Int).tmod 10 = ((n % 10 : Nat) : Int) := rfl
 have hdv : ((n : Nat) : Int).tdiv 10 = ((n / 10 : Nat) : Int) := rfl
 have hdg := dig_int (n := n % 10) (by omega)
 have hdl := (dig (n % 10)).toNat_lt
 have hbb : ∀ x : UInt8, UInt8.ofNat (x.toNat : Int).toNat = x := (by intro x; have := x.toNat_lt; simp)
 have hA1 : (⟨#[dig (n % 10)]⟩ : ByteArray).size + (⟨acc.toArray⟩ : ByteArray).size ≤ maxStr := (by show 1 + acc.toArray.size ≤ maxStr; unfold maxStr; simp; omega)
 have hap : (⟨#[dig (n % 10)]⟩ : ByteArray) ++ ⟨acc.toArray⟩ = ⟨(dig (n % 10) :: acc).toArray⟩ := (by apply ByteArray.ext; rw [ByteArray.data_append]; simp)
 refine tri_block ?_
 refine Y3 ok0 rfl (by repeat first | with_reducible exact Y2 | refine Y1 (by simp only [Y5, Y4, Y6, qev, St.ev, St.put, St.with, D.cells, qint, Yc, qstr, Ya, qbin, qconv, C.st, C.dat, putCells, Y8, Y7, Nat.reduceMul, if_true, if_false, ne_eq, reduceCtorEq, Nat.reduceLeDiff, Nat.le_refl, Int.toNat_natCast, hl1, hmd, hdg, hA1, hap, Int.reduceEq, last_get, buildSliceA, partsA, fillA, reps, chop, bytesStr, rowsOf, isByteRow, rowByte, UInt8.ofNat_toNat, show IntKind.u64.wrap (↑(n % 10) : Int) = _ from wrap_u64 _ (by omega) (by omega), show IntKind.u64.wrap (↑(dig (n % 10)).toNat : Int) = _ from wrap_u64 _ (by omega) (by omega), tk5, tk37, show IntKind.u8.wrap (↑(dig (n % 10)).toNat : Int) = _ from wrap_u8 _ (by omega) (by omega), tk35, tz5, tsz5, tk9, ZA]; rfl) ?_) ?_
 refine Y3 ok0 rfl (by repeat first | with_reducible exact Y2 | refine Y1 (by simp only [Y5, Y4, Y6, qev, St.ev, St.put, qint, Yc, Ya, qbin, Y8, Y7, if_true, if_false, hdv, Int.reduceEq, show IntKind.u64.wrap (↑(n / 10) : Int) = _ from wrap_u64 _ (by omega) (by omega), ZA]; rfl) ?_) ?_
 refine Y3 ok0 rfl (by repeat first | with_reducible exact Y2 | refine Y1 (by simp only [Y5, Y4, Y6, qev, St.ev, St.put, qint, Yc, Ya, qbin, Y8, Y7, if_true, if_false, ZA]; rfl) ?_) ?_
 refine Yf rfl (fun b0 => ?_) (fun b0 => ?_)
 ·
  simp only [decide_eq_true_eq] at b0
  refine Y3 ok0 rfl (by repeat first | with_reducible exact Y2 | refine Y1 (by simp only [Y5, Y4, Y6, qev, St.ev, St.put, decide_true, b0, ZA]; rfl) ?_) ?_
  refine Yo (Yp (by simp only [outRes, Yi, resD, outD, outC, C.dat, if_true, ZA]; rfl) rfl (by simp) (by simp) ?_)
  (rw [decG_small (by omega), show n = n % 10 by omega] at hk; rw [show dig (n % 10) :: acc = res from hk]; with_reducible exact hQ)
 ·
  simp only [decide_eq_false_iff_not] at b0
  refine tri_skip ?_
  (obtain ⟨g, rfl⟩ := pow_pos' hpf (by omega); rw [decG_big (by omega)] at hk; exact ⟨n / 10, by omega, ⟨[.c (.v (.int .u64 (n / 10 : Nat))), .o, .c (.v (.string ⟨#[]⟩)), .c (.v (.string ⟨(dig (n % 10) :: acc).toArray⟩)), .o, .o, .o, .o, .o, .o, .o, .o, .o, .o, .o, .o, .o], _⟩, ⟨by repeat (first | exact .nil | refine .same ?_ | refine .o ?_), rfl⟩, g, n / 10, dig (n % 10) :: acc, _, rfl, by omega, div_pow hpf, (by rw [List.length_cons]; omega), (by rw [List.append_assoc] at hk; exact hk), rfl⟩)
def wholeB (n : Int) : ByteArray := if n < 0 then dash ++ decB (-n).toNat else decB n.toNat
theorem decB_size (n : Nat) : (decB n).size ≤ 21 := by
 have := decG_len 20 n
 show (decL n).toArray.size ≤ 21
 rw [List.size_toArray]; exact this
noncomputable def FsW1 : Fs := { Fs.none with pure := fun k => if k = 61 then some pCountB else if k = 50 then some pCountB else none }
theorem okW1 : FsOK Try.prog FsW1 := by
 refine ⟨fun k f h => ?_, fun _ _ h => (by cases h)⟩
 simp only [FsW1] at h
 split at h
 · rename_i hk; subst hk; cases h; exact ⟨by kernel_rfl, meets61⟩
 split at h
 · rename_i hk; subst hk; cases h; exact ⟨by kernel_rfl, meets50⟩
 · cases h
noncomputable def pWhole : List D → Option D := famP (fun n : Int => inR .i64 n = true) (fun n => [.c (.v (.int .i64 n))]) (fun n => .c (.v (.string (wholeB n))))
theorem whole_at (n : Int) (h : inR .i64 n = true) : pWhole [.c (.v (.int .i64 n))] = some (.c (.v (.string (wholeB n)))) := Ym (fun a b h => by
 simp only [List.cons.injEq, D.c.injEq, C.v.injEq, Value.int.injEq, and_true, true_and] at h
 subst h; rfl) n h rfl
theorem i64_rng {n : Int} (h : inR .i64 n = true) : -9223372036854775808 ≤ n ∧ n ≤ 9223372036854775807 := by
 simp only [inR, Bool.and_eq_true, decide_eq_true_eq] at h
 exact h
theorem meets37 : Meets Try.prog 37 (pureS pWhole) := by
 refine Yn (show Try.prog.funcs[37]? = some Try.f37 by kernel_rfl) rfl (n := 13) rfl (rs := [ResultVar.tmp 2]) rfl ?_
 intro n hn0 Q hQ
 obtain ⟨h1, h2⟩ := i64_rng hn0
 unfold wholeB at hQ
 by_cases hneg : n < 0
 · obtain ⟨k, hk, hk0⟩ : ∃ k : Nat, n = -(k : Int) ∧ 0 < k := ⟨(-n).toNat, by omega, by omega⟩
   subst hk
   rw [if_pos hneg, show (- -(k : Int)).toNat = k from by omega] at hQ
   have hC := countB_at k (by omega)
   have hw : IntKind.u64.wrap (-(k : Int)) = 18446744073709551616 - (k : Int) := by
    unfold IntKind.wrap
    simp [IntKind.bits, IntKind.signed]
    omega
   have hw2 : IntKind.u64.wrap (0 - (18446744073709551616 - (k : Int))) = (k : Int) := by
    unfold IntKind.wrap
    simp [IntKind.bits, IntKind.signed]
    omega
   have hA : (⟨#[45]⟩ : ByteArray).size + (decB k).size ≤ maxStr := by have := decB_size k; show 1 + (decB k).size ≤ maxStr; unfold maxStr; omega
   have hng : 0 - (-(k : Int) + 1) = ((k - 1 : Nat) : Int) := by omega
   have hng2 : ((k - 1 : Nat) : Int) + 1 = (k : Int) := by omega
   refine Y3 okW1 rfl (by repeat first | with_reducible exact Y2 | refine Y1 (by simp only [Y5, Y4, Y6, qev, St.ev, St.put, Y8, Y7, List.replicate, Nat.reduceSub, ZA]; rfl) ?_) ?_
   refine seq_in ?_
   refine Y3 okW1 rfl (by repeat first | with_reducible exact Y2 | refine Y1 (by simp only [Y5, Y4, Y6, qev, St.ev, St.put, qint, Yc, Ya, qbin, Y8, Y7, if_true, if_false, ZA]; rfl) ?_) ?_
   refine Yf rfl (fun a0 => ?_) (fun a0 => ?_)
   ·
    simp only [decide_eq_true_eq] at a0
    refine Y3 okW1 rfl (by repeat first | with_reducible exact Y2 | refine Y1 (by simp only [Y5, Y4, Y6, evsA, qev, St.ev, St.put, St.with, C.cpy, qstr, qbin, qun, qconv, C.cp, C.dat, Y8, Y7, Nat.reduceEqDiff, if_true, if_false, decide_true, Bool.or_true, callP, Fs.none, Yg, argD, argC, D.ni, D.ni1, C.ni, settle, settle1, settleC, FsW1, hC, hw, hw2, hA, a0, tk37, tk2, ZA]; rfl) ?_) ?_
    refine Yo (Yp (by simp only [outRes, Yi, resD, outD, outC, C.dat, if_true, ZA]; rfl) rfl (by simp) (by simp) ?_)
    (simp only [dash] at hQ; with_reducible exact hQ)
   ·
    simp only [decide_eq_false_iff_not] at a0
    (exfalso; omega)
 · obtain ⟨k, hk⟩ : ∃ k : Nat, n = (k : Int) := ⟨n.toNat, by omega⟩
   subst hk
   rw [if_neg hneg, Int.toNat_natCast] at hQ
   have hC := countB_at k (by omega)
   refine Y3 okW1 rfl (by repeat first | with_reducible exact Y2 | refine Y1 (by simp only [Y5, Y4, Y6, qev, St.ev, St.put, Y8, Y7, List.replicate, Nat.reduceSub, ZA]; rfl) ?_) ?_
   refine seq_in ?_
   refine Y3 okW1 rfl (by repeat first | with_reducible exact Y2 | refine Y1 (by simp only [Y5, Y4, Y6, qev, St.ev, St.put, qint, Yc, Ya, qbin, Y8, Y7, if_true, if_false, ZA]; rfl) ?_) ?_
   refine Yf (b := false) rfl (fun h => by cases h) (fun _ => ?_)
   refine Ye ?_
   refine Y3 okW1 rfl (by repeat first | with_reducible exact Y2 | refine Y1 (by simp only [Y5, Y4, Y6, evsA, qev, St.ev, St.put, St.with, C.cpy, qconv, C.cp, C.dat, Nat.reduceEqDiff, if_true, if_false, Bool.or_true, callP, Fs.none, Yg, argD, argC, D.ni, D.ni1, C.ni, settle, settle1, settleC, FsW1, hC, tk37, tk2, show IntKind.u64.wrap (↑k : Int) = _ from wrap_u64 _ (by omega) (by omega), ZA]; rfl) ?_) ?_
   refine Yo (Yp (by simp only [outRes, Yi, resD, outD, outC, C.dat, if_true, ZA]; rfl) rfl (by simp) (by simp) ?_)
   with_reducible exact hQ
theorem meets38 : Meets Try.prog 38 (pureS pWhole) := by
 refine Yn (show Try.prog.funcs[38]? = some Try.f38 by kernel_rfl) rfl (n := 15) rfl (rs := [ResultVar.tmp 2]) rfl ?_
 intro n hn0 Q hQ
 obtain ⟨h1, h2⟩ := i64_rng hn0
 unfold wholeB at hQ
 by_cases hneg : n < 0
 · obtain ⟨k, hk, hk0⟩ : ∃ k : Nat, n = -(k : Int) ∧ 0 < k := ⟨(-n).toNat, by omega, by omega⟩
   subst hk
   rw [if_pos hneg, show (- -(k : Int)).toNat = k from by omega] at hQ
   have hC := countB_at k (by omega)
   have hw : IntKind.u64.wrap (-(k : Int)) = 18446744073709551616 - (k : Int) := by
    unfold IntKind.wrap
    simp [IntKind.bits, IntKind.signed]
    omega
   have hw2 : IntKind.u64.wrap (0 - (18446744073709551616 - (k : Int))) = (k : Int) := by
    unfold IntKind.wrap
    simp [IntKind.bits, IntKind.signed]
    omega
   have hA : (⟨#[45]⟩ : ByteArray).size + (decB k).size ≤ maxStr := by have := decB_size k; show 1 + (decB k).size ≤ maxStr; unfold maxStr; omega
   have hng : 0 - (-(k : Int) + 1) = ((k - 1 : Nat) : Int) := by omega
   have hng2 : ((k - 1 : Nat) : Int) + 1 = (k : Int) := by omega
   refine Y3 okW1 rfl (by repeat first | with_reducible exact Y2 | refine Y1 (by simp only [Y5, Y4, Y6, qev, St.ev, St.put, Y8, Y7, List.replicate, Nat.reduceSub, ZA]; rfl) ?_) ?_
   refine seq_in ?_
   refine Y3 okW1 rfl (by repeat first | with_reducible exact Y2 | refine Y1 (by simp only [Y5, Y4, Y6, qev, St.ev, St.put, qint, Yc, Ya, qbin, Y8, Y7, if_true, if_false, ZA]; rfl) ?_) ?_
   refine Yf rfl (fun a0 => ?_) (fun a0 => ?_)
   ·
    simp only [decide_eq_true_eq] at a0
    (exfalso; omega)
   ·
    simp only [decide_eq_false_iff_not] at a0
    refine Ye ?_
    refine Y3 okW1 rfl (by repeat first | with_reducible exact Y2 | refine Y1 (by simp only [Y5, Y4, Y6, evsA, qev, St.ev, St.put, St.with, C.cpy, qint, Yc, qstr, Ya, qbin, qun, qconv, C.cp, C.dat, Y8, Y7, Nat.reduceEqDiff, if_true, if_false, decide_false, Bool.or_true, callP, Fs.none, Yg, argD, argC, D.ni, D.ni1, C.ni, settle, settle1, settleC, FsW1, hC, hA, hng, hng2, a0, show IntKind.i64.wrap (-(↑k : Int) + 1) = _ from wrap_i64 _ (by omega) (by omega), show IntKind.i64.wrap (↑(k - 1) : Int) = _ from wrap_i64 _ (by omega) (by omega), tk37, tk2, show IntKind.u64.wrap (↑(k - 1) : Int) = _ from wrap_u64 _ (by omega) (by omega), show IntKind.u64.wrap (↑k : Int) = _ from wrap_u64 _ (by omega) (by omega), ZA]; rfl) ?_) ?_
    refine Yo (Yp (by simp only [outRes, Yi, resD, outD, outC, C.dat, if_true, ZA]; rfl) rfl (by simp) (by simp) ?_)
    (simp only [dash] at hQ; with_reducible exact hQ)
 · obtain ⟨k, hk⟩ : ∃ k : Nat, n = (k : Int) := ⟨n.toNat, by omega⟩
   subst hk
   rw [if_neg hneg, Int.toNat_natCast] at hQ
   have hC := countB_at k (by omega)
   refine Y3 okW1 rfl (by repeat first | with_reducible exact Y2 | refine Y1 (by simp only [Y5, Y4, Y6, qev, St.ev, St.put, Y8, Y7, List.replicate, Nat.reduceSub, ZA]; rfl) ?_) ?_
   refine seq_in ?_
   refine Y3 okW1 rfl (by repeat first | with_reducible exact Y2 | refine Y1 (by simp only [Y5, Y4, Y6, qev, St.ev, St.put, qint, Yc, Ya, qbin, Y8, Y7, if_true, if_false, ZA]; rfl) ?_) ?_
   refine Yf (b := true) rfl (fun _ => ?_) (fun h => by cases h)
   refine Y3 okW1 rfl (by repeat first | with_reducible exact Y2 | refine Y1 (by simp only [Y5, Y4, Y6, evsA, qev, St.ev, St.put, St.with, C.cpy, qconv, C.cp, C.dat, Nat.reduceEqDiff, if_true, if_false, Bool.or_true, callP, Fs.none, Yg, argD, argC, D.ni, D.ni1, C.ni, settle, settle1, settleC, FsW1, hC, tk37, tk2, show IntKind.u64.wrap (↑k : Int) = _ from wrap_u64 _ (by omega) (by omega), ZA]; rfl) ?_) ?_
   refine Yo (Yp (by simp only [outRes, Yi, resD, outD, outC, C.dat, if_true, ZA]; rfl) rfl (by simp) (by simp) ?_)
   with_reducible exact hQ
end Go.Dl
