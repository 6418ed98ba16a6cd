/- The walks of a text's quote: the program's and the reference's; Plain law: a text's quote is one token, with this text; The walk of SayQuotes. -/
import Derived.Test.YtbefgbljlmnfoaaC24
import Derived.Test.YtbefgbljlmnfoaaC28
namespace Go.Dl
open Go.RowKit
open Go.Proofs
set_option linter.unusedSimpArgs false
set_option linter.unusedVariables false

def hexD (n : Nat) : UInt8 := hexT.data.toList.getD n 0
/-- A byte as it stands in a quote. -/
def encB (x : UInt8) : List UInt8 := if isPlain x.toNat = true then [x] else [92, 120, hexD (x.toNat / 16), hexD (x.toNat % 16)]
def qAcc (s : ByteArray) (i : Nat) : List UInt8 := 34 :: (s.data.toList.take i).flatMap encB
def quotedF (s : ByteArray) : ByteArray := ⟨(qAcc s s.size ++ [34]).toArray⟩
theorem encB_len (x : UInt8) : (encB x).length ≤ 4 := by unfold encB; split <;> simp
theorem flat_len : ∀ l : List UInt8, (l.flatMap encB).length ≤ 4 * l.length
  | [] => Nat.le_refl 0
  | x :: l => by
    have := flat_len l
    have := encB_len x
    rw [List.flatMap_cons, List.length_append, List.length_cons]; omega
theorem qAcc_len (s : ByteArray) (i : Nat) : (qAcc s i).length ≤ 4 * i + 1 := by
  have := flat_len (s.data.toList.take i)
  have h2 : (s.data.toList.take i).length ≤ i := List.length_take_le _ _
  unfold qAcc
  rw [List.length_cons]; omega
theorem qAcc_succ {s : ByteArray} {i : Nat} (h : i < s.size) : qAcc s (i + 1) = qAcc s i ++ encB (byU s i) := by
  have h' : i < s.data.toList.length := by simpa using h
  have hb : byU s i = s.data.toList[i] := by unfold byU; rw [List.getD_eq_getElem?_getD, List.getElem?_eq_getElem h', Option.getD_some]
  unfold qAcc
  rw [List.take_succ_eq_append_getElem h', List.flatMap_append, List.flatMap_singleton, hb, List.cons_append]
theorem qAcc_plain {s : ByteArray} {i : Nat} (h : i < s.size) (hp : isPlain (byU s i).toNat = true) : qAcc s i ++ [byU s i] = qAcc s (i + 1) := by
  rw [qAcc_succ h, encB, if_pos hp]
theorem qAcc_esc {s : ByteArray} {i : Nat} (h : i < s.size) (hp : isPlain (byU s i).toNat = false) : qAcc s i ++ [92, 120] ++ [hexD ((byU s i).toNat / 16)] ++ [hexD ((byU s i).toNat % 16)] = qAcc s (i + 1) := by
  rw [qAcc_succ h, encB, if_neg (by rw [hp]; simp)]; simp
theorem tab_hi : ∀ n : Fin 256, IntKind.u8.wrap (((n.val : Nat) : Int).fdiv (2 ^ min 4 IntKind.u8.bits)) = ((n.val / 16 : Nat) : Int) := by decide +kernel
theorem tab_lo : ∀ n : Fin 256, IntKind.u8.wrap ((BitVec.ofInt IntKind.u8.bits ((n.val : Nat) : Int) &&& BitVec.ofInt IntKind.u8.bits 15).toNat) = ((n.val % 16 : Nat) : Int) := by decide +kernel
theorem tab_dv : ∀ n : Fin 256, IntKind.i64.wrap (((n.val : Nat) : Int).tdiv 16) = ((n.val / 16 : Nat) : Int) := by decide +kernel
theorem tab_md : ∀ n : Fin 256, IntKind.i64.wrap (((n.val : Nat) : Int).tmod 16) = ((n.val % 16 : Nat) : Int) := by decide +kernel

noncomputable def FsU1 : Fs := { pure := fun k => if k = 33 then some (pU8 isPlain) else none, objs := fun k => if k = 32 then some oWB else if k = 34 then some oWS else if k = 35 then some oStr else none }
theorem okU1 : FsOK Try.prog FsU1 := by
  refine ⟨fun k f h => ?_, fun k f h => ?_⟩
  · simp only [FsU1] at h
    split at h
    · rename_i hk; subst hk; cases h; exact ⟨by kernel_rfl, meets33⟩
    · cases h
  · simp only [FsU1] at h
    split at h
    · rename_i hk; subst hk; cases h; exact ⟨by kernel_rfl, meets32⟩
    split at h
    · rename_i hk; subst hk; cases h; exact ⟨by kernel_rfl, meets34⟩
    split at h
    · rename_i hk; subst hk; cases h; exact ⟨by kernel_rfl, meets35⟩
    · cases h
noncomputable def pQuoted : List D → Option D := famP (fun s : ByteArray => s.size ≤ 1000000) (fun s => [.c (.v (.string s))]) (fun s => .c (.v (.string (quotedF s))))
theorem str_inj {β : Type} {f : ByteArray → β} (a b : ByteArray) (h : ([.c (.v (.string a))] : List D) = [.c (.v (.string b))]) : f a = f b := by
  simp only [List.cons.injEq, D.c.injEq, C.v.injEq, Value.string.injEq, and_true] at h
  subst h; rfl
theorem quoted_at (s : ByteArray) (hs : s.size ≤ 1000000) : pQuoted [.c (.v (.string s))] = some (.c (.v (.string (quotedF s)))) := famP_at (fun a b h => str_inj a b h) s hs rfl
set_option maxHeartbeats 2000000 in
theorem meets14 : Meets Try.prog 14 (pureS pQuoted) := by
  refine meets_famP (show Try.prog.funcs[14]? = some Try.f14 by kernel_rfl) rfl (n := 31) rfl (rs := [ResultVar.tmp 2]) rfl ?_
  intro s hs Q hQ
  have hsm : s.size ≤ maxStr := by unfold maxStr; omega
  have hc0 : ((0 : Nat) : Int) = 0 := rfl
  have hW34 : oWB [.c (.p 0 0 0), .c (.v (.int .u8 34))] [⟨2, [[.b 69, .u 5 []]]⟩] = some (.c (.v .nilIface), [⟨2, [[.b 69, .u 5 [34]]]⟩]) := wb_at [] 34 (by decide)
  refine seq_run ok0 rfl (by repeat (first | with_reducible exact runf_nil | refine runf_cons (by simp only [xstep, stepf, stepx, qev, St.ev, St.put, constD, constC, List.set_cons_zero, List.set_cons_succ, List.replicate, List.length_cons, List.length_nil, List.cons_append, List.nil_append, Option.map_some, Nat.reduceSub, Option.some.injEq, Nat.zero_add]; rfl) ?_)) ?_
  refine seq_runR ?_
  refine rr_bld 5 rfl rfl Try.zeroValue69 (rr_nil ?_)
  refine seq_run okU1 rfl (by repeat (first | with_reducible exact runf_nil | refine runf_cons (by simp only [xstep, stepf, evsA, St.ev, St.put, St.with, D.cell, C.cpy, C.cp, C.dat, constD, constC, List.getElem?_cons_zero, List.getElem?_cons_succ, List.set_cons_zero, List.set_cons_succ, List.length_cons, List.length_nil, List.nil_append, List.append_nil, List.map_nil, List.all_cons, List.all_nil, Option.bind_some, Option.map_some, Bool.and_true, Nat.reduceEqDiff, if_true, if_false, and_self, Option.some.injEq, Bool.false_eq_true, Nat.zero_add, beq_self_eq_true, Bool.and_self, Bool.true_or, callP, callO, dedup, rootsD, rootsC, List.flatMap_cons, List.flatMap_nil, List.filterMap_cons, List.filterMap_nil, argDs, argD, argC, List.contains_nil, objsAt, objOf, List.idxOf?, List.findIdx?, List.findIdx?.go, setObjs, settle, settle1, settleC, List.isEmpty_nil, FsU1, hW34]; rfl) ?_)) ?_
  refine seq_in ?_
  refine seq_run okU1 rfl (by repeat (first | with_reducible exact runf_nil | refine runf_cons (by simp only [xstep, stepf, stepx, qev, St.ev, St.put, qlen, qbuiltin, constD, constC, List.getElem?_cons_zero, List.getElem?_cons_succ, List.set_cons_zero, List.set_cons_succ, Option.bind_some, Option.map_some, Option.some.injEq, tk9]; rfl) ?_)) ?_
  refine tri_block ?_
  refine tri_loop_le (fun m A => ∃ i : Nat, m = s.size - i ∧ i ≤ s.size ∧ A = ⟨[.c (.v (.string s)), .top, .c (.v (.string ⟨#[]⟩)), .c (.p 0 0 0), .top, .top, .top, .top, .c (.v (.int .i64 (s.size : Nat))), .c (.v (.int .i64 (i : Nat))), .top, .top, .top, .top, .top, .top, .top, .top, .top, .top, .top, .top, .top, .top, .top, .top, .top, .top, .top, .top, .top], [some ⟨false, 2, [[.b 69, .u 5 (qAcc s i)]]⟩]⟩) s.size (B := ⟨[.c (.v (.string s)), .top, .c (.v (.string ⟨#[]⟩)), .c (.p 0 0 0), .top, .top, .top, .top, .c (.v (.int .i64 (s.size : Nat))), .c (.v (.int .i64 (0 : Nat))), .top, .top, .top, .top, .top, .top, .top, .top, .top, .top, .top, .top, .top, .top, .top, .top, .top, .top, .top, .top, .top], [some ⟨false, 2, [[.b 69, .u 5 (qAcc s 0)]]⟩]⟩) ⟨by repeat (first | exact .nil | refine .same ?_ | refine .top ?_), rfl⟩ ⟨0, rfl, Nat.zero_le _, rfl⟩ ?_
  rintro m A ⟨i, hm, hi, rfl⟩
  have hq1 : (i : Int) + 1 = ((i + 1 : Nat) : Int) := by omega
  have hb : ∀ j, s.data.toList.getD j 0 = byU s j := fun _ => rfl
  have hql := qAcc_len s i
  have hbl := (byU s i).toNat_lt
  have hW1 := wb_at (qAcc s i) (byU s i) (by omega)
  have hS1 : oWS [.c (.p 0 0 0), .c (.v (.string ⟨#[92, 120]⟩))] [⟨2, [[.b 69, .u 5 (qAcc s i)]]⟩] = some (.t [.c (.v (.int .i64 2)), .c (.v .nilIface)], [⟨2, [[.b 69, .u 5 (qAcc s i ++ [92, 120])]]⟩]) := ws_at (qAcc s i) ⟨#[92, 120]⟩ (by show (qAcc s i).length + 2 ≤ _; omega)
  have hW2 := wb_at (qAcc s i ++ [92, 120]) (hexD ((byU s i).toNat / 16)) (by rw [List.length_append]; show (qAcc s i).length + 2 + 1 ≤ _; omega)
  have hW3 := wb_at (qAcc s i ++ [92, 120] ++ [hexD ((byU s i).toNat / 16)]) (hexD ((byU s i).toNat % 16)) (by rw [List.length_append, List.length_append]; show (qAcc s i).length + 2 + 1 + 1 ≤ _; omega)
  have hHi : IntKind.u8.wrap (((byU s i).toNat : Int).fdiv (2 ^ min 4 IntKind.u8.bits)) = (((byU s i).toNat / 16 : Nat) : Int) := tab_hi ⟨(byU s i).toNat, hbl⟩
  have hLo : IntKind.u8.wrap ((BitVec.ofInt IntKind.u8.bits ((byU s i).toNat : Int) &&& BitVec.ofInt IntKind.u8.bits 15).toNat) = (((byU s i).toNat % 16 : Nat) : Int) := tab_lo ⟨(byU s i).toNat, hbl⟩
  have hz16 : (⟨#[48, 49, 50, 51, 52, 53, 54, 55, 56, 57, 97, 98, 99, 100, 101, 102]⟩ : ByteArray).size = 16 := rfl
  have hl1 : (((byU s i).toNat / 16 : Nat) : Int) < ((16 : Nat) : Int) := (by omega)
  have hl2 : (((byU s i).toNat % 16 : Nat) : Int) < ((16 : Nat) : Int) := (by omega)
  have hg1 : ∀ n : Nat, ([48, 49, 50, 51, 52, 53, 54, 55, 56, 57, 97, 98, 99, 100, 101, 102] : List UInt8).getD n 0 = hexD n := fun _ => rfl
  have hg2 : ∀ n : Nat, (⟨#[48, 49, 50, 51, 52, 53, 54, 55, 56, 57, 97, 98, 99, 100, 101, 102]⟩ : ByteArray).data.toList.getD n 0 = hexD n := fun _ => rfl
  have hWe : oWB [.c (.p 0 0 0), .c (.v (.int .u8 34))] [⟨2, [[.b 69, .u 5 (qAcc s i)]]⟩] = some (.c (.v .nilIface), [⟨2, [[.b 69, .u 5 (qAcc s i ++ [34])]]⟩]) := wb_at (qAcc s i) 34 (by omega)
  have hSt := str_at (qAcc s i ++ [34]) (by rw [List.length_append]; show (qAcc s i).length + 1 ≤ _; omega)
  refine seq_run okU1 rfl (by repeat (first | with_reducible exact runf_nil | refine runf_cons (by simp only [xstep, stepf, stepx, qev, St.ev, St.put, qint, qshift, isShift, qbin, List.getElem?_cons_zero, List.getElem?_cons_succ, List.set_cons_zero, List.set_cons_succ, Option.map_some, Option.map_none, if_true, if_false, Option.some.injEq, Bool.false_eq_true]; rfl) ?_)) ?_
  refine seq_in (tri_cond rfl (fun a0 => ?_) (fun a0 => ?_))
  ·
    simp only [decide_eq_true_eq] at a0
    refine then_skip ?_
    refine seq_in (tri_block ?_)
    refine seq_run okU1 rfl (by repeat (first | with_reducible exact runf_nil | refine runf_cons (by simp only [xstep, stepf, stepx, qev, St.ev, St.put, List.getElem?_cons_zero, List.getElem?_cons_succ, List.set_cons_zero, List.set_cons_succ, Option.map_some, decide_true, Option.some.injEq, a0]; rfl) ?_)) ?_
    refine seq_run okU1 rfl (by repeat (first | with_reducible exact runf_nil | refine runf_cons (by simp only [xstep, stepf, stepx, qev, St.ev, St.put, D.int, qindex, List.getElem?_cons_zero, List.getElem?_cons_succ, List.set_cons_zero, List.set_cons_succ, Option.bind_some, Option.map_some, if_true, and_self, Option.some.injEq, Int.toNat_natCast, Int.natCast_nonneg, hb, tk9, a0]; rfl) ?_)) ?_
    refine seq_in ?_
    refine seq_run okU1 rfl (by repeat (first | with_reducible exact runf_nil | refine runf_cons (by simp only [xstep, stepf, stepx, evsA, qev, St.ev, St.put, St.with, C.cpy, C.cp, C.dat, List.getElem?_cons_zero, List.getElem?_cons_succ, List.set_cons_zero, List.set_cons_succ, List.append_nil, List.map_nil, Option.map_some, if_true, Option.some.injEq, Bool.and_self, Bool.true_or, callP, argDs, argD, argC, settle, settle1, settleC, List.isEmpty_nil, dB, FsU1, plain_at]; rfl) ?_)) ?_
    refine tri_cond rfl (fun a1 => ?_) (fun a1 => ?_)
    ·
      refine seq_run okU1 rfl (by repeat (first | with_reducible exact runf_nil | refine runf_cons (by simp only [xstep, stepf, stepx, evsA, qev, St.ev, St.put, St.with, D.cell, C.cpy, C.cp, C.dat, List.getElem?_cons_zero, List.getElem?_cons_succ, List.set_cons_zero, List.set_cons_succ, List.length_cons, List.length_nil, List.nil_append, List.append_nil, List.map_nil, List.all_cons, List.all_nil, Option.bind_some, Option.map_some, Bool.and_true, Nat.reduceEqDiff, if_true, if_false, and_self, Option.some.injEq, Bool.false_eq_true, Nat.zero_add, beq_self_eq_true, Bool.and_self, Bool.true_or, callP, callO, dedup, rootsD, rootsC, List.flatMap_cons, List.flatMap_nil, List.filterMap_cons, List.filterMap_nil, argDs, argD, argC, List.contains_nil, objsAt, objOf, List.idxOf?, List.findIdx?, List.findIdx?.go, setObjs, settle, settle1, settleC, List.isEmpty_nil, FsU1, hW1, a1]; rfl) ?_)) ?_
      refine tri_exit ?_
      show Tri _ _ _ _
      refine run_end okU1 rfl (by repeat (first | with_reducible exact runf_nil | refine runf_cons (by simp only [xstep, stepf, stepx, qev, St.ev, St.put, qint, qshift, isShift, qbin, constD, constC, List.getElem?_cons_zero, List.getElem?_cons_succ, List.set_cons_zero, List.set_cons_succ, Option.map_some, Option.map_none, if_true, if_false, Option.some.injEq, Bool.false_eq_true, hq1, show IntKind.i64.wrap (↑(i + 1) : Int) = _ from wrap_i64 _ (by omega) (by omega)]; rfl) ?_)) ?_
      (exact ⟨s.size - (i + 1), by omega, ⟨[.c (.v (.string s)), .top, .c (.v (.string ⟨#[]⟩)), .c (.p 0 0 0), .top, .top, .top, .top, .c (.v (.int .i64 (s.size : Nat))), .c (.v (.int .i64 (i + 1 : Nat))), .top, .top, .top, .top, .top, .top, .top, .top, .top, .top, .top, .top, .top, .top, .top, .top, .top, .top, .top, .top, .top], [some ⟨false, 2, [[.b 69, .u 5 (qAcc s (i + 1))]]⟩]⟩, ⟨by repeat (first | exact .nil | refine .same ?_ | refine .top ?_), (by rw [← qAcc_plain (by omega) (by assumption)]; try rfl)⟩, i + 1, rfl, by omega, rfl⟩)
    ·
      refine then_skip ?_
      refine seq_run okU1 rfl (by repeat (first | with_reducible exact runf_nil | refine runf_cons (by simp only [xstep, stepf, evsA, St.ev, St.put, St.with, D.cell, C.cpy, C.cp, C.dat, constD, constC, List.getElem?_cons_zero, List.getElem?_cons_succ, List.set_cons_zero, List.set_cons_succ, List.length_cons, List.length_nil, List.nil_append, List.append_nil, List.map_nil, List.all_cons, List.all_nil, Option.bind_some, Option.map_some, Bool.and_true, Nat.reduceEqDiff, if_true, if_false, and_self, Option.some.injEq, Bool.false_eq_true, Nat.zero_add, beq_self_eq_true, Bool.and_self, Bool.true_or, callP, callO, dedup, rootsD, rootsC, List.flatMap_cons, List.flatMap_nil, List.filterMap_cons, List.filterMap_nil, argDs, argD, argC, List.contains_nil, objsAt, objOf, List.idxOf?, List.findIdx?, List.findIdx?.go, setObjs, settle, settle1, settleC, settleDs, List.isEmpty_nil, FsU1, hS1, a1]; rfl) ?_)) ?_
      refine seq_run okU1 rfl (by repeat (first | with_reducible exact runf_nil | refine runf_cons (by simp only [xstep, stepf, stepx, evsA, qev, St.ev, St.put, St.with, D.cell, D.int, C.cpy, qindex, qint, qshift, isShift, qbin, C.cp, C.dat, constD, constC, List.getElem?_cons_zero, List.getElem?_cons_succ, List.set_cons_zero, List.set_cons_succ, List.length_cons, List.length_nil, List.nil_append, List.append_nil, List.map_nil, List.all_cons, List.all_nil, Option.bind_some, Option.map_some, Option.map_none, Bool.and_true, Nat.reduceEqDiff, if_true, if_false, and_self, Option.some.injEq, reduceCtorEq, Int.reduceLT, Int.reduceToNat, Bool.false_eq_true, Nat.zero_add, beq_self_eq_true, Bool.and_self, Bool.true_or, callP, callO, dedup, rootsD, rootsC, List.flatMap_cons, List.flatMap_nil, List.filterMap_cons, List.filterMap_nil, argDs, argD, argC, List.contains_nil, objsAt, objOf, List.idxOf?, List.findIdx?, List.findIdx?.go, setObjs, settle, settle1, settleC, List.isEmpty_nil, FsU1, Int.toNat_natCast, Int.natCast_nonneg, hW2, hHi, hz16, hl1, hg1, tk9]; rfl) ?_)) ?_
      refine run_end okU1 rfl (by repeat (first | with_reducible exact runf_nil | refine runf_cons (by simp only [xstep, stepf, stepx, evsA, qev, St.ev, St.put, St.with, D.cell, D.int, C.cpy, qindex, qint, qshift, isShift, qbin, C.cp, C.dat, constD, constC, List.getElem?_cons_zero, List.getElem?_cons_succ, List.set_cons_zero, List.set_cons_succ, List.length_cons, List.length_nil, List.nil_append, List.append_nil, List.map_nil, List.all_cons, List.all_nil, Option.bind_some, Option.map_some, Option.map_none, Bool.and_true, Nat.reduceEqDiff, if_true, if_false, and_self, Option.some.injEq, Bool.false_eq_true, Nat.zero_add, beq_self_eq_true, Bool.and_self, Bool.true_or, callP, callO, dedup, rootsD, rootsC, List.flatMap_cons, List.flatMap_nil, List.filterMap_cons, List.filterMap_nil, argDs, argD, argC, List.contains_nil, objsAt, objOf, List.idxOf?, List.findIdx?, List.findIdx?.go, setObjs, settle, settle1, settleC, List.isEmpty_nil, FsU1, Int.toNat_natCast, Int.natCast_nonneg, hW3, hLo, hz16, hl2, hg1, tk9]; rfl) ?_)) ?_
      show Tri _ _ _ _
      refine run_end okU1 rfl (by repeat (first | with_reducible exact runf_nil | refine runf_cons (by simp only [xstep, stepf, stepx, qev, St.ev, St.put, qint, qshift, isShift, qbin, constD, constC, List.getElem?_cons_zero, List.getElem?_cons_succ, List.set_cons_zero, List.set_cons_succ, Option.map_some, Option.map_none, if_true, if_false, Option.some.injEq, Bool.false_eq_true, hq1, show IntKind.i64.wrap (↑(i + 1) : Int) = _ from wrap_i64 _ (by omega) (by omega)]; rfl) ?_)) ?_
      (exact ⟨s.size - (i + 1), by omega, ⟨[.c (.v (.string s)), .top, .c (.v (.string ⟨#[]⟩)), .c (.p 0 0 0), .top, .top, .top, .top, .c (.v (.int .i64 (s.size : Nat))), .c (.v (.int .i64 (i + 1 : Nat))), .top, .top, .top, .top, .top, .top, .top, .top, .top, .top, .top, .top, .top, .top, .top, .top, .top, .top, .top, .top, .top], [some ⟨false, 2, [[.b 69, .u 5 (qAcc s (i + 1))]]⟩]⟩, ⟨by repeat (first | exact .nil | refine .same ?_ | refine .top ?_), (by rw [← qAcc_esc (by omega) (by first | assumption | exact Bool.eq_false_iff.2 (by assumption))]; try rfl)⟩, i + 1, rfl, by omega, rfl⟩)
  ·
    simp only [decide_eq_false_iff_not] at a0
    refine tri_exit ?_
    show Tri _ _ _ _
    refine seq_run okU1 rfl (by repeat (first | with_reducible exact runf_nil | refine runf_cons (by simp only [xstep, stepf, evsA, St.ev, St.put, St.with, D.cell, C.cpy, C.cp, C.dat, constD, constC, List.getElem?_cons_zero, List.getElem?_cons_succ, List.set_cons_zero, List.set_cons_succ, List.length_cons, List.length_nil, List.nil_append, List.append_nil, List.map_nil, List.all_cons, List.all_nil, Option.bind_some, Option.map_some, Bool.and_true, Nat.reduceEqDiff, if_true, if_false, and_self, decide_false, Option.some.injEq, Bool.false_eq_true, Nat.zero_add, beq_self_eq_true, Bool.and_self, Bool.true_or, callP, callO, dedup, rootsD, rootsC, List.flatMap_cons, List.flatMap_nil, List.filterMap_cons, List.filterMap_nil, argDs, argD, argC, List.contains_nil, objsAt, objOf, List.idxOf?, List.findIdx?, List.findIdx?.go, setObjs, settle, settle1, settleC, List.isEmpty_nil, FsU1, hWe, a0]; rfl) ?_)) ?_
    refine seq_run okU1 rfl (by repeat (first | with_reducible exact runf_nil | refine runf_cons (by simp only [xstep, stepf, stepx, evsA, qev, St.ev, St.put, St.with, D.cell, C.dat, List.getElem?_cons_zero, List.getElem?_cons_succ, List.set_cons_zero, List.set_cons_succ, List.length_cons, List.length_nil, List.nil_append, List.append_nil, List.map_nil, List.all_cons, List.all_nil, Option.bind_some, Option.map_some, Bool.and_true, Nat.reduceEqDiff, if_true, if_false, and_self, Option.some.injEq, Bool.false_eq_true, Nat.zero_add, beq_self_eq_true, Bool.and_self, Bool.true_or, callP, callO, dedup, rootsD, rootsC, List.flatMap_cons, List.flatMap_nil, List.filterMap_cons, List.filterMap_nil, argDs, argD, argC, List.contains_nil, objsAt, objOf, List.idxOf?, List.findIdx?, List.findIdx?.go, setObjs, settle, settle1, settleC, List.isEmpty_nil, FsU1, hSt]; rfl) ?_)) ?_
    refine tri_ret (ends_ret (by simp only [outRes, resDs, resD, outD, outC, C.dat, List.getElem?_cons_zero, List.getElem?_cons_succ, Option.map_some, if_true, Option.some.injEq]; rfl) rfl (by simp) (by simp) ?_)
    (obtain rfl : i = s.size := (by omega); exact hQ)

def qS (s : ByteArray) (i : Nat) : ByteArray := ⟨(qAcc s i).toArray⟩
theorem qS_len (s : ByteArray) (i : Nat) : (qS s i).size ≤ 4 * i + 1 := qAcc_len s i
theorem app2 (acc : List UInt8) (x y : UInt8) : (⟨acc.toArray⟩ : ByteArray) ++ ⟨#[x, y]⟩ = ⟨(acc ++ [x, y]).toArray⟩ := by
  apply ByteArray.ext
  rw [ByteArray.data_append]
  simp
theorem app1' (acc : List UInt8) (x : UInt8) : (⟨acc.toArray⟩ : ByteArray) ++ ⟨#[x]⟩ = ⟨(acc ++ [x]).toArray⟩ := by
  apply ByteArray.ext
  rw [ByteArray.data_append]
  simp
theorem ext1' {s : ByteArray} {i : Nat} (h : i < s.size) : s.extract i (i + 1) = ⟨#[byU s i]⟩ := by
  apply ByteArray.ext
  rw [ByteArray.data_extract]
  apply Array.ext'
  rw [Array.toList_extract, List.extract_eq_take_drop]
  have h' : i < s.data.toList.length := by simpa using h
  rw [List.drop_eq_getElem_cons h', show i + 1 - i = 1 from by omega]
  simp only [List.take_succ_cons, List.take_zero, byU, List.getD_eq_getElem?_getD, List.getElem?_eq_getElem h', Option.getD_some]
theorem qS_plain {s : ByteArray} {i : Nat} (h : i < s.size) (hp : isPlainR (byU s i).toNat = true) : qS s i ++ s.extract i (i + 1) = qS s (i + 1) := by
  unfold qS
  rw [ext1' h, app1', qAcc_plain h (by rw [← plainR_eq]; exact hp)]
theorem qS_esc {s : ByteArray} {i : Nat} (h : i < s.size) (hp : isPlainR (byU s i).toNat = false) : qS s i ++ ⟨#[92, 120]⟩ ++ hexT.extract ((byU s i).toNat / 16) ((byU s i).toNat / 16 + 1) ++ hexT.extract ((byU s i).toNat % 16) ((byU s i).toNat % 16 + 1) = qS s (i + 1) := by
  have hb := (byU s i).toNat_lt
  have hz : hexT.size = 16 := rfl
  unfold qS
  rw [ext1' (by omega), ext1' (by omega), app2, app1', app1']
  rw [← qAcc_esc h (by rw [← plainR_eq]; exact hp)]
  rfl
theorem qS_end (s : ByteArray) : qS s s.size ++ ⟨#[34]⟩ = quotedF s := by
  unfold qS quotedF
  rw [app1']
noncomputable def FsU2 : Fs := { Fs.none with pure := fun k => if k = 36 then some (pU8 isPlainR) else none }
theorem okU2 : FsOK Try.prog FsU2 := by
  refine ⟨fun k f h => ?_, fun _ _ h => (by cases h)⟩
  simp only [FsU2] at h
  split at h
  · rename_i hk; subst hk; cases h; exact ⟨by kernel_rfl, meets36⟩
  · cases h
set_option maxHeartbeats 2000000 in
theorem meets15 : Meets Try.prog 15 (pureS pQuoted) := by
  refine meets_famP (show Try.prog.funcs[15]? = some Try.f15 by kernel_rfl) rfl (n := 51) rfl (rs := [ResultVar.tmp 2]) rfl ?_
  intro s hs Q hQ
  have hsm : s.size ≤ maxStr := by unfold maxStr; omega
  have hc0 : ((0 : Nat) : Int) = 0 := rfl
  refine seq_run okU2 rfl (by repeat (first | with_reducible exact runf_nil | refine runf_cons (by simp only [xstep, stepf, stepx, qev, St.ev, St.put, constD, constC, List.set_cons_zero, List.set_cons_succ, List.replicate, List.length_cons, List.length_nil, List.cons_append, List.nil_append, Option.map_some, Nat.reduceSub, Option.some.injEq, Nat.zero_add]; rfl) ?_)) ?_
  refine seq_run okU2 rfl (by repeat (first | with_reducible exact runf_nil | refine runf_cons (by simp only [xstep, stepf, stepx, qev, St.ev, St.put, constD, constC, List.set_cons_zero, List.set_cons_succ, Option.map_some, Option.some.injEq]; rfl) ?_)) ?_
  refine seq_run okU2 rfl (by repeat (first | with_reducible exact runf_nil | refine runf_cons (by simp only [xstep, stepf, stepx, qev, St.ev, St.put, constD, constC, List.set_cons_zero, List.set_cons_succ, Option.map_some, Option.some.injEq]; rfl) ?_)) ?_
  refine seq_in ?_
  refine seq_run okU2 rfl (by repeat (first | with_reducible exact runf_nil | refine runf_cons (by simp only [xstep, stepf, stepx, qev, St.ev, St.put, constD, constC, List.set_cons_zero, List.set_cons_succ, Option.map_some, Option.some.injEq]; rfl) ?_)) ?_
  refine tri_block ?_
  refine tri_loop_le (fun m A => ∃ i : Nat, m = s.size - i ∧ i ≤ s.size ∧ A = ⟨[.c (.v (.string s)), .top, .c (.v (.string ⟨#[]⟩)), .c (.v (.string ⟨#[48, 49, 50, 51, 52, 53, 54, 55, 56, 57, 97, 98, 99, 100, 101, 102]⟩)), .c (.v (.string (qS s i))), .c (.v (.int .i64 (i : Nat))), .top, .top, .top, .top, .top, .top, .top, .top, .top, .top, .top, .top, .top, .top, .top, .top, .top, .top, .top, .top, .top, .top, .top, .top, .top, .top, .top, .top, .top, .top, .top, .top, .top, .top, .top, .top, .top, .top, .top, .top, .top, .top, .top, .top, .top], []⟩) s.size (B := ⟨[.c (.v (.string s)), .top, .c (.v (.string ⟨#[]⟩)), .c (.v (.string ⟨#[48, 49, 50, 51, 52, 53, 54, 55, 56, 57, 97, 98, 99, 100, 101, 102]⟩)), .c (.v (.string (qS s 0))), .c (.v (.int .i64 (0 : Nat))), .top, .top, .top, .top, .top, .top, .top, .top, .top, .top, .top, .top, .top, .top, .top, .top, .top, .top, .top, .top, .top, .top, .top, .top, .top, .top, .top, .top, .top, .top, .top, .top, .top, .top, .top, .top, .top, .top, .top, .top, .top, .top, .top, .top, .top], []⟩) ⟨by repeat (first | exact .nil | refine .same ?_ | refine .top ?_), rfl⟩ ⟨0, rfl, Nat.zero_le _, rfl⟩ ?_
  rintro m A ⟨i, hm, hi, rfl⟩
  have hq1 : (i : Int) + 1 = ((i + 1 : Nat) : Int) := by omega
  have hb : ∀ j, s.data.toList.getD j 0 = byU s j := fun _ => rfl
  have hql := qS_len s i
  have hbl := (byU s i).toNat_lt
  have hDv : IntKind.i64.wrap (((byU s i).toNat : Int).tdiv 16) = (((byU s i).toNat / 16 : Nat) : Int) := tab_dv ⟨(byU s i).toNat, hbl⟩
  have hMd : IntKind.i64.wrap (((byU s i).toNat : Int).tmod 16) = (((byU s i).toNat % 16 : Nat) : Int) := tab_md ⟨(byU s i).toNat, hbl⟩
  have hq2 : (((byU s i).toNat / 16 : Nat) : Int) + 1 = (((byU s i).toNat / 16 + 1 : Nat) : Int) := by omega
  have hq3 : (((byU s i).toNat % 16 : Nat) : Int) + 1 = (((byU s i).toNat % 16 + 1 : Nat) : Int) := by omega
  have hz16 : (⟨#[48, 49, 50, 51, 52, 53, 54, 55, 56, 57, 97, 98, 99, 100, 101, 102]⟩ : ByteArray).size = 16 := rfl
  have hz2 : (⟨#[92, 120]⟩ : ByteArray).size = 2 := rfl
  have hz1 : (⟨#[34]⟩ : ByteArray).size = 1 := rfl
  have hl1 : (((byU s i).toNat / 16 + 1 : Nat) : Int) ≤ ((16 : Nat) : Int) := (by omega)
  have hl2 : (((byU s i).toNat % 16 + 1 : Nat) : Int) ≤ ((16 : Nat) : Int) := (by omega)
  have hn1 : (((byU s i).toNat / 16 : Nat) : Int) ≤ (((byU s i).toNat / 16 + 1 : Nat) : Int) := (by omega)
  have hn2 : (((byU s i).toNat % 16 : Nat) : Int) ≤ (((byU s i).toNat % 16 + 1 : Nat) : Int) := (by omega)
  have hA1 : (qS s i).size + (s.extract i (i + 1)).size ≤ maxStr := (by unfold maxStr; rw [ByteArray.size_extract]; omega)
  have hA2 : (qS s i).size + 2 ≤ maxStr := (by unfold maxStr; omega)
  have hA5 : (qS s i).size + 1 ≤ maxStr := (by unfold maxStr; omega)
  have hA3 : (qS s i ++ ⟨#[92, 120]⟩).size + ((⟨#[48, 49, 50, 51, 52, 53, 54, 55, 56, 57, 97, 98, 99, 100, 101, 102]⟩ : ByteArray).extract ((byU s i).toNat / 16) ((byU s i).toNat / 16 + 1)).size ≤ maxStr := (by unfold maxStr; rw [ByteArray.size_append, ByteArray.size_extract, hz2, hz16]; omega)
  have hA4 : (qS s i ++ ⟨#[92, 120]⟩ ++ (⟨#[48, 49, 50, 51, 52, 53, 54, 55, 56, 57, 97, 98, 99, 100, 101, 102]⟩ : ByteArray).extract ((byU s i).toNat / 16) ((byU s i).toNat / 16 + 1)).size + ((⟨#[48, 49, 50, 51, 52, 53, 54, 55, 56, 57, 97, 98, 99, 100, 101, 102]⟩ : ByteArray).extract ((byU s i).toNat % 16) ((byU s i).toNat % 16 + 1)).size ≤ maxStr := (by unfold maxStr; rw [ByteArray.size_append, ByteArray.size_append, ByteArray.size_extract, ByteArray.size_extract, hz2, hz16]; omega)
  refine seq_in ?_
  refine seq_run okU2 rfl (by repeat (first | with_reducible exact runf_nil | refine runf_cons (by simp only [xstep, stepf, stepx, qev, St.ev, St.put, qint, qshift, isShift, qbin, qlen, qbuiltin, List.getElem?_cons_zero, List.getElem?_cons_succ, List.set_cons_zero, List.set_cons_succ, Option.bind_some, Option.map_some, Option.map_none, if_true, if_false, Option.some.injEq, Bool.false_eq_true, tk9]; rfl) ?_)) ?_
  refine tri_cond rfl (fun b0 => ?_) (fun b0 => ?_)
  ·
    simp only [decide_eq_true_eq] at b0
    refine then_skip ?_
    refine seq_in (tri_block ?_)
    refine seq_run okU2 rfl (by repeat (first | with_reducible exact runf_nil | refine runf_cons (by simp only [xstep, stepf, stepx, evsA, qev, St.ev, St.put, St.with, D.int, C.cpy, qindex, C.cp, C.dat, List.getElem?_cons_zero, List.getElem?_cons_succ, List.set_cons_zero, List.set_cons_succ, List.append_nil, List.map_nil, Option.bind_some, Option.map_some, if_true, and_self, decide_true, Option.some.injEq, Bool.and_self, Bool.true_or, callP, Fs.none, argDs, argD, argC, settle, settle1, settleC, List.isEmpty_nil, dB, FsU2, Int.toNat_natCast, Int.natCast_nonneg, hb, plainR_at, tk9, b0]; rfl) ?_)) ?_
    refine tri_cond rfl (fun b1 => ?_) (fun b1 => ?_)
    ·
      refine run_end okU2 rfl (by repeat (first | with_reducible exact runf_nil | refine runf_cons (by simp only [xstep, stepf, stepx, qev, St.ev, St.put, D.int, qint, qshift, qstr, isShift, qbin, qbounds, qslice, omap, constD, constC, List.getElem?_cons_zero, List.getElem?_cons_succ, List.set_cons_zero, List.set_cons_succ, Option.bind_some, Option.map_some, Option.map_none, if_true, if_false, and_self, Option.some.injEq, Bool.false_eq_true, Int.toNat_natCast, Int.natCast_nonneg, hq1, hA1, tk9, b1, show IntKind.i64.wrap (↑(i + 1) : Int) = _ from wrap_i64 _ (by omega) (by omega), show ((↑(i + 1) : Int) ≤ (↑s.size : Int)) = True from eq_true (by omega), show ((↑i : Int) ≤ (↑(i + 1) : Int)) = True from eq_true (by omega)]; rfl) ?_)) ?_
      show Tri _ _ _ _
      refine run_end okU2 rfl (by repeat (first | with_reducible exact runf_nil | refine runf_cons (by simp only [xstep, stepf, stepx, qev, St.ev, St.put, qint, qshift, isShift, qbin, constD, constC, List.getElem?_cons_zero, List.getElem?_cons_succ, List.set_cons_zero, List.set_cons_succ, Option.map_some, Option.map_none, if_true, if_false, Option.some.injEq, Bool.false_eq_true, hq1, show IntKind.i64.wrap (↑(i + 1) : Int) = _ from wrap_i64 _ (by omega) (by omega)]; rfl) ?_)) ?_
      simp only []
      (exact ⟨s.size - (i + 1), by omega, ⟨[.c (.v (.string s)), .top, .c (.v (.string ⟨#[]⟩)), .c (.v (.string ⟨#[48, 49, 50, 51, 52, 53, 54, 55, 56, 57, 97, 98, 99, 100, 101, 102]⟩)), .c (.v (.string (qS s (i + 1)))), .c (.v (.int .i64 ((i + 1) : Nat))), .top, .top, .top, .top, .top, .top, .top, .top, .top, .top, .top, .top, .top, .top, .top, .top, .top, .top, .top, .top, .top, .top, .top, .top, .top, .top, .top, .top, .top, .top, .top, .top, .top, .top, .top, .top, .top, .top, .top, .top, .top, .top, .top, .top, .top], []⟩, ⟨(by rw [← qS_plain (by omega) (by assumption)]; repeat (first | exact .nil | refine .same ?_ | refine .top ?_)), rfl⟩, i + 1, rfl, by omega, rfl⟩)
    ·
      refine seq_run okU2 rfl (by repeat (first | with_reducible exact runf_nil | refine runf_cons (by simp only [xstep, stepf, stepx, qev, St.ev, St.put, D.int, qindex, qint, qshift, isShift, qbin, qconv, constD, constC, List.getElem?_cons_zero, List.getElem?_cons_succ, List.set_cons_zero, List.set_cons_succ, Option.bind_some, Option.map_some, Option.map_none, if_true, if_false, and_self, Option.some.injEq, Bool.false_eq_true, Int.reduceEq, Int.toNat_natCast, Int.natCast_nonneg, hb, hDv, tk9, b0, b1, tk3, tk5, show IntKind.i64.wrap (↑(byU s i).toNat : Int) = _ from wrap_i64 _ (by omega) (by omega)]; rfl) ?_)) ?_
      refine seq_run okU2 rfl (by repeat (first | with_reducible exact runf_nil | refine runf_cons (by simp only [xstep, stepf, stepx, qev, St.ev, St.put, D.int, qindex, qint, qshift, isShift, qbin, qconv, constD, constC, List.getElem?_cons_zero, List.getElem?_cons_succ, List.set_cons_zero, List.set_cons_succ, Option.bind_some, Option.map_some, Option.map_none, if_true, if_false, and_self, Option.some.injEq, Bool.false_eq_true, Int.reduceEq, Int.toNat_natCast, Int.natCast_nonneg, hb, hMd, tk9, b0, tk3, tk5, show IntKind.i64.wrap (↑(byU s i).toNat : Int) = _ from wrap_i64 _ (by omega) (by omega)]; rfl) ?_)) ?_
      refine any_endE mixed okU2 rfl (by kernel_rfl) ?_
      refine ⟨_, (by repeat (first | with_reducible exact runf_nil | refine runf_cons (by simp only [xstep, stepf, stepx, qev, St.ev, St.put, D.int, qint, qshift, qstr, isShift, qbin, qbounds, qslice, omap, constD, constC, List.getElem?_cons_zero, List.getElem?_cons_succ, List.set_cons_zero, List.set_cons_succ, Option.bind_some, Option.map_some, Option.map_none, if_true, if_false, and_self, Option.some.injEq, Bool.false_eq_true, Int.toNat_natCast, Int.natCast_nonneg, hq2, hq3, hz16, hz2, hl1, hl2, hn1, hn2, hA2, hA3, hA4, tk9, show IntKind.i64.wrap (↑((byU s i).toNat / 16 + 1) : Int) = _ from wrap_i64 _ (by omega) (by omega), show IntKind.i64.wrap (↑((byU s i).toNat % 16 + 1) : Int) = _ from wrap_i64 _ (by omega) (by omega)]; rfl) ?_)), ?_⟩
      show Tri _ _ _ _
      refine run_end okU2 rfl (by repeat (first | with_reducible exact runf_nil | refine runf_cons (by simp only [xstep, stepf, stepx, qev, St.ev, St.put, qint, qshift, isShift, qbin, constD, constC, List.getElem?_cons_zero, List.getElem?_cons_succ, List.set_cons_zero, List.set_cons_succ, Option.map_some, Option.map_none, if_true, if_false, Option.some.injEq, Bool.false_eq_true, hq1, show IntKind.i64.wrap (↑(i + 1) : Int) = _ from wrap_i64 _ (by omega) (by omega)]; rfl) ?_)) ?_
      simp only []
      (exact ⟨s.size - (i + 1), by omega, ⟨[.c (.v (.string s)), .top, .c (.v (.string ⟨#[]⟩)), .c (.v (.string ⟨#[48, 49, 50, 51, 52, 53, 54, 55, 56, 57, 97, 98, 99, 100, 101, 102]⟩)), .c (.v (.string (qS s (i + 1)))), .c (.v (.int .i64 ((i + 1) : Nat))), .top, .top, .top, .top, .top, .top, .top, .top, .top, .top, .top, .top, .top, .top, .top, .top, .top, .top, .top, .top, .top, .top, .top, .top, .top, .top, .top, .top, .top, .top, .top, .top, .top, .top, .top, .top, .top, .top, .top, .top, .top, .top, .top, .top, .top], []⟩, ⟨(by rw [← qS_esc (by omega) (by first | assumption | exact Bool.eq_false_iff.2 (by assumption))]; repeat (first | exact .nil | refine .same ?_ | refine .top ?_)), rfl⟩, i + 1, rfl, by omega, rfl⟩)
  ·
    simp only [decide_eq_false_iff_not] at b0
    refine tri_exit ?_
    show Tri _ _ _ _
    refine seq_run okU2 rfl (by repeat (first | with_reducible exact runf_nil | refine runf_cons (by simp only [xstep, stepf, stepx, qev, St.ev, St.put, qstr, qbin, constD, constC, List.getElem?_cons_zero, List.getElem?_cons_succ, List.set_cons_zero, List.set_cons_succ, Option.map_some, if_true, decide_false, Option.some.injEq, hz1, hA5, b0]; rfl) ?_)) ?_
    refine tri_ret (ends_ret (by simp only [outRes, resDs, resD, outD, outC, C.dat, List.getElem?_cons_zero, List.getElem?_cons_succ, Option.map_some, if_true, Option.some.injEq]; rfl) rfl (by simp) (by simp) ?_)
    (obtain rfl : i = s.size := (by omega); rw [qS_end]; with_reducible exact hQ)
end Go.Dl

namespace Go.Dl
open Go.RowKit
open Go.Proofs
set_option linter.unusedVariables false

theorem tab_hex : ∀ n : Fin 16, nibR ((hexD n.val).toNat : Int) = ((n.val : Nat) : Int) := by decide +kernel
theorem quoted_split {s : ByteArray} {i : Nat} : (quotedF s).data.toList = qAcc s i ++ ((s.data.toList.drop i).flatMap encB ++ [34]) := by
  have h : s.data.toList.length = s.size := by simp
  have : (quotedF s).data.toList = qAcc s s.size ++ [34] := rfl
  rw [this]
  unfold qAcc
  rw [List.take_of_length_le (by omega)]
  have e : s.data.toList.flatMap encB = (s.data.toList.take i).flatMap encB ++ (s.data.toList.drop i).flatMap encB := by rw [← List.flatMap_append, List.take_append_drop]
  rw [e]
  simp only [List.cons_append, List.append_assoc]
theorem getD_app (a b : List UInt8) (j : Nat) : (a ++ b).getD (a.length + j) 0 = b.getD j 0 := by
  rw [List.getD_eq_getElem?_getD, List.getD_eq_getElem?_getD, List.getElem?_append_right (by omega), Nat.add_sub_cancel_left]
theorem byU_q {s : ByteArray} (i j : Nat) : byU (quotedF s) ((qAcc s i).length + j) = ((s.data.toList.drop i).flatMap encB ++ [34]).getD j 0 := by
  unfold byU
  rw [quoted_split (i := i), getD_app]
theorem quoted_size (s : ByteArray) (i : Nat) : (quotedF s).size = (qAcc s i).length + ((s.data.toList.drop i).flatMap encB).length + 1 := by
  have : (quotedF s).size = (quotedF s).data.toList.length := by simp
  rw [this, quoted_split (i := i)]
  simp; omega
theorem take_ok (s : ByteArray) : (⟨(s.data.toList.take s.size).toArray⟩ : ByteArray) = s := by
  have h : s.data.toList.length = s.size := by simp
  rw [List.take_of_length_le (by omega)]
theorem quote_read (s : ByteArray) : ∀ (d f i : Nat), s.size - i ≤ d → i ≤ s.size → d < f → quoteN f (quotedF s) (qAcc s i).length (s.data.toList.take i) = (s, true, (quotedF s).size) := by
  have hlen : s.data.toList.length = s.size := by simp
  intro d
  induction d with
  | zero =>
    intro f i hd hi hf
    obtain ⟨f, rfl⟩ : ∃ k, f = k + 1 := ⟨f - 1, by omega⟩
    obtain rfl : i = s.size := by omega
    have hb := byU_q (s := s) s.size 0
    rw [List.drop_of_length_le (by omega)] at hb
    have hz := quoted_size s s.size
    rw [List.drop_of_length_le (by omega)] at hz
    simp only [Nat.add_zero] at hb
    simp only [quoteN]
    rw [if_pos (by rw [hz]; simp only [List.flatMap_nil, List.length_nil]; omega), hb]
    rw [if_pos (by decide), take_ok, hz]
    simp
  | succ d ih =>
    intro f i hd hi hf
    by_cases hi2 : i = s.size
    · exact ih f i (by omega) hi (by omega)
    · obtain ⟨f, rfl⟩ : ∃ k, f = k + 1 := ⟨f - 1, by omega⟩
      have hlt : i < s.data.toList.length := by omega
      have hx : s.data.toList[i] = byU s i := by unfold byU; rw [List.getD_eq_getElem?_getD, List.getElem?_eq_getElem hlt, Option.getD_some]
      have hdrop : s.data.toList.drop i = byU s i :: s.data.toList.drop (i + 1) := by rw [List.drop_eq_getElem_cons hlt, hx]
      have htake : s.data.toList.take i ++ [byU s i] = s.data.toList.take (i + 1) := by rw [List.take_succ_eq_append_getElem hlt, hx]
      have hz := quoted_size s i
      have hB := fun j => byU_q (s := s) i j
      rw [hdrop, List.flatMap_cons] at hz
      have hB2 : ∀ j, byU (quotedF s) ((qAcc s i).length + j) = ((encB (byU s i) ++ (s.data.toList.drop (i + 1)).flatMap encB) ++ [34]).getD j 0 := fun j => by rw [hB j, hdrop, List.flatMap_cons]
      have hnext := ih f (i + 1) (by omega) (by omega) (by omega)
      have hacc := qAcc_succ (s := s) (i := i) (by omega)
      rw [List.length_append] at hz
      by_cases hp : isPlain (byU s i).toNat = true
      · have he : encB (byU s i) = [byU s i] := by unfold encB; rw [if_pos hp]
        rw [he] at hacc hz hB2
        have h0 : byU (quotedF s) (qAcc s i).length = byU s i := hB2 0
        rw [List.length_singleton] at hz
        have hn34 : ¬ ((byU s i).toNat : Int) = 34 := by intro h; rw [h] at hp; revert hp; decide
        have hn92 : ¬ ((byU s i).toNat : Int) = 92 := by intro h; rw [h] at hp; revert hp; decide
        simp only [quoteN]
        rw [if_pos (by rw [hz]; omega), h0, if_neg hn34, if_neg hn92, if_pos hp, htake]
        rw [hacc, List.length_append, List.length_singleton] at hnext
        exact hnext
      · have he : encB (byU s i) = [92, 120, hexD ((byU s i).toNat / 16), hexD ((byU s i).toNat % 16)] := by unfold encB; rw [if_neg hp]
        rw [he] at hacc hz hB2
        have hxl := (byU s i).toNat_lt
        have h0 : byU (quotedF s) (qAcc s i).length = 92 := hB2 0
        have h1 : byU (quotedF s) ((qAcc s i).length + 1) = 120 := hB2 1
        have h2 : byU (quotedF s) ((qAcc s i).length + 2) = hexD ((byU s i).toNat / 16) := hB2 2
        have h3 : byU (quotedF s) ((qAcc s i).length + 3) = hexD ((byU s i).toNat % 16) := hB2 3
        have hz4 : (quotedF s).size = (qAcc s i).length + (4 + ((s.data.toList.drop (i + 1)).flatMap encB).length) + 1 := hz
        have n2 : nibR (byU (quotedF s) ((qAcc s i).length + 2)).toNat = (((byU s i).toNat / 16 : Nat) : Int) := by rw [h2]; exact tab_hex ⟨(byU s i).toNat / 16, by omega⟩
        have n3 : nibR (byU (quotedF s) ((qAcc s i).length + 3)).toNat = (((byU s i).toNat % 16 : Nat) : Int) := by rw [h3]; exact tab_hex ⟨(byU s i).toNat % 16, by omega⟩
        obtain ⟨e1, e2⟩ := escB_sum (s := quotedF s) (p := (qAcc s i).length) (by omega) (by rw [n2]; omega) (by rw [n3]; omega)
        have ev : escB ((quotedF s).extract ((qAcc s i).length + 2) (quotedF s).size) = byU s i := by
          apply UInt8.toNat_inj.1
          rw [n2, n3] at e2
          omega
        have eo : (escF ((quotedF s).extract ((qAcc s i).length + 2) (quotedF s).size)).2 = true := by
          rw [esc_ok (by omega), n2, n3]
          simp; omega
        simp only [quoteN]
        rw [if_pos (by rw [hz4]; omega), h0, if_neg (by decide), if_pos (by decide), if_neg (by rw [hz4]; omega), h1, if_pos (by decide), if_pos eo, ev, if_neg hp, htake]
        rw [hacc, List.length_append] at hnext
        exact hnext
theorem quoted_le (s : ByteArray) : (quotedF s).size ≤ 4 * s.size + 2 := by
  have h := quoted_size s s.size
  have h2 := qAcc_len s s.size
  have hlen : s.data.toList.length = s.size := by simp
  rw [List.drop_of_length_le (by omega), List.flatMap_nil, List.length_nil] at h
  omega
theorem flat_ge : ∀ l : List UInt8, l.length ≤ (l.flatMap encB).length
  | [] => Nat.le_refl 0
  | x :: l => by
    have hx : 1 ≤ (encB x).length := by unfold encB; split <;> simp
    have := flat_ge l
    rw [List.flatMap_cons, List.length_append, List.length_cons]; omega
theorem quoted_ge (s : ByteArray) : s.size + 2 ≤ (quotedF s).size := by
  have h5 := quoted_size s 0
  have h6 := flat_ge (s.data.toList.drop 0)
  have h7 : s.data.toList.length = s.size := by simp
  have h8 : (qAcc s 0).length = 1 := rfl
  rw [List.length_drop] at h6
  omega
theorem quote_whole (s : ByteArray) : quoteF (quotedF s) 0 = (s, true, (quotedF s).size) :=
  quote_read s s.size ((quotedF s).size + 1) 0 (by omega) (by omega) (by have := quoted_ge s; omega)
theorem quoted_first (s : ByteArray) : byt (quotedF s) 0 = 34 := rfl
theorem toks_quoted {s : ByteArray} (h : s.size ≤ 10000) : toksT (quotedF s) = ([(2, s, 0)], 0, 0) := by
  have hle := quoted_le s
  have hpos : 0 < (quotedF s).size := by have := quoted_size s 0; omega
  have hb : blkF (quotedF s) 0 = 0 := blkF_stop fun _ => ⟨by rw [quoted_first]; decide, by rw [quoted_first]; decide⟩
  have hb2 : blkF (quotedF s) (quotedF s).size = (quotedF s).size := blkF_stop fun h => absurd h (Nat.lt_irrefl _)
  have h1 : nextF (quotedF s) 0 = some ((2, s, 0), true, 0, (quotedF s).size) := by
    unfold nextF
    rw [hb, if_neg (by omega), quoted_first, if_neg (by decide), if_neg (by decide), if_pos rfl, quote_whole, if_pos rfl]
    rfl
  have h2 : nextF (quotedF s) (quotedF s).size = some ((0, noText, 0), false, 0, (quotedF s).size) := by
    unfold nextF
    rw [hb2, if_pos rfl]
  obtain ⟨k, hk⟩ : ∃ k, (quotedF s).size = k + 1 := ⟨(quotedF s).size - 1, by omega⟩
  have h3 : toksF (quotedF s) = some ([(2, s, 0)], 0, 0) := by
    unfold toksF
    rw [if_neg (by omega)]
    rw [show toksN ((quotedF s).size + 1) (quotedF s) 0 [] = toksN (quotedF s).size (quotedF s) (quotedF s).size ([] ++ [(2, s, 0)]) from by
      rw [toksN, h1]; rfl]
    rw [show toksN (quotedF s).size (quotedF s) (quotedF s).size ([] ++ [(2, s, 0)]) = toksN (k + 1) (quotedF s) (quotedF s).size ([] ++ [(2, s, 0)]) from by rw [← hk]]
    rw [toksN, h2]
    rfl
  unfold toksT
  rw [h3]; rfl
end Go.Dl

namespace Go.Dl
open Go.RowKit
open Go.Proofs
set_option linter.unusedSimpArgs false
set_option linter.unusedVariables false

noncomputable def FsUc : Fs := { Fs.none with pure := fun k => if k = 10 then some pCut else if k = 11 then some pToksZ else if k = 14 then some pQuoted else if k = 15 then some pQuoted else if k = 13 then some pAwake else none }
theorem okUc : FsOK Try.prog FsUc := by
  refine ⟨fun k f h => ?_, fun _ _ h => (by cases h)⟩
  simp only [FsUc] at h
  split at h
  · rename_i hk; subst hk; cases h; exact ⟨by kernel_rfl, meets10⟩
  split at h
  · rename_i hk; subst hk; cases h; exact ⟨by kernel_rfl, meets11Z⟩
  split at h
  · rename_i hk; subst hk; cases h; exact ⟨by kernel_rfl, meets14⟩
  split at h
  · rename_i hk; subst hk; cases h; exact ⟨by kernel_rfl, meets15⟩
  split at h
  · rename_i hk; subst hk; cases h; exact ⟨by kernel_rfl, meets13⟩
  · cases h
theorem quotes_law (s : ByteArray) (hs : s.size ≤ maxStr) : pSayText [.c (.v (.string s))] = some (.c (.v (.bool true))) := if_pos hs
set_option maxHeartbeats 2000000 in
theorem meets5 : Meets Try.prog 5 (pureS pSayText) := by
  refine meets_of_tri (show Try.prog.funcs[5]? = some Try.f5 by kernel_rfl) rfl (n := 48) rfl (rs := [ResultVar.tmp 2]) rfl ?_
  rintro args objs Q ⟨rfl, d, hd, hQ⟩
  unfold pSayText at hd
  split at hd
  · rename_i s0
    split at hd
    · rename_i hs0
      cases hd
      have hC := cut_at s0 hs0
      obtain ⟨s, hs, hsz⟩ : ∃ s, (if 500 < (s0.size : Int) then s0.extract 0 500 else s0) = s ∧ s.size ≤ 500 := by
        refine ⟨_, rfl, ?_⟩
        split
        · rw [ByteArray.size_extract]; omega
        · omega
      rw [hs] at hC
      have hqs := quoted_le s
      have hT := toks_at (quotedF s) (by omega)
      rw [toks_quoted (by omega)] at hT
      replace hT : pToksZ [.c (.v (.string (quotedF s)))] = some (.t [.c (.s false 3 [[.v (.int .i64 2), .v (.string s), .v (.int .i64 0)]]), .c (.v (.int .i64 0)), .c (.v (.int .i64 0))]) := hT
      have hQd := quoted_at s (by omega)
      have hl1 : (1 : Nat) ≤ maxStr := by decide
      have hc1 : ((1 : Nat) : Int) = 1 := rfl
      have hc0 : ((0 : Nat) : Int) = 0 := rfl
      refine seq_run okUc rfl (by repeat (first | with_reducible exact runf_nil | refine runf_cons (by simp only [xstep, stepf, stepx, qev, St.ev, St.put, constD, constC, List.set_cons_zero, List.set_cons_succ, List.replicate, List.length_cons, List.length_nil, List.cons_append, List.nil_append, List.map_nil, Option.map_some, Nat.reduceSub, Option.some.injEq, Nat.zero_add]; rfl) ?_)) ?_
      refine seq_run okUc rfl (by repeat (first | with_reducible exact runf_nil | refine runf_cons (by simp only [xstep, stepf, stepx, evsA, qev, St.ev, St.put, St.with, C.cpy, C.cp, C.dat, List.getElem?_cons_zero, List.getElem?_cons_succ, List.set_cons_zero, List.set_cons_succ, List.append_nil, List.map_nil, Option.map_some, Nat.reduceEqDiff, if_true, if_false, Option.some.injEq, Bool.and_self, Bool.true_or, callP, Fs.none, argDs, argD, argC, settle, settle1, settleC, List.isEmpty_nil, FsUc, hC, eq_self]; rfl) ?_)) ?_
      refine seq_run okUc rfl (by repeat (first | with_reducible exact runf_nil | refine runf_cons (by simp only [xstep, stepf, stepx, evsA, qev, St.ev, St.put, St.with, C.cpy, C.cp, C.dat, List.getElem?_cons_zero, List.getElem?_cons_succ, List.set_cons_zero, List.set_cons_succ, List.append_nil, List.map_nil, Option.map_some, Nat.reduceEqDiff, if_true, if_false, Option.some.injEq, Bool.and_self, Bool.true_or, callP, Fs.none, argDs, argD, argC, settle, settle1, settleC, List.isEmpty_nil, FsUc, hQd, eq_self]; rfl) ?_)) ?_
      refine seq_run okUc rfl (by repeat (first | with_reducible exact runf_nil | refine runf_cons (by simp only [xstep, stepf, stepx, evsA, qev, St.ev, St.put, St.with, C.cpy, qext, C.cp, C.dat, List.getElem?_cons_zero, List.getElem?_cons_succ, List.set_cons_zero, List.set_cons_succ, List.append_nil, List.map_nil, Option.bind_some, Option.map_some, Nat.reduceEqDiff, if_true, if_false, Option.some.injEq, Bool.and_self, Bool.true_or, callP, Fs.none, argDs, argD, argC, settle, settle1, settleC, settleDs, List.isEmpty_nil, FsUc, hT, eq_self]; rfl) ?_)) ?_
      refine seq_run okUc rfl (by repeat (first | with_reducible exact runf_nil | refine runf_cons (by simp only [xstep, stepf, stepx, evsA, qev, St.ev, St.put, St.with, D.int, qload, cellsAt, qmk, C.cpy, TK.agg, qfieldAddr, qindexAddr, qpick, qint, qshift, qstr, isShift, qbin, qlen, qbuiltin, C.cp, C.dat, constD, constC, List.getElem?_cons_zero, List.getElem?_cons_succ, List.set_cons_zero, List.set_cons_succ, List.length_cons, List.length_nil, List.append_nil, List.map_nil, List.map_cons, List.all_cons, List.all_nil, List.take_succ_cons, List.take_zero, List.drop_succ_cons, List.drop_zero, Option.bind_some, Option.map_some, Option.map_none, Nat.reduceEqDiff, if_true, if_false, and_self, decide_true, cond_true, List.getElem?_toArray, Option.some.injEq, ne_eq, not_false_eq_true, reduceCtorEq, Int.reduceLT, Int.reduceLE, Bool.false_eq_true, Nat.zero_add, Bool.and_self, Bool.true_or, callP, Fs.none, argDs, argD, argC, settle, settle1, settleC, List.isEmpty_nil, dB, FsUc, pAwake, hQd, hl1, hc1, Int.toNat_zero, strEq_same, eq_self, tk23, tsz33, tk33, tsz3, tk3, tsz9, tk9]; rfl) ?_)) ?_
      refine tri_ret (ends_ret (by simp only [outRes, resDs, resD, outD, outC, C.dat, List.getElem?_cons_zero, List.getElem?_cons_succ, Option.map_some, if_true, Option.some.injEq, eq_self]; rfl) rfl (by simp) (by simp) ?_)
      exact hQ
    · cases hd
  · cases hd
end Go.Dl
