/- The walk of SayLong. -/
import Derived.Test.YtbefgbljlmnfoaaC22
namespace Go.Dl
open Go.RowKit
open Go.Proofs
set_option linter.unusedSimpArgs false
set_option linter.unusedVariables false

def spaces (n : Nat) : ByteArray := ⟨(List.replicate n (32 : UInt8)).toArray⟩
def rowsL (n i : Nat) : List (List C) := (List.replicate i (32 : UInt8) ++ List.replicate (n - i) 0).map byteRow
theorem rowsL_len {n i : Nat} (h : i ≤ n) : (rowsL n i).length = n := by
  simp only [rowsL, List.length_map, List.length_append, List.length_replicate]; omega
theorem rowsL_0 (n : Nat) : List.replicate n [C.v (.int .u8 0)] = rowsL n 0 := by
  simp only [rowsL, List.replicate_zero, List.nil_append, Nat.sub_zero, List.map_replicate]; rfl
theorem rowsL_get {n i : Nat} (h : i < n) : (rowsL n i)[i]? = some [C.v (.int .u8 0)] := by
  have : n - i = (n - i - 1) + 1 := by omega
  simp only [rowsL, List.getElem?_map]
  rw [List.getElem?_append_right (by simp), List.length_replicate, Nat.sub_self, this, List.replicate_succ]
  rfl
theorem rowsL_set {n i : Nat} (h : i < n) : (rowsL n i).set i [C.v (.int .u8 32)] = rowsL n (i + 1) := by
  have h1 : n - i = (n - (i + 1)) + 1 := by omega
  have h2 : [C.v (.int .u8 32)] = byteRow 32 := rfl
  simp only [rowsL]
  rw [h2, ← List.map_set, h1, List.replicate_succ, List.set_append_right _ _ (by simp), List.length_replicate, Nat.sub_self, List.set_cons_zero, List.replicate_succ', List.append_assoc]
  rfl
theorem rowsL_all (n : Nat) : (rowsL n n).all isByteRow = true := by
  rw [List.all_eq_true]
  intro row h
  obtain ⟨x, _, rfl⟩ := List.mem_map.1 h
  rfl
theorem rowsL_str (n : Nat) : (⟨((rowsL n n).map rowByte).toArray⟩ : ByteArray) = spaces n := by
  unfold spaces rowsL
  rw [Nat.sub_self, List.replicate_zero, List.append_nil, List.map_map]
  congr 2
  conv => rhs; rw [← List.map_id (List.replicate n 32)]
  apply List.map_congr_left
  intro x _
  have := x.toNat_lt
  simp [byteRow, rowByte]
theorem spaces_size (n : Nat) : (spaces n).size = n := by
  show (List.replicate n (32 : UInt8)).toArray.size = n
  simp
theorem spaces_byt {n p : Nat} (h : p < n) : byt (spaces n) p = 32 := by
  unfold byt spaces
  simp [h]
theorem spaces_blk (n : Nat) : ∀ (f p : Nat), p ≤ n → n - p < f → blkN f (spaces n) p = n
  | 0, p, h, hf => by omega
  | f + 1, p, h, hf => by
    simp only [blkN, spaces_size]
    by_cases hp : p < n
    · rw [if_pos hp, spaces_byt hp, if_pos (by decide)]
      exact spaces_blk n f (p + 1) (by omega) (by omega)
    · rw [if_neg hp]; omega
theorem spaces_next (n : Nat) : nextF (spaces n) 0 = some ((0, noText, 0), false, 0, n) := by
  unfold nextF blkF
  rw [spaces_size, spaces_blk n (n + 1) 0 (by omega) (by omega), if_pos rfl]
theorem toks_spaces (n : Nat) : toksT (spaces n) = if 65536 < n then ([], 0, 3) else ([], 0, 0) := by
  unfold toksT toksF
  rw [spaces_size]
  split
  · rfl
  · simp only [toksN, spaces_next, Option.bind_some]
    rfl

noncomputable def FsSa : Fs := { Fs.none with pure := fun k => if k = 11 then some pToksZ else if k = 13 then some pAwake else none }
theorem okSa : FsOK Try.prog FsSa := by
  refine ⟨fun k f h => ?_, fun _ _ h => (by cases h)⟩
  simp only [FsSa] at h
  split at h
  · rename_i hk; subst hk; cases h; exact ⟨by kernel_rfl, meets11Z⟩
  split at h
  · rename_i hk; subst hk; cases h; exact ⟨by kernel_rfl, meets13⟩
  · cases h
def pSayLong : List D → Option D
  | [.c (.v (.int .i64 m))] => some (dB true)
  | _ => none
theorem meets4 : Meets Try.prog 4 (pureS pSayLong) := by
  refine meets_of_tri (show Try.prog.funcs[4]? = some Try.f4 by kernel_rfl) rfl (n := 64) rfl (rs := [ResultVar.tmp 2]) rfl ?_
  rintro args objs Q ⟨rfl, d, hd, hQ⟩
  unfold pSayLong at hd
  split at hd
  · rename_i m
    cases hd
    by_cases hr : -6 ≤ m ∧ m ≤ 4
    · obtain ⟨n, hn⟩ : ∃ n : Nat, 65536 + m = (n : Int) := ⟨(65536 + m).toNat, by omega⟩
      have hT := toks_at (spaces n) (by rw [spaces_size]; omega)
      have hrep := rowsL_0 n
      have hlen := fun i (h : ((i : Nat) : Int) ≤ (n : Nat)) => rowsL_len (n := n) (i := i) (by omega)
      have hall := rowsL_all n
      have hstr := rowsL_str n
      have htk : (rowsL n n).take n = rowsL n n := List.take_of_length_le (by rw [rowsL_len (Nat.le_refl n)]; exact Nat.le_refl n)
      have hms : n ≤ maxStr := by unfold maxStr; omega
      have hb1 : ((1 : Nat) : Int) * (n : Int) ≤ 140737488355328 := by omega
      have hb2 : (n : Int) ≤ 9223372036854775807 := by omega
      have hls : (rowsL n n).length ≤ maxStr := by rw [rowsL_len (Nat.le_refl n)]; exact hms
      have hc0 : ((0 : Nat) : Int) = 0 := rfl
      by_cases hm : 0 < m
      · rw [toks_spaces, if_pos (by omega)] at hT
        replace hT : pToksZ [.c (.v (.string (spaces n)))] = some (.t [.c (.s false 3 []), .c (.v (.int .i64 0)), .c (.v (.int .i64 3))]) := hT
        refine seq_run okSa rfl (by repeat (first | with_reducible exact runf_nil | refine runf_cons (by simp only [xstep, stepf, stepx, qev, St.ev, St.put, constD, constC, List.set_cons_zero, List.set_cons_succ, List.replicate, List.length_cons, List.length_nil, List.cons_append, List.nil_append, List.map_nil, Option.map_some, Nat.reduceSub, Option.some.injEq, Nat.zero_add]; rfl) ?_)) ?_
        refine seq_in ?_
        refine seq_run okSa rfl (by repeat (first | with_reducible exact runf_nil | refine runf_cons (by simp only [xstep, stepf, stepx, qev, St.ev, St.put, qpick, qint, qshift, isShift, qbin, constD, constC, List.getElem?_cons_zero, List.getElem?_cons_succ, List.set_cons_zero, List.set_cons_succ, Option.bind_some, Option.map_some, Option.map_none, if_true, if_false, decide_false, cond_false, List.getElem?_toArray, Option.some.injEq, Bool.false_eq_true, show (m < -6) = False from eq_false (by omega)]; rfl) ?_)) ?_
        refine tri_cond rfl (fun a0 => ?_) (fun a0 => ?_)
        ·
          simp only [decide_eq_true_eq] at a0
          (exfalso; omega)
        ·
          simp only [decide_eq_false_iff_not] at a0
          refine then_skip ?_
          refine seq_run okSa rfl (by repeat (first | with_reducible exact runf_nil | refine runf_cons (by simp only [xstep, stepf, stepx, qev, St.ev, St.put, St.with, D.int, qint, qshift, isShift, qbin, C.dat, constD, constC, List.getElem?_cons_zero, List.getElem?_cons_succ, List.set_cons_zero, List.set_cons_succ, List.length_cons, List.length_nil, List.nil_append, List.all_cons, List.all_nil, Option.bind_some, Option.map_some, Option.map_none, if_true, if_false, and_self, decide_false, Option.some.injEq, ne_eq, not_false_eq_true, reduceCtorEq, Bool.false_eq_true, Nat.zero_add, Bool.and_self, hn, hrep, hb1, hb2, Int.le_refl, bo5, tz5, tsz5, tk35, makeA, Int.toNat_natCast, Int.natCast_nonneg, a0, show IntKind.i64.wrap (↑n : Int) = _ from wrap_i64 _ (by omega) (by omega)]; rfl) ?_)) ?_
          refine seq_in ?_
          refine seq_run okSa rfl (by repeat (first | with_reducible exact runf_nil | refine runf_cons (by simp only [xstep, stepf, stepx, qev, St.ev, St.put, constD, constC, List.set_cons_zero, List.set_cons_succ, Option.map_some, Option.some.injEq]; rfl) ?_)) ?_
          refine tri_block ?_
          refine tri_loop_le (fun k A => ∃ i : Nat, k = n - i ∧ i ≤ n ∧ A = ⟨[.c (.v (.int .i64 m)), .top, dB false, .c (.h 0 0 n), .c (.v (.int .i64 (i : Nat))), .top, .top, .top, .top, .top, .top, .top, .top, .top, .top, .top, .top, .top, .top, .top, .top, .top, .top, .top, .top, .top, .top, .top, .top, .top, .top, .top, .top, .top, .top, .top, .top, .top, .top, .top, .top, .top, .top, .top, .top, .top, .top, .top, .top, .top, .top, .top, .top, .top, .top, .top, .top, .top, .top, .top, .top, .top, .top, .top], [some ⟨true, 1, rowsL n i⟩]⟩) n (B := ⟨[.c (.v (.int .i64 m)), .top, dB false, .c (.h 0 0 n), .c (.v (.int .i64 (0 : Nat))), .top, .top, .top, .top, .top, .top, .top, .top, .top, .top, .top, .top, .top, .top, .top, .top, .top, .top, .top, .top, .top, .top, .top, .top, .top, .top, .top, .top, .top, .top, .top, .top, .top, .top, .top, .top, .top, .top, .top, .top, .top, .top, .top, .top, .top, .top, .top, .top, .top, .top, .top, .top, .top, .top, .top, .top, .top, .top, .top], [some ⟨true, 1, rowsL n 0⟩]⟩) ⟨by repeat (first | exact .nil | refine .same ?_ | refine .top ?_), rfl⟩ ⟨0, rfl, Nat.zero_le _, rfl⟩ ?_
          rintro k A ⟨i, hk, hi, rfl⟩
          have hq1 : (i : Int) + 1 = ((i + 1 : Nat) : Int) := by omega
          have hg : ((i : Nat) : Int) < ((n : Nat) : Int) → (rowsL n i)[i]? = some [C.v (.int .u8 0)] := fun h => rowsL_get (by omega)
          have hs : ((i : Nat) : Int) < ((n : Nat) : Int) → (rowsL n i).set i [C.v (.int .u8 32)] = rowsL n (i + 1) := fun h => rowsL_set (by omega)
          have hli : (rowsL n i).length = n := rowsL_len hi
          have he : ¬ ((i : Nat) : Int) < ((n : Nat) : Int) → rowsL n i = rowsL n n := (by intro h; congr 1; omega)
          refine seq_in ?_
          refine seq_run okSa rfl (by repeat (first | with_reducible exact runf_nil | refine runf_cons (by simp only [xstep, stepf, stepx, qev, St.ev, St.put, qint, qshift, isShift, qbin, qlen, qbuiltin, liveR, List.getElem?_cons_zero, List.getElem?_cons_succ, List.set_cons_zero, List.set_cons_succ, Option.bind_some, Option.map_some, Option.map_none, if_true, if_false, and_self, Option.some.injEq, Bool.false_eq_true, dB, hms, tk35]; rfl) ?_)) ?_
          refine tri_cond rfl (fun a1 => ?_) (fun a1 => ?_)
          ·
            simp only [decide_eq_true_eq] at a1
            refine then_skip ?_
            refine seq_in (tri_block ?_)
            refine run_end okSa rfl (by repeat (first | with_reducible exact runf_nil | refine runf_cons (by simp only [xstep, stepf, stepx, qev, St.ev, St.put, D.cells, D.int, qindexAddr, C.st, C.dat, storeA, putCells, constD, constC, List.getElem?_cons_zero, List.getElem?_cons_succ, List.set_cons_zero, List.set_cons_succ, List.length_cons, List.length_nil, List.nil_append, List.append_nil, List.all_cons, List.all_nil, List.take_zero, List.drop_succ_cons, List.drop_zero, Option.bind_some, Option.map_some, if_true, and_self, decide_true, forall_const, Option.some.injEq, ne_eq, not_false_eq_true, reduceCtorEq, Nat.le_refl, Nat.zero_add, Bool.and_self, tsz5, tk35, Int.toNat_natCast, Int.natCast_nonneg, hg, hs, a1]; rfl) ?_)) ?_
            show Tri _ _ _ _
            refine run_end okSa rfl (by repeat (first | with_reducible exact runf_nil | refine runf_cons (by simp only [xstep, stepf, stepx, qev, St.ev, St.put, qint, qshift, isShift, qbin, constD, constC, List.getElem?_cons_zero, List.getElem?_cons_succ, List.set_cons_zero, List.set_cons_succ, Option.map_some, Option.map_none, if_true, if_false, Option.some.injEq, Bool.false_eq_true, hq1, show IntKind.i64.wrap (↑(i + 1) : Int) = _ from wrap_i64 _ (by omega) (by omega)]; rfl) ?_)) ?_
            simp only []
            exact ⟨n - (i + 1), by omega, ⟨[.c (.v (.int .i64 m)), .top, dB false, .c (.h 0 0 n), .c (.v (.int .i64 (i + 1 : Nat))), .top, .top, .top, .top, .top, .top, .top, .top, .top, .top, .top, .top, .top, .top, .top, .top, .top, .top, .top, .top, .top, .top, .top, .top, .top, .top, .top, .top, .top, .top, .top, .top, .top, .top, .top, .top, .top, .top, .top, .top, .top, .top, .top, .top, .top, .top, .top, .top, .top, .top, .top, .top, .top, .top, .top, .top, .top, .top, .top], [some ⟨true, 1, rowsL n (i + 1)⟩]⟩, ⟨by repeat (first | exact .nil | refine .same ?_ | refine .top ?_), rfl⟩, i + 1, rfl, by omega, rfl⟩
          ·
            simp only [decide_eq_false_iff_not] at a1
            refine tri_exit ?_
            show Tri _ _ _ _
            refine seq_run okSa rfl (by repeat (first | with_reducible exact runf_nil | refine runf_cons (by simp only [xstep, stepf, stepx, evsA, qev, St.ev, St.put, St.with, C.cpy, qconv, qext, C.cp, C.dat, List.getElem?_cons_zero, List.getElem?_cons_succ, List.set_cons_zero, List.set_cons_succ, List.append_nil, List.map_nil, List.all_cons, List.all_nil, List.drop_zero, Option.bind_some, Option.map_some, Nat.reduceEqDiff, if_true, if_false, and_self, decide_false, Option.some.injEq, not_false_eq_true, Bool.and_self, Bool.or_true, callP, Fs.none, argDs, argD, argC, D.ni, D.ni1, C.ni, settle, settle1, settleC, settleDs, List.isEmpty_nil, FsSa, hT, hall, hstr, htk, hls, tk5, tk35, bytesStr, rowsOf, he, a1, tk9]; rfl) ?_)) ?_
            refine seq_in ?_
            refine seq_run okSa rfl (by repeat (first | with_reducible exact runf_nil | refine runf_cons (by simp only [xstep, stepf, stepx, qev, St.ev, St.put, qint, qshift, isShift, qbin, constD, constC, List.getElem?_cons_zero, List.getElem?_cons_succ, List.set_cons_zero, List.set_cons_succ, Option.map_some, Option.map_none, if_true, if_false, Option.some.injEq, Bool.false_eq_true]; rfl) ?_)) ?_
            refine tri_cond rfl (fun a2 => ?_) (fun a2 => ?_)
            ·
              simp only [decide_eq_true_eq] at a2
              refine seq_run okSa rfl (by repeat (first | with_reducible exact runf_nil | refine runf_cons (by simp only [xstep, stepf, stepx, evsA, qev, St.ev, St.put, St.with, qpick, qint, qshift, isShift, qbin, qlen, qbuiltin, constD, constC, List.getElem?_cons_zero, List.getElem?_cons_succ, List.set_cons_zero, List.set_cons_succ, List.length_nil, List.append_nil, List.map_nil, Option.bind_some, Option.map_some, Option.map_none, Nat.reduceEqDiff, if_true, if_false, decide_true, cond_true, List.getElem?_toArray, Option.some.injEq, Bool.false_eq_true, Bool.or_true, callP, Fs.none, argDs, D.ni, D.ni1, C.ni, settle, settle1, settleC, List.isEmpty_nil, dB, FsSa, pAwake, hc0, a2, tk23, show (0 ≤ maxStr) = True from eq_true (by omega)]; rfl) ?_)) ?_
              refine tri_ret (ends_ret (by simp only [outRes, resDs, resD, outD, outC, C.dat, List.getElem?_cons_zero, List.getElem?_cons_succ, Option.map_some, if_true, Option.some.injEq]; rfl) rfl (by simp) (by simp) ?_)
              exact hQ
            ·
              simp only [decide_eq_false_iff_not] at a2
              (exfalso; omega)
      · rw [toks_spaces, if_neg (by omega)] at hT
        replace hT : pToksZ [.c (.v (.string (spaces n)))] = some (.t [.c (.s false 3 []), .c (.v (.int .i64 0)), .c (.v (.int .i64 0))]) := hT
        refine seq_run okSa rfl (by repeat (first | with_reducible exact runf_nil | refine runf_cons (by simp only [xstep, stepf, stepx, qev, St.ev, St.put, constD, constC, List.set_cons_zero, List.set_cons_succ, List.replicate, List.length_cons, List.length_nil, List.cons_append, List.nil_append, List.map_nil, Option.map_some, Nat.reduceSub, Option.some.injEq, Nat.zero_add]; rfl) ?_)) ?_
        refine seq_in ?_
        refine seq_run okSa rfl (by repeat (first | with_reducible exact runf_nil | refine runf_cons (by simp only [xstep, stepf, stepx, qev, St.ev, St.put, qpick, qint, qshift, isShift, qbin, constD, constC, List.getElem?_cons_zero, List.getElem?_cons_succ, List.set_cons_zero, List.set_cons_succ, Option.bind_some, Option.map_some, Option.map_none, if_true, if_false, decide_false, cond_false, List.getElem?_toArray, Option.some.injEq, Bool.false_eq_true, show (m < -6) = False from eq_false (by omega)]; rfl) ?_)) ?_
        refine tri_cond rfl (fun b0 => ?_) (fun b0 => ?_)
        ·
          simp only [decide_eq_true_eq] at b0
          (exfalso; omega)
        ·
          simp only [decide_eq_false_iff_not] at b0
          refine then_skip ?_
          refine seq_run okSa rfl (by repeat (first | with_reducible exact runf_nil | refine runf_cons (by simp only [xstep, stepf, stepx, qev, St.ev, St.put, St.with, D.int, qint, qshift, isShift, qbin, C.dat, constD, constC, List.getElem?_cons_zero, List.getElem?_cons_succ, List.set_cons_zero, List.set_cons_succ, List.length_cons, List.length_nil, List.nil_append, List.all_cons, List.all_nil, Option.bind_some, Option.map_some, Option.map_none, if_true, if_false, and_self, decide_false, Option.some.injEq, ne_eq, not_false_eq_true, reduceCtorEq, Bool.false_eq_true, Nat.zero_add, Bool.and_self, hn, hrep, hb1, hb2, Int.le_refl, bo5, tz5, tsz5, tk35, makeA, Int.toNat_natCast, Int.natCast_nonneg, b0, show IntKind.i64.wrap (↑n : Int) = _ from wrap_i64 _ (by omega) (by omega)]; rfl) ?_)) ?_
          refine seq_in ?_
          refine seq_run okSa rfl (by repeat (first | with_reducible exact runf_nil | refine runf_cons (by simp only [xstep, stepf, stepx, qev, St.ev, St.put, constD, constC, List.set_cons_zero, List.set_cons_succ, Option.map_some, Option.some.injEq]; rfl) ?_)) ?_
          refine tri_block ?_
          refine tri_loop_le (fun k A => ∃ i : Nat, k = n - i ∧ i ≤ n ∧ A = ⟨[.c (.v (.int .i64 m)), .top, dB false, .c (.h 0 0 n), .c (.v (.int .i64 (i : Nat))), .top, .top, .top, .top, .top, .top, .top, .top, .top, .top, .top, .top, .top, .top, .top, .top, .top, .top, .top, .top, .top, .top, .top, .top, .top, .top, .top, .top, .top, .top, .top, .top, .top, .top, .top, .top, .top, .top, .top, .top, .top, .top, .top, .top, .top, .top, .top, .top, .top, .top, .top, .top, .top, .top, .top, .top, .top, .top, .top], [some ⟨true, 1, rowsL n i⟩]⟩) n (B := ⟨[.c (.v (.int .i64 m)), .top, dB false, .c (.h 0 0 n), .c (.v (.int .i64 (0 : Nat))), .top, .top, .top, .top, .top, .top, .top, .top, .top, .top, .top, .top, .top, .top, .top, .top, .top, .top, .top, .top, .top, .top, .top, .top, .top, .top, .top, .top, .top, .top, .top, .top, .top, .top, .top, .top, .top, .top, .top, .top, .top, .top, .top, .top, .top, .top, .top, .top, .top, .top, .top, .top, .top, .top, .top, .top, .top, .top, .top], [some ⟨true, 1, rowsL n 0⟩]⟩) ⟨by repeat (first | exact .nil | refine .same ?_ | refine .top ?_), rfl⟩ ⟨0, rfl, Nat.zero_le _, rfl⟩ ?_
          rintro k A ⟨i, hk, hi, rfl⟩
          have hq1 : (i : Int) + 1 = ((i + 1 : Nat) : Int) := by omega
          have hg : ((i : Nat) : Int) < ((n : Nat) : Int) → (rowsL n i)[i]? = some [C.v (.int .u8 0)] := fun h => rowsL_get (by omega)
          have hs : ((i : Nat) : Int) < ((n : Nat) : Int) → (rowsL n i).set i [C.v (.int .u8 32)] = rowsL n (i + 1) := fun h => rowsL_set (by omega)
          have hli : (rowsL n i).length = n := rowsL_len hi
          have he : ¬ ((i : Nat) : Int) < ((n : Nat) : Int) → rowsL n i = rowsL n n := (by intro h; congr 1; omega)
          refine seq_in ?_
          refine seq_run okSa rfl (by repeat (first | with_reducible exact runf_nil | refine runf_cons (by simp only [xstep, stepf, stepx, qev, St.ev, St.put, qint, qshift, isShift, qbin, qlen, qbuiltin, liveR, List.getElem?_cons_zero, List.getElem?_cons_succ, List.set_cons_zero, List.set_cons_succ, Option.bind_some, Option.map_some, Option.map_none, if_true, if_false, and_self, Option.some.injEq, Bool.false_eq_true, dB, hms, tk35]; rfl) ?_)) ?_
          refine tri_cond rfl (fun b1 => ?_) (fun b1 => ?_)
          ·
            simp only [decide_eq_true_eq] at b1
            refine then_skip ?_
            refine seq_in (tri_block ?_)
            refine run_end okSa rfl (by repeat (first | with_reducible exact runf_nil | refine runf_cons (by simp only [xstep, stepf, stepx, qev, St.ev, St.put, D.cells, D.int, qindexAddr, C.st, C.dat, storeA, putCells, constD, constC, List.getElem?_cons_zero, List.getElem?_cons_succ, List.set_cons_zero, List.set_cons_succ, List.length_cons, List.length_nil, List.nil_append, List.append_nil, List.all_cons, List.all_nil, List.take_zero, List.drop_succ_cons, List.drop_zero, Option.bind_some, Option.map_some, if_true, and_self, decide_true, forall_const, Option.some.injEq, ne_eq, not_false_eq_true, reduceCtorEq, Nat.le_refl, Nat.zero_add, Bool.and_self, tsz5, tk35, Int.toNat_natCast, Int.natCast_nonneg, hg, hs, b1]; rfl) ?_)) ?_
            show Tri _ _ _ _
            refine run_end okSa rfl (by repeat (first | with_reducible exact runf_nil | refine runf_cons (by simp only [xstep, stepf, stepx, qev, St.ev, St.put, qint, qshift, isShift, qbin, constD, constC, List.getElem?_cons_zero, List.getElem?_cons_succ, List.set_cons_zero, List.set_cons_succ, Option.map_some, Option.map_none, if_true, if_false, Option.some.injEq, Bool.false_eq_true, hq1, show IntKind.i64.wrap (↑(i + 1) : Int) = _ from wrap_i64 _ (by omega) (by omega)]; rfl) ?_)) ?_
            simp only []
            exact ⟨n - (i + 1), by omega, ⟨[.c (.v (.int .i64 m)), .top, dB false, .c (.h 0 0 n), .c (.v (.int .i64 (i + 1 : Nat))), .top, .top, .top, .top, .top, .top, .top, .top, .top, .top, .top, .top, .top, .top, .top, .top, .top, .top, .top, .top, .top, .top, .top, .top, .top, .top, .top, .top, .top, .top, .top, .top, .top, .top, .top, .top, .top, .top, .top, .top, .top, .top, .top, .top, .top, .top, .top, .top, .top, .top, .top, .top, .top, .top, .top, .top, .top, .top, .top], [some ⟨true, 1, rowsL n (i + 1)⟩]⟩, ⟨by repeat (first | exact .nil | refine .same ?_ | refine .top ?_), rfl⟩, i + 1, rfl, by omega, rfl⟩
          ·
            simp only [decide_eq_false_iff_not] at b1
            refine tri_exit ?_
            show Tri _ _ _ _
            refine seq_run okSa rfl (by repeat (first | with_reducible exact runf_nil | refine runf_cons (by simp only [xstep, stepf, stepx, evsA, qev, St.ev, St.put, St.with, C.cpy, qconv, qext, C.cp, C.dat, List.getElem?_cons_zero, List.getElem?_cons_succ, List.set_cons_zero, List.set_cons_succ, List.append_nil, List.map_nil, List.all_cons, List.all_nil, List.drop_zero, Option.bind_some, Option.map_some, Nat.reduceEqDiff, if_true, if_false, and_self, decide_false, Option.some.injEq, not_false_eq_true, Bool.and_self, Bool.or_true, callP, Fs.none, argDs, argD, argC, D.ni, D.ni1, C.ni, settle, settle1, settleC, settleDs, List.isEmpty_nil, FsSa, hT, hall, hstr, htk, hls, tk5, tk35, bytesStr, rowsOf, he, b1, tk9]; rfl) ?_)) ?_
            refine seq_in ?_
            refine seq_run okSa rfl (by repeat (first | with_reducible exact runf_nil | refine runf_cons (by simp only [xstep, stepf, stepx, qev, St.ev, St.put, qint, qshift, isShift, qbin, constD, constC, List.getElem?_cons_zero, List.getElem?_cons_succ, List.set_cons_zero, List.set_cons_succ, Option.map_some, Option.map_none, if_true, if_false, Option.some.injEq, Bool.false_eq_true]; rfl) ?_)) ?_
            refine tri_cond rfl (fun b2 => ?_) (fun b2 => ?_)
            ·
              simp only [decide_eq_true_eq] at b2
              (exfalso; omega)
            ·
              simp only [decide_eq_false_iff_not] at b2
              refine then_skip ?_
              refine seq_run okSa rfl (by repeat (first | with_reducible exact runf_nil | refine runf_cons (by simp only [xstep, stepf, stepx, evsA, qev, St.ev, St.put, St.with, qpick, qint, qshift, isShift, qbin, qlen, qbuiltin, constD, constC, List.getElem?_cons_zero, List.getElem?_cons_succ, List.set_cons_zero, List.set_cons_succ, List.length_nil, List.append_nil, List.map_nil, Option.bind_some, Option.map_some, Option.map_none, Nat.reduceEqDiff, if_true, if_false, decide_true, decide_false, cond_true, List.getElem?_toArray, Option.some.injEq, Bool.false_eq_true, Bool.or_true, callP, Fs.none, argDs, D.ni, D.ni1, C.ni, settle, settle1, settleC, List.isEmpty_nil, dB, FsSa, pAwake, hc0, b2, tk23, show (0 ≤ maxStr) = True from eq_true (by omega)]; rfl) ?_)) ?_
              refine tri_ret (ends_ret (by simp only [outRes, resDs, resD, outD, outC, C.dat, List.getElem?_cons_zero, List.getElem?_cons_succ, Option.map_some, if_true, Option.some.injEq]; rfl) rfl (by simp) (by simp) ?_)
              exact hQ
    ·
      refine seq_run okSa rfl (by repeat (first | with_reducible exact runf_nil | refine runf_cons (by simp only [xstep, stepf, stepx, qev, St.ev, St.put, constD, constC, List.set_cons_zero, List.set_cons_succ, List.replicate, List.length_cons, List.length_nil, List.cons_append, List.nil_append, List.map_nil, Option.map_some, Nat.reduceSub, Option.some.injEq, Nat.zero_add]; rfl) ?_)) ?_
      refine seq_in ?_
      by_cases c0 : (m < -6)
      ·
        refine seq_run okSa rfl (by repeat (first | with_reducible exact runf_nil | refine runf_cons (by simp only [xstep, stepf, stepx, qev, St.ev, St.put, qpick, qint, qshift, isEq, isShift, qbin, constD, constC, List.getElem?_cons_zero, List.getElem?_cons_succ, List.set_cons_zero, List.set_cons_succ, Option.bind_some, Option.map_some, Option.map_none, if_true, if_false, decide_true, cond_true, List.getElem?_toArray, Option.some.injEq, reduceCtorEq, Bool.false_eq_true, eq_true c0]; rfl) ?_)) ?_
        refine tri_cond (b := true) rfl (fun _ => ?_) (fun h => by cases h)
        refine seq_run okSa rfl (by repeat (first | with_reducible exact runf_nil | refine runf_cons (by simp only [xstep, stepf, stepx, evsA, qev, St.ev, St.put, St.with, List.getElem?_cons_zero, List.getElem?_cons_succ, List.set_cons_zero, List.set_cons_succ, List.append_nil, List.map_nil, Option.map_some, Nat.reduceEqDiff, if_true, if_false, Option.some.injEq, Bool.or_true, callP, Fs.none, argDs, D.ni, D.ni1, C.ni, settle, settle1, settleC, List.isEmpty_nil, dB, FsSa, pAwake]; rfl) ?_)) ?_
        refine tri_ret (ends_ret (by simp only [outRes, resDs, resD, outD, outC, C.dat, List.getElem?_cons_zero, List.getElem?_cons_succ, Option.map_some, if_true, Option.some.injEq]; rfl) rfl (by simp) (by simp) ?_)
        exact hQ
      ·
        refine seq_run okSa rfl (by repeat (first | with_reducible exact runf_nil | refine runf_cons (by simp only [xstep, stepf, stepx, qev, St.ev, St.put, qpick, qint, qshift, isShift, qbin, constD, constC, List.getElem?_cons_zero, List.getElem?_cons_succ, List.set_cons_zero, List.set_cons_succ, Option.bind_some, Option.map_some, Option.map_none, if_true, if_false, decide_false, cond_false, List.getElem?_toArray, Option.some.injEq, Bool.false_eq_true, eq_false c0]; rfl) ?_)) ?_
        refine tri_cond rfl (fun c1 => ?_) (fun c1 => ?_)
        ·
          simp only [decide_eq_true_eq] at c1
          refine seq_run okSa rfl (by repeat (first | with_reducible exact runf_nil | refine runf_cons (by simp only [xstep, stepf, stepx, evsA, qev, St.ev, St.put, St.with, List.getElem?_cons_zero, List.getElem?_cons_succ, List.set_cons_zero, List.set_cons_succ, List.append_nil, List.map_nil, Option.map_some, Nat.reduceEqDiff, if_true, if_false, decide_true, Option.some.injEq, Bool.or_true, callP, Fs.none, argDs, D.ni, D.ni1, C.ni, settle, settle1, settleC, List.isEmpty_nil, dB, FsSa, pAwake, c1]; rfl) ?_)) ?_
          refine tri_ret (ends_ret (by simp only [outRes, resDs, resD, outD, outC, C.dat, List.getElem?_cons_zero, List.getElem?_cons_succ, Option.map_some, if_true, Option.some.injEq]; rfl) rfl (by simp) (by simp) ?_)
          exact hQ
        ·
          simp only [decide_eq_false_iff_not] at c1
          (exfalso; omega)
  · cases hd
end Go.Dl
