/- The walks of a value as a script says it, of Clean, of TakeValue; Plain law: how texts that are joined are read; numbers and bits as they are read again; Plain law: a value as a script says it is read again, whatever stands behind; The walk of strings.Builder's Grow, at a builder that is not written: its bytes stay none; The walk of strings.Builder's Grow, and its contract: what is written stays. -/
import Derived.Test.YtbefgbljlmnfoaaU13
set_option linter.all false
namespace Go.Dl
open Go.RowKit
open Go.Proofs
set_option linter.unusedSimpArgs false
set_option linter.unusedVariables false
/-- Bits as signs. -/
def hexN : Nat → Nat → List UInt8
 | 0, _ => []
 | k + 1, b => hexN k (b / 16) ++ [hexD (b % 16)]
theorem hexN_len : ∀ (k b : Nat), (hexN k b).length = k
 | 0, b => rfl
 | k + 1, b => by unfold hexN; rw [List.length_append, List.length_singleton, hexN_len k]
def hexB (b : Nat) : ByteArray := ⟨(hexN 16 b).toArray⟩
def floatP : ByteArray := ⟨#[102, 108, 111, 97, 116, 40]⟩
def noneW : ByteArray := ⟨#[110, 111, 110, 101]⟩
/-- A value as a script says it. -/
def valueB (v : Val) : ByteArray :=
 if v.1 = 0 then nullW else if v.1 = 1 then (if v.2.1 = true then trueW else falseW) else if v.1 = 2 then wholeB v.2.2.1
 else if v.1 = 3 then floatP ++ quotedF (hexB v.2.2.2.1.toNat) ++ rpar else if v.1 = 4 then quotedF v.2.2.2.2 else noneW
def valPre (v : Val) : Prop := inR .i64 v.2.2.1 = true ∧ inR .u64 v.2.2.2.1 = true ∧ v.2.2.2.2.size ≤ 100000
theorem u64_rng {n : Int} (h : inR .u64 n = true) : 0 ≤ n ∧ n ≤ 18446744073709551615 := by
 simp only [inR, Bool.and_eq_true, decide_eq_true_eq] at h
 exact h
theorem valC_inj {x y : Val} (h : valC x = valC y) : x = y := by
 obtain ⟨a, b, c, d, f⟩ := x
 obtain ⟨a', b', c', d', f'⟩ := y
 simp only [valC, List.cons.injEq, C.v.injEq, Value.int.injEq, Value.string.injEq, Value.bool.injEq, true_and, and_true] at h
 obtain ⟨rfl, rfl, rfl, rfl, rfl⟩ := h; rfl
theorem shr_nib {b j : Nat} (hb : b < 18446744073709551616) (hj : j < 16) : IntKind.u64.wrap (((b : Nat) : Int).fdiv (2 ^ min ((60 : Int) - 4 * (j : Int)).toNat IntKind.u64.bits)) = ((b / 16 ^ (15 - j) : Nat) : Int) := by
 have h1 : ((60 : Int) - 4 * (j : Int)).toNat = 4 * (15 - j) := by omega
 have h2 : min (4 * (15 - j)) IntKind.u64.bits = 4 * (15 - j) := by show min (4 * (15 - j)) 64 = _; omega
 rw [h1, h2]
 have h3 : (2 : Int) ^ (4 * (15 - j)) = ((16 ^ (15 - j) : Nat) : Int) := by
  rw [show (16 : Nat) = 2 ^ 4 from rfl, ← Nat.pow_mul]
  rw [Int.natCast_pow]; rfl
 rw [h3]
 have h4 : ((b : Nat) : Int).fdiv ((16 ^ (15 - j) : Nat) : Int) = ((b / 16 ^ (15 - j) : Nat) : Int) := by
  rw [Int.fdiv_eq_ediv_of_nonneg _ (Int.natCast_nonneg _)]
  exact (Int.natCast_ediv _ _).symm
 rw [h4]
 have h5 : b / 16 ^ (15 - j) ≤ b := Nat.div_le_self _ _
 generalize b / 16 ^ (15 - j) = q at h5 ⊢
 exact wrap_u64 _ (by omega) (by omega)
theorem and_nib {x : Nat} (hx : x < 18446744073709551616) : IntKind.u64.wrap ((BitVec.ofInt IntKind.u64.bits ((x : Nat) : Int) &&& BitVec.ofInt IntKind.u64.bits 15).toNat) = ((x % 16 : Nat) : Int) := by
 have h : (BitVec.ofInt IntKind.u64.bits ((x : Nat) : Int) &&& BitVec.ofInt IntKind.u64.bits 15).toNat = x % 16 := by
  rw [BitVec.toNat_and, BitVec.toNat_ofInt, BitVec.toNat_ofInt]
  have h1 : (((x : Nat) : Int) % ((2 ^ IntKind.u64.bits : Nat) : Int)).toNat = x := by
   show (((x : Nat) : Int) % ((2 ^ 64 : Nat) : Int)).toNat = x
   omega
  have h2 : ((15 : Int) % ((2 ^ IntKind.u64.bits : Nat) : Int)).toNat = 2 ^ 4 - 1 := by decide
  rw [h1, h2, Nat.and_two_pow_sub_one_eq_mod]
 rw [h]
 exact wrap_u64 _ (by omega) (by omega)
theorem hexN_step {b j : Nat} (hj : j < 16) : hexN j (b / 16 ^ (16 - j)) ++ [hexD (b / 16 ^ (15 - j) % 16)] = hexN (j + 1) (b / 16 ^ (16 - (j + 1))) := by
 rw [hexN, show 16 - (j + 1) = 15 - j by omega, Nat.div_div_eq_div_mul, show 16 - j = (15 - j) + 1 by omega, Nat.pow_succ]
noncomputable def FsWb : Fs := { Fs.none with pure := fun k => if k = 37 then some pWhole else if k = 38 then some pWhole else if k = 14 then some pQuoted else if k = 15 then some pQuoted else none }
theorem okWb : FsOK Try.prog FsWb := by
 refine ⟨fun k f h => ?_, fun _ _ h => (by cases h)⟩
 simp only [FsWb] at h
 split at h
 · rename_i hk; subst hk; cases h; exact ⟨by kernel_rfl, meets37⟩
 split at h
 · rename_i hk; subst hk; cases h; exact ⟨by kernel_rfl, meets38⟩
 split at h
 · rename_i hk; subst hk; cases h; exact ⟨by kernel_rfl, meets14⟩
 split at h
 · rename_i hk; subst hk; cases h; exact ⟨by kernel_rfl, meets15⟩
 · cases h
noncomputable def pValueB : List D → Option D := famP valPre (fun v => [.agg (valC v)]) (fun v => .c (.v (.string (valueB v))))
theorem valueB_at (v : Val) (h : valPre v) : pValueB [.agg (valC v)] = some (.c (.v (.string (valueB v)))) := Ym (fun a b h => by
 simp only [List.cons.injEq, D.agg.injEq, and_true] at h
 rw [valC_inj h]) v h rfl
theorem quotedB_le (s : ByteArray) (h : s.size ≤ 100000) : (quotedF s).size ≤ 400002 := by
 have h2 := qAcc_len s s.size
 show ((qAcc s s.size ++ [34]).toArray).size ≤ _
 rw [List.size_toArray, List.length_append, List.length_singleton]; omega
set_option maxHeartbeats 2000000 in
theorem meets16 : Meets Try.prog 16 (pureS pValueB) := by
 refine Yn (show Try.prog.funcs[16]? = some Try.f16 by kernel_rfl) rfl (n := 43) rfl (rs := [ResultVar.tmp 2]) rfl ?_
 rintro ⟨k, fl, n, bi, tx⟩ ⟨h1, h2, h3⟩ Q hQ
 dsimp only at h1 h2 h3
 unfold valueB at hQ
 dsimp only at hQ
 simp only [valC]
 have hW := whole_at n h1
 obtain ⟨hb1, hb2⟩ := u64_rng h2
 obtain ⟨b, rfl⟩ : ∃ b : Nat, bi = (b : Int) := ⟨bi.toNat, by omega⟩
 rw [Int.toNat_natCast] at hQ
 have hbl : b < 18446744073709551616 := by omega
 have hx16 : (hexB b).size = 16 := by show ((hexN 16 b).toArray).size = 16; rw [List.size_toArray, hexN_len]
 have hQd := quoted_at tx (by omega)
 have hQh := quoted_at (hexB b) (by omega)
 have hqs := quotedB_le (hexB b) (by omega)
 have hA1 : (⟨#[102, 108, 111, 97, 116, 40]⟩ : ByteArray).size + (quotedF (hexB b)).size ≤ maxStr := by show 6 + _ ≤ maxStr; unfold maxStr; omega
 have hA2 : (⟨#[102, 108, 111, 97, 116, 40]⟩ ++ quotedF (hexB b) : ByteArray).size + (⟨#[41]⟩ : ByteArray).size ≤ maxStr := by rw [ByteArray.size_append]; show 6 + (quotedF (hexB b)).size + 1 ≤ maxStr; unfold maxStr; omega
 have hc0 : ((0 : Nat) : Int) = 0 := rfl
 refine Y3 okWb rfl (by repeat first | with_reducible exact Y2 | refine Y1 (by simp only [Y5, Y4, Y6, qev, St.ev, St.put, St.with, D.cells, boxA, C.st, Y8, Y7, List.replicate, Nat.reduceAdd, Nat.reduceSub, if_true, ZA]; rfl) ?_) ?_
 refine seq_in ?_
 refine Y3 okWb rfl (by repeat first | with_reducible exact Y2 | refine Y1 (by simp only [Y5, Y4, Y6, qev, St.ev, St.put, qload, Y9, qmk, C.cpy, TK.agg, Yb, liveR, C.cp, if_true, if_false, reduceCtorEq, Nat.add_zero, tk39, tsz3, tk3, ZA]; rfl) ?_) ?_
 refine tri_block ?_
 refine Y3 okWb rfl (by repeat first | with_reducible exact Y2 | refine Y1 (by simp only [Y5, Y4, Y6, qev, St.ev, St.put, qint, Yc, Ya, qbin, Y8, Y7, if_true, if_false, ZA]; rfl) ?_) ?_
 refine Yf rfl (fun a0 => ?_) (fun a0 => ?_)
 ·
  simp only [decide_eq_true_eq] at a0
  refine Y3 okWb rfl (by repeat first | with_reducible exact Y2 | refine Y1 (by simp only [Y5, Y4, Y6, qev, St.ev, St.put, Y8, Y7, decide_true, a0, ZA]; rfl) ?_) ?_
  refine Yo (Yp (by simp only [outRes, Yi, resD, outD, outC, C.dat, if_true, ZA]; rfl) rfl (by simp) (by simp) ?_)
  (simp only [reduceIte, ↓reduceIte, nullW, a0] at hQ; with_reducible exact hQ)
 ·
  simp only [decide_eq_false_iff_not] at a0
  refine Y3 okWb rfl (by repeat first | with_reducible exact Y2 | refine Y1 (by simp only [Y5, Y4, Y6, qev, St.ev, St.put, qint, Yc, Ya, qbin, Y8, Y7, if_true, if_false, decide_false, a0, ZA]; rfl) ?_) ?_
  refine Yf rfl (fun a1 => ?_) (fun a1 => ?_)
  ·
   simp only [decide_eq_true_eq] at a1
   refine seq_in ?_
   refine Y3 okWb rfl (by repeat first | with_reducible exact Y2 | refine Y1 (by simp only [Y5, Y4, Y6, qev, St.ev, St.put, qload, Y9, qmk, C.cpy, TK.agg, Yb, liveR, C.cp, if_true, if_false, decide_true, reduceCtorEq, tk39, a1, tsz4, tk4, ZA]; rfl) ?_) ?_
   refine Yf rfl (fun a2 => ?_) (fun a2 => ?_)
   ·
    refine Y3 okWb rfl (by repeat first | with_reducible exact Y2 | refine Y1 (by simp only [Y5, Y4, Y6, qev, St.ev, St.put, Y8, Y7, a2, ZA]; rfl) ?_) ?_
    refine Yo (Yp (by simp only [outRes, Yi, resD, outD, outC, C.dat, if_true, ZA]; rfl) rfl (by simp) (by simp) ?_)
    (simp only [reduceIte, ↓reduceIte, Int.reduceEq, trueW, a1, a2] at hQ; with_reducible exact hQ)
   ·
    refine Ye ?_
    refine Y3 okWb rfl (by repeat first | with_reducible exact Y2 | refine Y1 (by simp only [Y5, Y4, Y6, qev, St.ev, St.put, Y8, Y7, a2, ZA]; rfl) ?_) ?_
    refine Yo (Yp (by simp only [outRes, Yi, resD, outD, outC, C.dat, if_true, ZA]; rfl) rfl (by simp) (by simp) ?_)
    (simp only [reduceIte, Z7, ↓reduceIte, Int.reduceEq, falseW, a1, a2] at hQ; with_reducible exact hQ)
  ·
   simp only [decide_eq_false_iff_not] at a1
   refine Y3 okWb rfl (by repeat first | with_reducible exact Y2 | refine Y1 (by simp only [Y5, Y4, Y6, qev, St.ev, St.put, qint, Yc, Ya, qbin, Y8, Y7, if_true, if_false, decide_false, a1, ZA]; rfl) ?_) ?_
   refine Yf rfl (fun a3 => ?_) (fun a3 => ?_)
   ·
    simp only [decide_eq_true_eq] at a3
    refine Y3 okWb rfl (by repeat first | with_reducible exact Y2 | refine Y1 (by simp only [Y5, Y4, Y6, evsA, qev, St.ev, St.put, St.with, qload, Y9, qmk, C.cpy, TK.agg, Yb, liveR, C.cp, C.dat, Nat.reduceEqDiff, if_true, if_false, decide_true, reduceCtorEq, Bool.true_or, callP, Fs.none, Yg, argD, argC, settle, settle1, settleC, FsWb, hW, tk39, a3, tsz2, tk2, ZA]; rfl) ?_) ?_
    refine Yo (Yp (by simp only [outRes, Yi, resD, outD, outC, C.dat, if_true, ZA]; rfl) rfl (by simp) (by simp) ?_)
    (simp only [reduceIte, ↓reduceIte, Int.reduceEq, a3] at hQ; with_reducible exact hQ)
   ·
    simp only [decide_eq_false_iff_not] at a3
    refine Y3 okWb rfl (by repeat first | with_reducible exact Y2 | refine Y1 (by simp only [Y5, Y4, Y6, qev, St.ev, St.put, qint, Yc, Ya, qbin, Y8, Y7, if_true, if_false, decide_false, a3, ZA]; rfl) ?_) ?_
    refine Yf rfl (fun a4 => ?_) (fun a4 => ?_)
    ·
     simp only [decide_eq_true_eq] at a4
     refine Y3 okWb rfl (by repeat first | with_reducible exact Y2 | refine Y1 (by simp only [Y5, Y4, Y6, qev, St.ev, St.put, Y8, Y7, decide_true, a4, ZA]; rfl) ?_) ?_
     refine seq_in ?_
     refine Y3 okWb rfl (by repeat first | with_reducible exact Y2 | refine Y1 (by simp only [Y5, Y4, Y6, qev, St.ev, St.put, Y8, Y7, ZA]; rfl) ?_) ?_
     refine tri_block ?_
     refine tri_nil 3 1 rfl ?_
     show Tri _ _ _ _
     refine tri_loop_le (fun m A => ∃ (j : Nat) (T : List (Option Root)), m = 16 - j ∧ j ≤ 16 ∧ A = ⟨[.o, .c (.p 0 0 0), .c (.v (.string ⟨#[]⟩)), .c (.h 1 0 j), .c (.v (.int .i64 (60 - 4 * (j : Nat)))), .o, .o, .o, .o, .o, .o, .o, .o, .o, .o, .o, .o, .o, .o, .o, .o, .o, .o, .o, .o, .o, .o, .o, .o, .o, .o, .o, .o, .o, .o, .o, .o, .o, .o, .o, .o, .o, .o], some ⟨false, 5, [[.v (.int .i64 3), .v (.bool fl), .v (.int .i64 n), .v (.int .u64 (b : Nat)), .v (.string tx)]]⟩ :: some ⟨true, 1, (hexN j (b / 16 ^ (16 - j))).map byteRow⟩ :: T⟩) 16 (B := ⟨[.o, .c (.p 0 0 0), .c (.v (.string ⟨#[]⟩)), .c (.h 1 0 0), .c (.v (.int .i64 (60 - 4 * (0 : Nat)))), .o, .o, .o, .o, .o, .o, .o, .o, .o, .o, .o, .o, .o, .o, .o, .o, .o, .o, .o, .o, .o, .o, .o, .o, .o, .o, .o, .o, .o, .o, .o, .o, .o, .o, .o, .o, .o, .o], some ⟨false, 5, [[.v (.int .i64 3), .v (.bool fl), .v (.int .i64 n), .v (.int .u64 (b : Nat)), .v (.string tx)]]⟩ :: some ⟨true, 1, []⟩ :: []⟩) ⟨by repeat (first | exact .nil | refine .same ?_ | refine .o ?_), rfl⟩ ⟨0, [], rfl, by omega, rfl⟩ ?_
     rintro m A ⟨j, T, hm, hj, rfl⟩
     obtain ⟨ac, hac⟩ : ∃ ac, (hexN j (b / 16 ^ (16 - j))) = ac := ⟨_, rfl⟩
     rw [hac]
     have hacl : ac.length = j := (by rw [← hac, hexN_len])
     have hsh := fun (h : (0 : Int) ≤ 60 - 4 * ((j : Nat) : Int)) => shr_nib (b := b) (j := j) hbl (by omega)
     have han : IntKind.u64.wrap ((BitVec.ofInt IntKind.u64.bits ((b / 16 ^ (15 - j) : Nat) : Int) &&& BitVec.ofInt IntKind.u64.bits 15).toNat) = ((b / 16 ^ (15 - j) % 16 : Nat) : Int) := and_nib (Nat.lt_of_le_of_lt (Nat.div_le_self _ _) hbl)
     have hnn := fun (h : (0 : Int) ≤ 60 - 4 * ((j : Nat) : Int)) => (show ¬ (60 - 4 * ((j : Nat) : Int) < 0) by omega)
     have hz16 : (⟨#[48, 49, 50, 51, 52, 53, 54, 55, 56, 57, 97, 98, 99, 100, 101, 102]⟩ : ByteArray).size = 16 := rfl
     have hl1 : ((b / 16 ^ (15 - j) % 16 : Nat) : Int) < ((16 : Nat) : Int) := (by omega)
     have hg1 : ∀ n : Nat, ([48, 49, 50, 51, 52, 53, 54, 55, 56, 57, 97, 98, 99, 100, 101, 102] : List UInt8).getD n 0 = hexD n := fun _ => rfl
     have hg2 : ∀ n : Nat, (⟨#[48, 49, 50, 51, 52, 53, 54, 55, 56, 57, 97, 98, 99, 100, 101, 102]⟩ : ByteArray).data.toList.getD n 0 = hexD n := fun _ => rfl
     have hq4 : (60 : Int) - 4 * ((j : Nat) : Int) - 4 = 60 - 4 * ((j + 1 : Nat) : Int) := (by omega)
     have ht0 : (ac.map byteRow).take j = ac.map byteRow := List.take_of_length_le (by rw [List.length_map]; omega)
     have hne : ∀ k : Nat, (k + 1 + 1 != 1) = true := (by intro k; simp)
     have hz : (j + 1) * 1 ≤ 140737488355328 := (by omega)
     have hbn := byte_nb ac
     have hba := byte_all ac
     have hbs := byte_str ac
     have hblm : (ac.map byteRow).length ≤ maxStr := (by unfold maxStr; rw [List.length_map]; omega)
     have hxB := fun (h : ¬ (0 : Int) ≤ 60 - 4 * ((j : Nat) : Int)) => (show (⟨ac.toArray⟩ : ByteArray) = hexB b by rw [← hac, show j = 16 by omega]; show (⟨(hexN 16 (b / 16 ^ 0)).toArray⟩ : ByteArray) = _; rw [Nat.pow_zero, Nat.div_one]; rfl)
     refine seq_in ?_
     refine Y3 okWb rfl (by repeat first | with_reducible exact Y2 | refine Y1 (by simp only [Y5, Y4, Y6, qev, St.ev, St.put, qint, Yc, Ya, qbin, Y8, Y7, if_true, if_false, ZA]; rfl) ?_) ?_
     refine Yf rfl (fun a5 => ?_) (fun a5 => ?_)
     ·
      simp only [decide_eq_true_eq] at a5
      refine Ye ?_
      refine seq_in (tri_block ?_)
      refine Yk okWb rfl (by repeat first | with_reducible exact Y2 | refine Y1 (by simp only [Y5, Y4, Y6, qev, St.ev, St.put, St.with, D.cells, D.int, qload, Y9, qmk, C.cpy, TK.agg, Yb, qindex, qint, Yc, Ya, qbin, liveR, C.st, C.cp, C.dat, putCells, Y8, Y7, Nat.reduceMul, if_true, if_false, decide_true, ne_eq, reduceCtorEq, Nat.reduceLeDiff, Nat.le_refl, Nat.reduceBNe, bne_self_eq_false, Int.toNat_natCast, Int.natCast_nonneg, tk39, hsh, han, hnn, hz16, hl1, hg1, ht0, hne, hz, hbn, last_get, buildSliceA, partsA, fillA, reps, chop, tkApp, appendA, srcRows, srcOther, D.kill, D.no, C.no, C.kill, killH, Root.kill, a5, tsz37, tk37, tk9, tk35, tz5, tsz5, bo5, ZA]; rfl) ?_) ?_
      show Tri _ _ _ _
      refine Yk okWb rfl (by repeat first | with_reducible exact Y2 | refine Y1 (by simp only [Y5, Y4, Y6, qev, St.ev, St.put, qint, Yc, Ya, qbin, Y8, Y7, if_true, if_false, hq4, show IntKind.i64.wrap (60 - 4 * (↑(j + 1) : Int)) = _ from wrap_i64 _ (by omega) (by omega), ZA]; rfl) ?_) ?_
      simp only []
      (exact ⟨16 - (j + 1), by omega, ⟨[.o, .c (.p 0 0 0), .c (.v (.string ⟨#[]⟩)), .c (.h 1 0 (j + 1)), .c (.v (.int .i64 (60 - 4 * (j + 1 : Nat)))), .o, .o, .o, .o, .o, .o, .o, .o, .o, .o, .o, .o, .o, .o, .o, .o, .o, .o, .o, .o, .o, .o, .o, .o, .o, .o, .o, .o, .o, .o, .o, .o, .o, .o, .o, .o, .o, .o], some ⟨false, 5, [[.v (.int .i64 3), .v (.bool fl), .v (.int .i64 n), .v (.int .u64 (b : Nat)), .v (.string tx)]]⟩ :: some ⟨true, 1, (hexN (j + 1) (b / 16 ^ (16 - (j + 1)))).map byteRow⟩ :: _⟩, ⟨by repeat (first | exact .nil | refine .same ?_ | refine .o ?_), (by rw [show (hexN (j + 1) (b / 16 ^ (16 - (j + 1)))).map byteRow = ac.map byteRow ++ [byteRow (hexD (b / 16 ^ (15 - j) % 16))] from by rw [← hexN_step (by omega), hac, List.map_append]; rfl]; rfl)⟩, j + 1, _, rfl, by omega, rfl⟩)
     ·
      simp only [decide_eq_false_iff_not] at a5
      refine tri_exit ?_
      show Tri _ _ _ _
      refine Y3 okWb rfl (by repeat first | with_reducible exact Y2 | refine Y1 (by simp only [Y5, Y4, Y6, evsA, qev, St.ev, St.put, St.with, C.cpy, qstr, qbin, qconv, C.cp, C.dat, Y8, Y7, Nat.reduceEqDiff, if_true, if_false, decide_false, Bool.true_or, callP, Fs.none, Yg, argD, argC, settle, settle1, settleC, FsWb, hQh, hA1, hA2, ht0, hba, hbs, hblm, hxB, bytesStr, rowsOf, a5, tk9, tk35, tk5, ZA]; rfl) ?_) ?_
      refine Yo (Yp (by simp only [outRes, Yi, resD, outD, outC, C.dat, if_true, ZA]; rfl) rfl (by simp) (by simp) ?_)
      (simp only [reduceIte, ↓reduceIte, Int.reduceEq, floatP, rpar, a4] at hQ; with_reducible exact hQ)
    ·
     simp only [decide_eq_false_iff_not] at a4
     refine Y3 okWb rfl (by repeat first | with_reducible exact Y2 | refine Y1 (by simp only [Y5, Y4, Y6, qev, St.ev, St.put, qint, Yc, Ya, qbin, Y8, Y7, if_true, if_false, decide_false, a4, ZA]; rfl) ?_) ?_
     refine Yf rfl (fun a6 => ?_) (fun a6 => ?_)
     ·
      simp only [decide_eq_true_eq] at a6
      refine Y3 okWb rfl (by repeat first | with_reducible exact Y2 | refine Y1 (by simp only [Y5, Y4, Y6, evsA, qev, St.ev, St.put, St.with, qload, Y9, qmk, C.cpy, TK.agg, Yb, liveR, C.cp, C.dat, Nat.reduceEqDiff, if_true, if_false, decide_true, reduceCtorEq, Bool.true_or, callP, Fs.none, Yg, argD, argC, settle, settle1, settleC, FsWb, hQd, tk39, a6, tsz9, tk9, ZA]; rfl) ?_) ?_
      refine Yo (Yp (by simp only [outRes, Yi, resD, outD, outC, C.dat, if_true, ZA]; rfl) rfl (by simp) (by simp) ?_)
      (simp only [reduceIte, ↓reduceIte, Int.reduceEq, a6] at hQ; with_reducible exact hQ)
     ·
      simp only [decide_eq_false_iff_not] at a6
      refine tri_skip ?_
      show Tri _ _ _ _
      refine Y3 okWb rfl (by repeat first | with_reducible exact Y2 | refine Y1 (by simp only [Y5, Y4, Y6, qev, St.ev, St.put, Y8, Y7, decide_false, a6, ZA]; rfl) ?_) ?_
      refine Yo (Yp (by simp only [outRes, Yi, resD, outD, outC, C.dat, if_true, ZA]; rfl) rfl (by simp) (by simp) ?_)
      (simp only [reduceIte, ↓reduceIte, noneW, a0, a1, a3, a4, a6] at hQ; with_reducible exact hQ)
set_option maxHeartbeats 2000000 in
theorem meets17 : Meets Try.prog 17 (pureS pValueB) := by
 refine Yn (show Try.prog.funcs[17]? = some Try.f17 by kernel_rfl) rfl (n := 50) rfl (rs := [ResultVar.tmp 2]) rfl ?_
 rintro ⟨k, fl, n, bi, tx⟩ ⟨h1, h2, h3⟩ Q hQ
 dsimp only at h1 h2 h3
 unfold valueB at hQ
 dsimp only at hQ
 simp only [valC]
 have hW := whole_at n h1
 obtain ⟨hb1, hb2⟩ := u64_rng h2
 obtain ⟨b, rfl⟩ : ∃ b : Nat, bi = (b : Int) := ⟨bi.toNat, by omega⟩
 rw [Int.toNat_natCast] at hQ
 have hbl : b < 18446744073709551616 := by omega
 have hx16 : (hexB b).size = 16 := by show ((hexN 16 b).toArray).size = 16; rw [List.size_toArray, hexN_len]
 have hQd := quoted_at tx (by omega)
 have hQh := quoted_at (hexB b) (by omega)
 have hqs := quotedB_le (hexB b) (by omega)
 have hA1 : (⟨#[102, 108, 111, 97, 116, 40]⟩ : ByteArray).size + (quotedF (hexB b)).size ≤ maxStr := by show 6 + _ ≤ maxStr; unfold maxStr; omega
 have hA2 : (⟨#[102, 108, 111, 97, 116, 40]⟩ ++ quotedF (hexB b) : ByteArray).size + (⟨#[41]⟩ : ByteArray).size ≤ maxStr := by rw [ByteArray.size_append]; show 6 + (quotedF (hexB b)).size + 1 ≤ maxStr; unfold maxStr; omega
 have hc0 : ((0 : Nat) : Int) = 0 := rfl
 refine Y3 okWb rfl (by repeat first | with_reducible exact Y2 | refine Y1 (by simp only [Y5, Y4, Y6, qev, St.ev, St.put, St.with, D.cells, boxA, C.st, Y8, Y7, List.replicate, Nat.reduceAdd, Nat.reduceSub, if_true, ZA]; rfl) ?_) ?_
 refine Y3 okWb rfl (by repeat first | with_reducible exact Y2 | refine Y1 (by simp only [Y5, Y4, Y6, qev, St.ev, St.put, qload, Y9, qmk, C.cpy, TK.agg, Yb, liveR, C.cp, if_true, if_false, reduceCtorEq, Nat.add_zero, tk39, tsz3, tk3, ZA]; rfl) ?_) ?_
 refine tri_block ?_
 refine Y3 okWb rfl (by repeat first | with_reducible exact Y2 | refine Y1 (by simp only [Y5, Y4, Y6, qev, St.ev, St.put, qint, Yc, Ya, qbin, Y8, Y7, if_true, if_false, ZA]; rfl) ?_) ?_
 refine Yf rfl (fun b0 => ?_) (fun b0 => ?_)
 ·
  simp only [decide_eq_true_eq] at b0
  refine Y3 okWb rfl (by repeat first | with_reducible exact Y2 | refine Y1 (by simp only [Y5, Y4, Y6, qev, St.ev, St.put, Y8, Y7, decide_true, b0, ZA]; rfl) ?_) ?_
  refine Yo (Yp (by simp only [outRes, Yi, resD, outD, outC, C.dat, if_true, ZA]; rfl) rfl (by simp) (by simp) ?_)
  (simp only [reduceIte, ↓reduceIte, nullW, b0] at hQ; with_reducible exact hQ)
 ·
  simp only [decide_eq_false_iff_not] at b0
  refine Y3 okWb rfl (by repeat first | with_reducible exact Y2 | refine Y1 (by simp only [Y5, Y4, Y6, qev, St.ev, St.put, qint, Yc, Ya, qbin, Y8, Y7, if_true, if_false, decide_false, b0, ZA]; rfl) ?_) ?_
  refine Yf rfl (fun b1 => ?_) (fun b1 => ?_)
  ·
   simp only [decide_eq_true_eq] at b1
   refine seq_in ?_
   refine Y3 okWb rfl (by repeat first | with_reducible exact Y2 | refine Y1 (by simp only [Y5, Y4, Y6, qev, St.ev, St.put, qload, Y9, qmk, C.cpy, TK.agg, Yb, liveR, C.cp, if_true, if_false, decide_true, reduceCtorEq, tk39, b1, tsz4, tk4, ZA]; rfl) ?_) ?_
   refine Yf rfl (fun b2 => ?_) (fun b2 => ?_)
   ·
    refine Y3 okWb rfl (by repeat first | with_reducible exact Y2 | refine Y1 (by simp only [Y5, Y4, Y6, qev, St.ev, St.put, Y8, Y7, b2, ZA]; rfl) ?_) ?_
    refine Yo (Yp (by simp only [outRes, Yi, resD, outD, outC, C.dat, if_true, ZA]; rfl) rfl (by simp) (by simp) ?_)
    (simp only [reduceIte, ↓reduceIte, Int.reduceEq, trueW, b1, b2] at hQ; with_reducible exact hQ)
   ·
    refine Ye ?_
    refine Y3 okWb rfl (by repeat first | with_reducible exact Y2 | refine Y1 (by simp only [Y5, Y4, Y6, qev, St.ev, St.put, Y8, Y7, b2, ZA]; rfl) ?_) ?_
    refine Yo (Yp (by simp only [outRes, Yi, resD, outD, outC, C.dat, if_true, ZA]; rfl) rfl (by simp) (by simp) ?_)
    (simp only [reduceIte, Z7, ↓reduceIte, Int.reduceEq, falseW, b1, b2] at hQ; with_reducible exact hQ)
  ·
   simp only [decide_eq_false_iff_not] at b1
   refine Y3 okWb rfl (by repeat first | with_reducible exact Y2 | refine Y1 (by simp only [Y5, Y4, Y6, qev, St.ev, St.put, qint, Yc, Ya, qbin, Y8, Y7, if_true, if_false, decide_false, b1, ZA]; rfl) ?_) ?_
   refine Yf rfl (fun b3 => ?_) (fun b3 => ?_)
   ·
    simp only [decide_eq_true_eq] at b3
    refine Y3 okWb rfl (by repeat first | with_reducible exact Y2 | refine Y1 (by simp only [Y5, Y4, Y6, evsA, qev, St.ev, St.put, St.with, qload, Y9, qmk, C.cpy, TK.agg, Yb, liveR, C.cp, C.dat, Nat.reduceEqDiff, if_true, if_false, decide_true, reduceCtorEq, Bool.true_or, callP, Fs.none, Yg, argD, argC, settle, settle1, settleC, FsWb, hW, tk39, b3, tsz2, tk2, ZA]; rfl) ?_) ?_
    refine Yo (Yp (by simp only [outRes, Yi, resD, outD, outC, C.dat, if_true, ZA]; rfl) rfl (by simp) (by simp) ?_)
    (simp only [reduceIte, ↓reduceIte, Int.reduceEq, b3] at hQ; with_reducible exact hQ)
   ·
    simp only [decide_eq_false_iff_not] at b3
    refine Y3 okWb rfl (by repeat first | with_reducible exact Y2 | refine Y1 (by simp only [Y5, Y4, Y6, qev, St.ev, St.put, qint, Yc, Ya, qbin, Y8, Y7, if_true, if_false, decide_false, b3, ZA]; rfl) ?_) ?_
    refine Yf rfl (fun b4 => ?_) (fun b4 => ?_)
    ·
     simp only [decide_eq_true_eq] at b4
     refine Y3 okWb rfl (by repeat first | with_reducible exact Y2 | refine Y1 (by simp only [Y5, Y4, Y6, qev, St.ev, St.put, Y8, Y7, decide_true, b4, ZA]; rfl) ?_) ?_
     refine Y3 okWb rfl (by repeat first | with_reducible exact Y2 | refine Y1 (by simp only [Y5, Y4, Y6, qev, St.ev, St.put, Y8, Y7, ZA]; rfl) ?_) ?_
     refine Y3 okWb rfl (by repeat first | with_reducible exact Y2 | refine Y1 (by simp only [Y5, Y4, Y6, qev, St.ev, St.put, qload, Y9, qmk, C.cpy, TK.agg, Yb, liveR, C.cp, if_true, if_false, reduceCtorEq, tk39, tsz37, tk37, ZA]; rfl) ?_) ?_
     refine seq_in ?_
     refine Y3 okWb rfl (by repeat first | with_reducible exact Y2 | refine Y1 (by simp only [Y5, Y4, Y6, qev, St.ev, St.put, Y8, Y7, ZA]; rfl) ?_) ?_
     refine tri_block ?_
     refine tri_loop_le (fun m A => ∃ (i c : Nat) (acc : List UInt8), m = 16 - i ∧ i ≤ 16 ∧ acc.length = i ∧ c < 18446744073709551616 ∧ hexN (16 - i) c ++ acc = hexN 16 b ∧ A = ⟨[.o, .c (.p 0 0 0), .c (.v (.string ⟨#[]⟩)), .c (.v (.string ⟨#[48, 49, 50, 51, 52, 53, 54, 55, 56, 57, 97, 98, 99, 100, 101, 102]⟩)), .c (.v (.string ⟨(acc).toArray⟩)), .c (.v (.int .u64 (c : Nat))), .c (.v (.int .i64 (i : Nat))), .o, .o, .o, .o, .o, .o, .o, .o, .o, .o, .o, .o, .o, .o, .o, .o, .o, .o, .o, .o, .o, .o, .o, .o, .o, .o, .o, .o, .o, .o, .o, .o, .o, .o, .o, .o, .o, .o, .o, .o, .o, .o, .o], some ⟨false, 5, [[.v (.int .i64 3), .v (.bool fl), .v (.int .i64 n), .v (.int .u64 (b : Nat)), .v (.string tx)]]⟩ :: []⟩) 16 (B := ⟨[.o, .c (.p 0 0 0), .c (.v (.string ⟨#[]⟩)), .c (.v (.string ⟨#[48, 49, 50, 51, 52, 53, 54, 55, 56, 57, 97, 98, 99, 100, 101, 102]⟩)), .c (.v (.string ⟨([]).toArray⟩)), .c (.v (.int .u64 (b : Nat))), .c (.v (.int .i64 (0 : Nat))), .o, .o, .o, .o, .o, .o, .o, .o, .o, .o, .o, .o, .o, .o, .o, .o, .o, .o, .o, .o, .o, .o, .o, .o, .o, .o, .o, .o, .o, .o, .o, .o, .o, .o, .o, .o, .o, .o, .o, .o, .o, .o, .o], some ⟨false, 5, [[.v (.int .i64 3), .v (.bool fl), .v (.int .i64 n), .v (.int .u64 (b : Nat)), .v (.string tx)]]⟩ :: []⟩) ⟨by repeat (first | exact .nil | refine .same ?_ | refine .o ?_), rfl⟩ ⟨0, b, [], rfl, by omega, rfl, hbl, List.append_nil _, rfl⟩ ?_
     rintro m A ⟨i, c, acc, hm, hi, hacl, hc, hk, rfl⟩
     have hq1 : (i : Int) + 1 = ((i + 1 : Nat) : Int) := by omega
     have hmd : ((c : Nat) : Int).tmod 16 = ((c % 16 : Nat) : Int) := rfl
     have hdv : ((c : Nat) : Int).tdiv 16 = ((c / 16 : Nat) : Int) := rfl
     have hq2 : ((c % 16 : Nat) : Int) + 1 = ((c % 16 + 1 : Nat) : Int) := (by omega)
     have hz16 : (⟨#[48, 49, 50, 51, 52, 53, 54, 55, 56, 57, 97, 98, 99, 100, 101, 102]⟩ : ByteArray).size = 16 := rfl
     have hl1 : ((c % 16 + 1 : Nat) : Int) ≤ ((16 : Nat) : Int) := (by omega)
     have hn1 : ((c % 16 : Nat) : Int) ≤ ((c % 16 + 1 : Nat) : Int) := (by omega)
     have hA3 : ((⟨#[48, 49, 50, 51, 52, 53, 54, 55, 56, 57, 97, 98, 99, 100, 101, 102]⟩ : ByteArray).extract (c % 16) (c % 16 + 1)).size + (⟨acc.toArray⟩ : ByteArray).size ≤ maxStr := (by rw [ByteArray.size_extract, hz16]; show _ + acc.toArray.size ≤ _; rw [List.size_toArray]; unfold maxStr; omega)
     have hap : ((⟨#[48, 49, 50, 51, 52, 53, 54, 55, 56, 57, 97, 98, 99, 100, 101, 102]⟩ : ByteArray).extract (c % 16) (c % 16 + 1)) ++ (⟨acc.toArray⟩ : ByteArray) = ⟨(hexD (c % 16) :: acc).toArray⟩ := (by rw [ext1' (by rw [hz16]; omega)]; apply ByteArray.ext; rw [ByteArray.data_append]; simp; rfl)
     have hend := fun (h : ¬ ((i : Nat) : Int) < 16) => (show acc = hexN 16 b by rw [← hk, show 16 - i = 0 by omega]; rfl)
     have hxB : (⟨(hexN 16 b).toArray⟩ : ByteArray) = hexB b := rfl
     refine seq_in ?_
     refine Y3 okWb rfl (by repeat first | with_reducible exact Y2 | refine Y1 (by simp only [Y5, Y4, Y6, qev, St.ev, St.put, qint, Yc, Ya, qbin, Y8, Y7, if_true, if_false, ZA]; rfl) ?_) ?_
     refine Yf rfl (fun b5 => ?_) (fun b5 => ?_)
     ·
      simp only [decide_eq_true_eq] at b5
      refine Ye ?_
      refine seq_in (tri_block ?_)
      refine Y3 okWb rfl (by repeat first | with_reducible exact Y2 | refine Y1 (by simp only [Y5, Y4, Y6, qev, St.ev, St.put, qint, Yc, Ya, qbin, qconv, Y8, Y7, if_true, if_false, decide_true, Int.reduceEq, hmd, tk3, tk37, b5, show IntKind.u64.wrap (↑(c % 16) : Int) = _ from wrap_u64 _ (by omega) (by omega), show IntKind.i64.wrap (↑(c % 16) : Int) = _ from wrap_i64 _ (by omega) (by omega), ZA]; rfl) ?_) ?_
      refine Y3 okWb rfl (by repeat first | with_reducible exact Y2 | refine Y1 (by simp only [Y5, Y4, Y6, qev, St.ev, St.put, D.int, qint, Yc, qstr, Ya, qbin, qbounds, qslice, omap, Y8, Y7, if_true, if_false, Int.toNat_natCast, Int.natCast_nonneg, hq2, hz16, hl1, hn1, hA3, hap, show IntKind.i64.wrap (↑(c % 16 + 1) : Int) = _ from wrap_i64 _ (by omega) (by omega), tk9, ZA]; rfl) ?_) ?_
      refine Yk okWb rfl (by repeat first | with_reducible exact Y2 | refine Y1 (by simp only [Y5, Y4, Y6, qev, St.ev, St.put, qint, Yc, Ya, qbin, Y8, Y7, if_true, if_false, Int.reduceEq, hdv, show IntKind.u64.wrap (↑(c / 16) : Int) = _ from wrap_u64 _ (by omega) (by omega), ZA]; rfl) ?_) ?_
      show Tri _ _ _ _
      refine Yk okWb rfl (by repeat first | with_reducible exact Y2 | refine Y1 (by simp only [Y5, Y4, Y6, qev, St.ev, St.put, qint, Yc, Ya, qbin, Y8, Y7, if_true, if_false, hq1, show IntKind.i64.wrap (↑(i + 1) : Int) = _ from wrap_i64 _ (by omega) (by omega), ZA]; rfl) ?_) ?_
      simp only []
      (exact ⟨16 - (i + 1), by omega, ⟨[.o, .c (.p 0 0 0), .c (.v (.string ⟨#[]⟩)), .c (.v (.string ⟨#[48, 49, 50, 51, 52, 53, 54, 55, 56, 57, 97, 98, 99, 100, 101, 102]⟩)), .c (.v (.string ⟨(hexD (c % 16) :: acc).toArray⟩)), .c (.v (.int .u64 (c / 16 : Nat))), .c (.v (.int .i64 (i + 1 : Nat))), .o, .o, .o, .o, .o, .o, .o, .o, .o, .o, .o, .o, .o, .o, .o, .o, .o, .o, .o, .o, .o, .o, .o, .o, .o, .o, .o, .o, .o, .o, .o, .o, .o, .o, .o, .o, .o, .o, .o, .o, .o, .o, .o], some ⟨false, 5, [[.v (.int .i64 3), .v (.bool fl), .v (.int .i64 n), .v (.int .u64 (b : Nat)), .v (.string tx)]]⟩ :: []⟩, ⟨by repeat (first | exact .nil | refine .same ?_ | refine .o ?_), rfl⟩, i + 1, c / 16, hexD (c % 16) :: acc, rfl, by omega, (by rw [List.length_cons, hacl]), by omega, (by rw [← hk, show 16 - i = (16 - (i + 1)) + 1 by omega, hexN, List.append_assoc]; rfl), rfl⟩)
     ·
      simp only [decide_eq_false_iff_not] at b5
      refine tri_exit ?_
      show Tri _ _ _ _
      refine Y3 okWb rfl (by repeat first | with_reducible exact Y2 | refine Y1 (by simp only [Y5, Y4, Y6, evsA, qev, St.ev, St.put, St.with, C.cpy, qstr, qbin, C.cp, C.dat, Y8, Y7, Nat.reduceEqDiff, if_true, if_false, decide_false, Bool.true_or, callP, Fs.none, Yg, argD, argC, settle, settle1, settleC, FsWb, hQh, hA1, hA2, hend, hxB, b5, ZA]; rfl) ?_) ?_
      refine Yo (Yp (by simp only [outRes, Yi, resD, outD, outC, C.dat, if_true, ZA]; rfl) rfl (by simp) (by simp) ?_)
      (simp only [reduceIte, ↓reduceIte, Int.reduceEq, floatP, rpar, b4] at hQ; with_reducible exact hQ)
    ·
     simp only [decide_eq_false_iff_not] at b4
     refine Y3 okWb rfl (by repeat first | with_reducible exact Y2 | refine Y1 (by simp only [Y5, Y4, Y6, qev, St.ev, St.put, qint, Yc, Ya, qbin, Y8, Y7, if_true, if_false, decide_false, b4, ZA]; rfl) ?_) ?_
     refine Yf rfl (fun b6 => ?_) (fun b6 => ?_)
     ·
      simp only [decide_eq_true_eq] at b6
      refine Y3 okWb rfl (by repeat first | with_reducible exact Y2 | refine Y1 (by simp only [Y5, Y4, Y6, evsA, qev, St.ev, St.put, St.with, qload, Y9, qmk, C.cpy, TK.agg, Yb, liveR, C.cp, C.dat, Nat.reduceEqDiff, if_true, if_false, decide_true, reduceCtorEq, Bool.true_or, callP, Fs.none, Yg, argD, argC, settle, settle1, settleC, FsWb, hQd, tk39, b6, tsz9, tk9, ZA]; rfl) ?_) ?_
      refine Yo (Yp (by simp only [outRes, Yi, resD, outD, outC, C.dat, if_true, ZA]; rfl) rfl (by simp) (by simp) ?_)
      (simp only [reduceIte, ↓reduceIte, Int.reduceEq, b6] at hQ; with_reducible exact hQ)
     ·
      simp only [decide_eq_false_iff_not] at b6
      refine Y3 okWb rfl (by repeat first | with_reducible exact Y2 | refine Y1 (by simp only [Y5, Y4, Y6, qev, St.ev, St.put, Y8, Y7, decide_false, b6, ZA]; rfl) ?_) ?_
      refine Yo (Yp (by simp only [outRes, Yi, resD, outD, outC, C.dat, if_true, ZA]; rfl) rfl (by simp) (by simp) ?_)
      (simp only [reduceIte, ↓reduceIte, noneW, b0, b1, b3, b4, b6] at hQ; with_reducible exact hQ)
def nanB (b : Int) : Bool := decide (9218868437227405312 < IntKind.u64.wrap ((BitVec.ofInt IntKind.u64.bits b &&& BitVec.ofInt IntKind.u64.bits 9223372036854775807).toNat))
noncomputable def pNan : List D → Option D := famP (fun b : Int => True) (fun b => [.c (.v (.int .u64 b))]) (fun b => dB (nanB b))
theorem meets40 : Meets Try.prog 40 (pureS pNan) := by
 refine Yn (show Try.prog.funcs[40]? = some Try.f40 by kernel_rfl) rfl (n := 6) rfl (rs := [ResultVar.tmp 2]) rfl ?_
 intro b _ Q hQ
 refine Y3 ok0 rfl (by repeat first | with_reducible exact Y2 | refine Y1 (by simp only [Y5, Y4, Y6, qev, St.ev, St.put, Y8, Y7, List.replicate, Nat.reduceSub, ZA]; rfl) ?_) ?_
 refine Y3 ok0 rfl (by repeat first | with_reducible exact Y2 | refine Y1 (by simp only [Y5, Y4, Y6, qev, St.ev, St.put, qint, Yc, Ya, qbin, Y8, Y7, if_true, if_false, ZA]; rfl) ?_) ?_
 refine Yo (Yp (by simp only [outRes, Yi, resD, outD, outC, C.dat, if_true, ZA]; rfl) rfl (by simp) (by simp) ?_)
 (simp only [nanB, dB] at hQ; with_reducible exact hQ)
theorem nan_at (b : Int) : pNan [.c (.v (.int .u64 b))] = some (dB (nanB b)) := Ym (fun a b h => by
 simp only [List.cons.injEq, D.c.injEq, C.v.injEq, Value.int.injEq, and_true, true_and] at h
 subst h; rfl) b trivial rfl
def cleanF (v : Val) : Val :=
 if v.1 = 1 then (v.1, v.2.1, 0, 0, noText) else if v.1 = 2 then (v.1, false, v.2.2.1, 0, noText)
 else if v.1 = 3 then (if nanB v.2.2.2.1 = true then (v.1, false, 0, 9221120237041090561, noText) else (v.1, false, 0, v.2.2.2.1, noText)) else if v.1 = 4 then (v.1, false, 0, 0, v.2.2.2.2) else (v.1, false, 0, 0, noText)
noncomputable def FsWc : Fs := { Fs.none with pure := fun k => if k = 40 then some pNan else none }
theorem okWc : FsOK Try.prog FsWc := by
 refine ⟨fun k f h => ?_, fun _ _ h => (by cases h)⟩
 simp only [FsWc] at h
 split at h
 · rename_i hk; subst hk; cases h; exact ⟨by kernel_rfl, meets40⟩
 · cases h
noncomputable def pClean : List D → Option D := famP (fun _ : Val => True) (fun v => [.agg (valC v)]) (fun v => .agg (valC (cleanF v)))
theorem clean_at (v : Val) : pClean [.agg (valC v)] = some (.agg (valC (cleanF v))) := Ym (fun a b h => by
 simp only [List.cons.injEq, D.agg.injEq, and_true] at h
 rw [valC_inj h]) v trivial rfl
theorem meets19 : Meets Try.prog 19 (pureS pClean) := by
 refine Yn (show Try.prog.funcs[19]? = some Try.f19 by kernel_rfl) rfl (n := 34) rfl (rs := [ResultVar.cell 2 39]) rfl ?_
 rintro ⟨k, fl, n, b, tx⟩ _ Q hQ
 unfold cleanF at hQ
 dsimp only at hQ
 have hN := nan_at b
 simp only [valC] at hQ ⊢
 refine Y3 okWc rfl (by repeat first | with_reducible exact Y2 | refine Y1 (by simp only [Y5, Y4, Y6, St.ev, St.put, St.with, D.cells, boxA, C.st, List.replicate, Nat.reduceAdd, Nat.reduceSub, if_true, tz39, ZA]; rfl) ?_) ?_
 refine Y3 okWc rfl (by repeat first | with_reducible exact Y2 | refine Y1 (by simp only [Y5, Y4, Y6, qev, St.ev, St.put, St.with, D.cells, boxA, qload, Y9, qmk, C.cpy, TK.agg, Yb, liveR, C.st, C.cp, C.dat, storeA, putCells, Nat.reduceAdd, if_true, if_false, ne_eq, reduceCtorEq, Nat.reduceLeDiff, Nat.le_refl, Nat.reduceBNe, implies_true, Nat.add_zero, buildA, partsA, fillA, placeSt, tk39, tsz39, tz39, tsz3, tk3, tsz4, tsz2, tsz37, tsz9, ZA]; rfl) ?_) ?_
 refine seq_in ?_
 refine Y3 okWc rfl (by repeat first | with_reducible exact Y2 | refine Y1 (by simp only [Y5, Y4, Y6, qev, St.ev, St.put, qload, Y9, qmk, C.cpy, TK.agg, Yb, liveR, C.cp, if_true, if_false, reduceCtorEq, Nat.add_zero, tk39, tsz3, tk3, ZA]; rfl) ?_) ?_
 refine tri_block ?_
 refine Y3 okWc rfl (by repeat first | with_reducible exact Y2 | refine Y1 (by simp only [Y5, Y4, Y6, qev, St.ev, St.put, qint, Yc, Ya, qbin, Y8, Y7, if_true, if_false, ZA]; rfl) ?_) ?_
 refine Yf rfl (fun a0 => ?_) (fun a0 => ?_)
 ·
  simp only [decide_eq_true_eq] at a0
  refine Yk okWc rfl (by repeat first | with_reducible exact Y2 | refine Y1 (by simp only [Y5, Y4, Y6, qev, St.ev, St.put, D.cells, qload, Y9, qmk, C.cpy, TK.agg, Yb, liveR, C.st, C.cp, C.dat, storeA, putCells, Nat.reduceAdd, if_true, if_false, decide_true, ne_eq, reduceCtorEq, Nat.reduceLeDiff, implies_true, tk39, tsz4, a0, tk4, ZA]; rfl) ?_) ?_
  show Tri _ _ _ _
  refine Y3 okWc rfl (by repeat first | with_reducible exact Y2 | refine Y1 (by simp only [Y5, Y4, Y6, qev, St.ev, St.put, D.cells, qload, Y9, qmk, C.cpy, TK.agg, C.st, C.cp, C.dat, storeA, putCells, Nat.reduceAdd, if_true, ne_eq, reduceCtorEq, Nat.le_refl, implies_true, tk39, tsz39, ZA]; rfl) ?_) ?_
  refine Yo (Yp (by simp only [outRes, Yi, resD, outD, outC, outCs, qload, Y9, qmk, C.cpy, TK.agg, C.cp, C.dat, Nat.reduceAdd, if_true, tk39, tsz39, ZA]; rfl) rfl (by simp) (by simp) ?_)
  (simp only [reduceIte, ↓reduceIte, noText, a0] at hQ; with_reducible exact hQ)
 ·
  simp only [decide_eq_false_iff_not] at a0
  refine Y3 okWc rfl (by repeat first | with_reducible exact Y2 | refine Y1 (by simp only [Y5, Y4, Y6, qev, St.ev, St.put, qint, Yc, Ya, qbin, Y8, Y7, if_true, if_false, decide_false, a0, ZA]; rfl) ?_) ?_
  refine Yf rfl (fun a1 => ?_) (fun a1 => ?_)
  ·
   simp only [decide_eq_true_eq] at a1
   refine Yk okWc rfl (by repeat first | with_reducible exact Y2 | refine Y1 (by simp only [Y5, Y4, Y6, qev, St.ev, St.put, D.cells, qload, Y9, qmk, C.cpy, TK.agg, Yb, liveR, C.st, C.cp, C.dat, storeA, putCells, Nat.reduceAdd, if_true, if_false, decide_true, ne_eq, reduceCtorEq, Nat.reduceLeDiff, implies_true, tk39, tsz2, a1, tk2, ZA]; rfl) ?_) ?_
   show Tri _ _ _ _
   refine Y3 okWc rfl (by repeat first | with_reducible exact Y2 | refine Y1 (by simp only [Y5, Y4, Y6, qev, St.ev, St.put, D.cells, qload, Y9, qmk, C.cpy, TK.agg, C.st, C.cp, C.dat, storeA, putCells, Nat.reduceAdd, if_true, ne_eq, reduceCtorEq, Nat.le_refl, implies_true, tk39, tsz39, ZA]; rfl) ?_) ?_
   refine Yo (Yp (by simp only [outRes, Yi, resD, outD, outC, outCs, qload, Y9, qmk, C.cpy, TK.agg, C.cp, C.dat, Nat.reduceAdd, if_true, tk39, tsz39, ZA]; rfl) rfl (by simp) (by simp) ?_)
   (simp only [reduceIte, ↓reduceIte, Int.reduceEq, noText, a1] at hQ; with_reducible exact hQ)
  ·
   simp only [decide_eq_false_iff_not] at a1
   refine Y3 okWc rfl (by repeat first | with_reducible exact Y2 | refine Y1 (by simp only [Y5, Y4, Y6, qev, St.ev, St.put, qint, Yc, Ya, qbin, Y8, Y7, if_true, if_false, decide_false, a1, ZA]; rfl) ?_) ?_
   refine Yf rfl (fun a2 => ?_) (fun a2 => ?_)
   ·
    simp only [decide_eq_true_eq] at a2
    refine Y3 okWc rfl (by repeat first | with_reducible exact Y2 | refine Y1 (by simp only [Y5, Y4, Y6, qev, St.ev, St.put, D.cells, qload, Y9, qmk, C.cpy, TK.agg, Yb, liveR, C.st, C.cp, C.dat, storeA, putCells, Nat.reduceAdd, if_true, if_false, decide_true, ne_eq, reduceCtorEq, Nat.reduceLeDiff, implies_true, tk39, tsz37, a2, tk37, ZA]; rfl) ?_) ?_
    refine Y3 okWc rfl (by repeat first | with_reducible exact Y2 | refine Y1 (by simp only [Y5, Y4, Y6, evsA, qev, St.ev, St.put, St.with, qload, Y9, qmk, C.cpy, TK.agg, Yb, liveR, C.cp, C.dat, if_true, if_false, reduceCtorEq, Bool.true_or, callP, Fs.none, Yg, argD, argC, settle, settle1, settleC, dB, FsWc, hN, tk39, tsz37, tk37, ZA]; rfl) ?_) ?_
    refine Yf rfl (fun a3 => ?_) (fun a3 => ?_)
    ·
     refine Yk okWc rfl (by repeat first | with_reducible exact Y2 | refine Y1 (by simp only [Y5, Y4, Y6, qev, St.ev, St.put, D.cells, Yb, liveR, C.st, C.dat, storeA, putCells, Y8, Y7, Nat.reduceAdd, if_true, if_false, ne_eq, reduceCtorEq, Nat.reduceLeDiff, implies_true, tk39, tsz37, a3, ZA]; rfl) ?_) ?_
     show Tri _ _ _ _
     refine Y3 okWc rfl (by repeat first | with_reducible exact Y2 | refine Y1 (by simp only [Y5, Y4, Y6, qev, St.ev, St.put, D.cells, qload, Y9, qmk, C.cpy, TK.agg, C.st, C.cp, C.dat, storeA, putCells, Nat.reduceAdd, if_true, ne_eq, reduceCtorEq, Nat.le_refl, implies_true, tk39, tsz39, ZA]; rfl) ?_) ?_
     refine Yo (Yp (by simp only [outRes, Yi, resD, outD, outC, outCs, qload, Y9, qmk, C.cpy, TK.agg, C.cp, C.dat, Nat.reduceAdd, if_true, tk39, tsz39, ZA]; rfl) rfl (by simp) (by simp) ?_)
     (simp only [reduceIte, ↓reduceIte, Int.reduceEq, noText, a2, a3] at hQ; with_reducible exact hQ)
    ·
     refine tri_skip ?_
     show Tri _ _ _ _
     refine Y3 okWc rfl (by repeat first | with_reducible exact Y2 | refine Y1 (by simp only [Y5, Y4, Y6, qev, St.ev, St.put, D.cells, qload, Y9, qmk, C.cpy, TK.agg, C.st, C.cp, C.dat, storeA, putCells, Nat.reduceAdd, if_true, ne_eq, reduceCtorEq, Nat.le_refl, implies_true, tk39, tsz39, a3, ZA]; rfl) ?_) ?_
     refine Yo (Yp (by simp only [outRes, Yi, resD, outD, outC, outCs, qload, Y9, qmk, C.cpy, TK.agg, C.cp, C.dat, Nat.reduceAdd, if_true, tk39, tsz39, ZA]; rfl) rfl (by simp) (by simp) ?_)
     (simp only [reduceIte, Z7, ↓reduceIte, Int.reduceEq, noText, a2, a3] at hQ; with_reducible exact hQ)
   ·
    simp only [decide_eq_false_iff_not] at a2
    refine Y3 okWc rfl (by repeat first | with_reducible exact Y2 | refine Y1 (by simp only [Y5, Y4, Y6, qev, St.ev, St.put, qint, Yc, Ya, qbin, Y8, Y7, if_true, if_false, decide_false, a2, ZA]; rfl) ?_) ?_
    refine Yf rfl (fun a4 => ?_) (fun a4 => ?_)
    ·
     simp only [decide_eq_true_eq] at a4
     refine Yk okWc rfl (by repeat first | with_reducible exact Y2 | refine Y1 (by simp only [Y5, Y4, Y6, qev, St.ev, St.put, D.cells, qload, Y9, qmk, C.cpy, TK.agg, Yb, liveR, C.st, C.cp, C.dat, storeA, putCells, Nat.reduceAdd, if_true, if_false, decide_true, ne_eq, reduceCtorEq, Nat.le_refl, implies_true, tk39, tsz9, a4, tk9, ZA]; rfl) ?_) ?_
     show Tri _ _ _ _
     refine Y3 okWc rfl (by repeat first | with_reducible exact Y2 | refine Y1 (by simp only [Y5, Y4, Y6, qev, St.ev, St.put, D.cells, qload, Y9, qmk, C.cpy, TK.agg, C.st, C.cp, C.dat, storeA, putCells, Nat.reduceAdd, if_true, ne_eq, reduceCtorEq, Nat.le_refl, implies_true, tk39, tsz39, ZA]; rfl) ?_) ?_
     refine Yo (Yp (by simp only [outRes, Yi, resD, outD, outC, outCs, qload, Y9, qmk, C.cpy, TK.agg, C.cp, C.dat, Nat.reduceAdd, if_true, tk39, tsz39, ZA]; rfl) rfl (by simp) (by simp) ?_)
     (simp only [reduceIte, ↓reduceIte, Int.reduceEq, a4] at hQ; with_reducible exact hQ)
    ·
     simp only [decide_eq_false_iff_not] at a4
     refine tri_skip ?_
     show Tri _ _ _ _
     refine Y3 okWc rfl (by repeat first | with_reducible exact Y2 | refine Y1 (by simp only [Y5, Y4, Y6, qev, St.ev, St.put, D.cells, qload, Y9, qmk, C.cpy, TK.agg, C.st, C.cp, C.dat, storeA, putCells, Nat.reduceAdd, if_true, decide_false, ne_eq, reduceCtorEq, Nat.le_refl, implies_true, tk39, tsz39, a4, ZA]; rfl) ?_) ?_
     refine Yo (Yp (by simp only [outRes, Yi, resD, outD, outC, outCs, qload, Y9, qmk, C.cpy, TK.agg, C.cp, C.dat, Nat.reduceAdd, if_true, tk39, tsz39, ZA]; rfl) rfl (by simp) (by simp) ?_)
     (simp only [reduceIte, ↓reduceIte, noText, a0, a1, a2, a4] at hQ; with_reducible exact hQ)
end Go.Dl

namespace Go.Dl
open Go.RowKit
open Go.Proofs
set_option linter.unusedVariables false
theorem sz (a : ByteArray) : a.data.toList.length = a.size := by simp
theorem byU_app_l {a r : ByteArray} {p : Nat} (h : p < a.size) : byU (a ++ r) p = byU a p := by
 unfold byU
 have h' : p < a.data.toList.length := by rw [sz]; exact h
 rw [ByteArray.data_append, Array.toList_append, List.getD_eq_getElem?_getD, List.getD_eq_getElem?_getD, List.getElem?_append_left h']
theorem byU_app_r (a r : ByteArray) (j : Nat) : byU (a ++ r) (a.size + j) = byU r j := by
 unfold byU
 rw [ByteArray.data_append, Array.toList_append, ← sz a, getD_app]
theorem byt_app_l {a r : ByteArray} {p : Nat} (h : p < a.size) : byt (a ++ r) p = byt a p := by
 show ((byU (a ++ r) p).toNat : Int) = ((byU a p).toNat : Int)
 rw [byU_app_l h]
theorem byt_app_r (a r : ByteArray) (j : Nat) : byt (a ++ r) (a.size + j) = byt r j := by
 show ((byU (a ++ r) (a.size + j)).toNat : Int) = ((byU r j).toNat : Int)
 rw [byU_app_r]
theorem ext_r (a r : ByteArray) : (a ++ r).extract a.size (a.size + r.size) = r := by
 apply ByteArray.ext
 rw [ByteArray.data_extract]
 apply Array.ext'
 rw [Array.toList_extract, List.extract_eq_take_drop, ByteArray.data_append, Array.toList_append, List.drop_append_of_le_length (by rw [sz]; omega), List.drop_of_length_le (by rw [sz]; omega), List.nil_append, List.take_of_length_le (by rw [sz]; omega)]
/-- What may stand behind a token that is no mark: nothing, or a blank. -/
def sep (r : ByteArray) : Prop := r.size = 0 ∨ byt r 0 = 32
theorem next_word {T : ByteArray} {o : Nat} (ho : o < T.size) (hl : isLetter (byt T o) = true) : nextF T o = some (((0, T.extract o (runF isWordC T o), (o : Int)) : Tok), true, (0 : Int), runF isWordC T o) := by
 have hb : blkF T o = o := blkF_stop fun _ => by
  simp only [isLetter, Bool.or_eq_true, Bool.and_eq_true, decide_eq_true_eq] at hl
  exact ⟨by simp only [isBlank, Bool.or_eq_false_iff, decide_eq_false_iff_not]; omega, by omega⟩
 unfold nextF
 rw [hb, if_neg (by omega), if_pos hl]
theorem next_num {T : ByteArray} {o : Nat} (ho : o < T.size) (hd : isDigit (byt T o) = true ∨ byt T o = 45) (hn : strEq (T.extract o (runF isDigit T (o + 1))) dash = false) :
  nextF T o = some (((1, T.extract o (runF isDigit T (o + 1)), (o : Int)) : Tok), true, (0 : Int), runF isDigit T (o + 1)) := by
 have hr : 48 ≤ byt T o ∧ byt T o ≤ 57 ∨ byt T o = 45 := by
  simp only [isDigit, Bool.and_eq_true, decide_eq_true_eq] at hd; exact hd
 have hb : blkF T o = o := blkF_stop fun _ => ⟨by simp only [isBlank, Bool.or_eq_false_iff, decide_eq_false_iff_not]; omega, by omega⟩
 have hle := runF_le isDigit T (o + 1) ho
 unfold nextF
 rw [hb, if_neg (by omega), if_neg (by simp only [isLetter, Bool.or_eq_true, Bool.and_eq_true, decide_eq_true_eq]; omega), if_pos hd, ByteArray.extract_append_extract, show min o (o + 1) = o by omega, show max (o + 1) (runF isDigit T (o + 1)) = runF isDigit T (o + 1) by omega, hn]
 rfl
theorem next_quote {T : ByteArray} {o : Nat} (ho : o < T.size) (hq : byt T o = 34) {t : ByteArray} {e : Nat} (h : quoteF T o = (t, true, e)) : nextF T o = some (((2, t, (o : Int)) : Tok), true, (0 : Int), e) := by
 have hb : blkF T o = o := blkF_stop fun _ => ⟨by rw [hq]; decide, by omega⟩
 unfold nextF
 rw [hb, if_neg (by omega), hq, if_neg (by decide), if_neg (by decide), if_pos rfl, h, if_pos rfl]
theorem next_mark {T : ByteArray} {o : Nat} (ho : o < T.size) {m : Int} (hm : byt T o = m) (h1 : isLetter m = false) (h2 : isDigit m = false) (h3 : isBlank m = false) (h4 : ¬ m = 35) (h5 : ¬ m = 45) (h6 : ¬ m = 34) (h7 : 0 ≤ idxB marks m) :
  nextF T o = some (((3, T.extract o (o + 1), (o : Int)) : Tok), true, (0 : Int), o + 1) := by
 have hb : blkF T o = o := blkF_stop fun _ => ⟨by rw [hm]; exact h3, by rw [hm]; exact h4⟩
 unfold nextF
 rw [hb, if_neg (by omega), hm, if_neg (by rw [h1]; simp), if_neg (by rw [h2]; simp [h5]), if_neg h6, if_pos h7]
/-- From a place on a text has these tokens, up to a place. -/
def lexes (T : ByteArray) (o : Nat) (l : List Tok) (o' : Nat) : Prop := ∀ n acc, toksN (n + l.length) T o acc = toksN n T o' (acc ++ l)
theorem lexes_one {T : ByteArray} {o e : Nat} {t : Tok} (h : nextF T o = some (t, true, 0, e)) : lexes T o [t] e := by
 intro n acc
 show toksN (n + 1) T o acc = _
 rw [toksN, h]
 rfl
theorem lexes_app {T : ByteArray} {o p q : Nat} {l m : List Tok} (h1 : lexes T o l p) (h2 : lexes T p m q) : lexes T o (l ++ m) q := by
 intro n acc
 rw [List.length_append, show n + (l.length + m.length) = (n + m.length) + l.length by omega, h1, h2, List.append_assoc]
theorem lexes_nil (T : ByteArray) (o : Nat) : lexes T o [] o := fun n acc => by simp
theorem toksN_fuel : ∀ (n m : Nat) (s : ByteArray) (p : Nat) (acc : List Tok), p ≤ s.size → s.size - p < n → s.size - p < m → toksN n s p acc = toksN m s p acc
 | 0, m, s, p, acc, hp, h, _ => by omega
 | n + 1, 0, s, p, acc, hp, _, h => by omega
 | n + 1, m + 1, s, p, acc, hp, hn, hm => by
  obtain ⟨⟨t, b, e, r⟩, hr⟩ := nextF_some s p
  simp only [toksN, hr, Z8]
  split
  · rfl
  · cases b with
    | false => rfl
    | true =>
     rw [if_neg (by simp), if_neg (by simp)]
     have h := nextF_le hp hr
     exact toksN_fuel n m s r _ h.1 (by have := h.2 rfl; omega) (by have := h.2 rfl; omega)
theorem toks_lex {T : ByteArray} (hT : T.size ≤ 65536) {l : List Tok} {o : Nat} (h : lexes T 0 l o) : toksF T = toksN (T.size + 1) T o l := by
 unfold toksF
 rw [if_neg (by omega), toksN_fuel (T.size + 1) (T.size + 1 + l.length) T 0 [] (Nat.zero_le _) (by omega) (by omega), h]
 rfl
theorem toks_whole {T : ByteArray} (hT : T.size ≤ 65536) {l : List Tok} (h : lexes T 0 l T.size) : toksT T = (l, 0, 0) := by
 have h1 := toks_lex hT h
 have hb : blkF T T.size = T.size := blkF_stop fun h => absurd h (Nat.lt_irrefl _)
 have h2 : toksF T = some (l, 0, 0) := by
  rw [h1, toksN]
  unfold nextF
  rw [hb, if_pos rfl]
  rfl
 unfold toksT
 rw [h2]; rfl
/-- A text's quote within a text is read as it is. -/
theorem quote_in (s T : ByteArray) (o : Nat) (hz : o + (quotedF s).size ≤ T.size) (hby : ∀ j, j < (quotedF s).size → byU T (o + j) = byU (quotedF s) j) :
  ∀ (d f i : Nat), s.size - i ≤ d → i ≤ s.size → d < f → quoteN f T (o + (qAcc s i).length) (s.data.toList.take i) = (s, true, o + (quotedF s).size) := by
 have hlen : s.data.toList.length = s.size := sz s
 intro d
 induction d with
 | zero =>
  intro f i hd hi hf
  obtain ⟨f, rfl⟩ : ∃ k, f = k + 1 := ⟨f - 1, by omega⟩
  obtain rfl : i = s.size := by omega
  have hb := byU_q (s := s) s.size 0
  rw [List.drop_of_length_le (by omega)] at hb
  have hzq := quoted_size s s.size
  rw [List.drop_of_length_le (by omega)] at hzq
  simp only [Nat.add_zero] at hb
  have hzq' : (quotedF s).size = (qAcc s s.size).length + 1 := by rw [hzq]; simp
  simp only [quoteN]
  rw [if_pos (by omega), hby _ (by omega), hb]
  rw [if_pos (by decide), take_ok, hzq']
  rfl
 | succ d ih =>
  intro f i hd hi hf
  by_cases hi2 : i = s.size
  · exact ih f i (by omega) hi (by omega)
  · obtain ⟨f, rfl⟩ : ∃ k, f = k + 1 := ⟨f - 1, by omega⟩
    have hlt : i < s.data.toList.length := by omega
    have hx : s.data.toList[i] = byU s i := by unfold byU; rw [List.getD_eq_getElem?_getD, List.getElem?_eq_getElem hlt, Option.getD_some]
    have hdrop : s.data.toList.drop i = byU s i :: s.data.toList.drop (i + 1) := by rw [List.drop_eq_getElem_cons hlt, hx]
    have htake : s.data.toList.take i ++ [byU s i] = s.data.toList.take (i + 1) := by rw [List.take_succ_eq_append_getElem hlt, hx]
    have hzq := quoted_size s i
    rw [hdrop, List.flatMap_cons, List.length_append] at hzq
    have hB2 : ∀ j, byU (quotedF s) ((qAcc s i).length + j) = ((encB (byU s i) ++ (s.data.toList.drop (i + 1)).flatMap encB) ++ [34]).getD j 0 := fun j => by rw [byU_q (s := s) i j, hdrop, List.flatMap_cons]
    have hT2 : ∀ j, j < (encB (byU s i)).length → byU T (o + (qAcc s i).length + j) = ((encB (byU s i) ++ (s.data.toList.drop (i + 1)).flatMap encB) ++ [34]).getD j 0 := fun j hj => by
     rw [Nat.add_assoc, hby _ (by omega), hB2]
    have hnext := ih f (i + 1) (by omega) (by omega) (by omega)
    have hacc := qAcc_succ (s := s) (i := i) (by omega)
    by_cases hp : isPlain (byU s i).toNat = true
    · have he : encB (byU s i) = [byU s i] := by unfold encB; rw [if_pos hp]
      rw [he] at hacc hzq hT2
      have h0 : byU T (o + (qAcc s i).length) = byU s i := hT2 0 (by simp)
      rw [List.length_singleton] at hzq
      have hn34 : ¬ ((byU s i).toNat : Int) = 34 := by intro h; rw [h] at hp; revert hp; decide
      have hn92 : ¬ ((byU s i).toNat : Int) = 92 := by intro h; rw [h] at hp; revert hp; decide
      simp only [quoteN]
      rw [if_pos (by omega), h0, if_neg hn34, if_neg hn92, if_pos hp, htake]
      rw [hacc, List.length_append, List.length_singleton] at hnext
      exact hnext
    · have he : encB (byU s i) = [92, 120, hexD ((byU s i).toNat / 16), hexD ((byU s i).toNat % 16)] := by unfold encB; rw [if_neg hp]
      rw [he] at hacc hzq hT2
      have hxl := (byU s i).toNat_lt
      have h0 : byU T (o + (qAcc s i).length) = 92 := hT2 0 (by simp)
      have h1 : byU T (o + (qAcc s i).length + 1) = 120 := hT2 1 (by simp)
      have h2 : byU T (o + (qAcc s i).length + 2) = hexD ((byU s i).toNat / 16) := hT2 2 (by simp)
      have h3 : byU T (o + (qAcc s i).length + 3) = hexD ((byU s i).toNat % 16) := hT2 3 (by simp)
      have hz4 : (quotedF s).size = (qAcc s i).length + (4 + ((s.data.toList.drop (i + 1)).flatMap encB).length) + 1 := hzq
      have n2 : nibR (byU T (o + (qAcc s i).length + 2)).toNat = (((byU s i).toNat / 16 : Nat) : Int) := by rw [h2]; exact tab_hex ⟨(byU s i).toNat / 16, by omega⟩
      have n3 : nibR (byU T (o + (qAcc s i).length + 3)).toNat = (((byU s i).toNat % 16 : Nat) : Int) := by rw [h3]; exact tab_hex ⟨(byU s i).toNat % 16, by omega⟩
      obtain ⟨e1, e2⟩ := escB_sum (s := T) (p := o + (qAcc s i).length) (by omega) (by rw [n2]; omega) (by rw [n3]; omega)
      have ev : escB (T.extract (o + (qAcc s i).length + 2) T.size) = byU s i := by
       apply UInt8.toNat_inj.1
       rw [n2, n3] at e2
       omega
      have eo : (escF (T.extract (o + (qAcc s i).length + 2) T.size)).2 = true := by
       rw [esc_ok (by omega), n2, n3]
       simp; omega
      simp only [quoteN]
      rw [if_pos (by omega), h0, if_neg (by decide), if_pos (by decide), if_neg (by omega), h1, if_pos (by decide), if_pos eo, ev, if_neg hp, htake]
      rw [hacc, List.length_append] at hnext
      exact hnext
theorem quote_here {s T : ByteArray} {o : Nat} (hz : o + (quotedF s).size ≤ T.size) (hby : ∀ j, j < (quotedF s).size → byU T (o + j) = byU (quotedF s) j) : quoteF T o = (s, true, o + (quotedF s).size) := by
 have hg := quoted_ge s
 exact quote_in s T o hz hby s.size (T.size + 1) 0 (by omega) (by omega) (by omega)
theorem lex_quote {s T : ByteArray} {o : Nat} (hz : o + (quotedF s).size ≤ T.size) (hby : ∀ j, j < (quotedF s).size → byU T (o + j) = byU (quotedF s) j) : lexes T o [(2, s, (o : Int))] (o + (quotedF s).size) := by
 have hg := quoted_ge s
 refine lexes_one (next_quote (by omega) ?_ (quote_here hz hby))
 show ((byU T (o + 0)).toNat : Int) = 34
 rw [hby 0 (by omega)]; rfl
theorem dig_val {d : Nat} (h : d ≤ 9) : ((dig d).toNat : Int) = 48 + (d : Int) := (dig_int h).symm
theorem dig_dig {d : Nat} (h : d ≤ 9) : isDigit ((dig d).toNat : Int) = true := by
 rw [dig_val h]
 simp only [isDigit, Bool.and_eq_true, decide_eq_true_eq]; omega
theorem decG_digits : ∀ (f n : Nat), n < 10 ^ (f + 1) → ∀ x ∈ decG f n, isDigit (x.toNat : Int) = true
 | 0, n, h, x, hx => by
  rw [decG, List.mem_singleton] at hx
  subst hx
  exact dig_dig (by rw [Nat.pow_succ] at h; omega)
 | f + 1, n, h, x, hx => by
  by_cases h9 : n ≤ 9
  · rw [decG_small h9, List.mem_singleton] at hx
    subst hx; exact dig_dig h9
  · rw [decG_big (by omega), List.mem_append, List.mem_singleton] at hx
    rcases hx with hx | hx
    · exact decG_digits f (n / 10) (div_pow h) x hx
    · subst hx; exact dig_dig (by omega)
theorem decG_short20 {n : Nat} (h : n < 10 ^ 20) : (decG 20 n).length ≤ 20 := by
 by_cases h9 : n ≤ 9
 · rw [decG_small h9]; simp
 · rw [decG_big (by omega), List.length_append, List.length_singleton]
   have h2 : ∀ (f n : Nat), n < 10 ^ f → 1 ≤ f → (decG f n).length ≤ f := by
    intro f
    induction f with
    | zero => intro n _ h; omega
    | succ f ih =>
     intro n hn _
     by_cases h9 : n ≤ 9
     · rw [decG_small h9]; simp
     · rw [decG_big (by omega), List.length_append, List.length_singleton]
       have hd := div_pow hn
       have hf : 1 ≤ f := by
        cases f with
        | zero => rw [Nat.pow_zero] at hd; omega
        | succ f => omega
       have := ih (n / 10) hd hf
       omega
   have := h2 19 (n / 10) (div_pow h) (by omega)
   omega
theorem decG_pos : ∀ (f n : Nat), 1 ≤ (decG f n).length
 | 0, n => Nat.le_refl 1
 | f + 1, n => by
  unfold decG
  split
  · simp
  · rw [List.length_append, List.length_singleton]; omega
theorem decG_head : ∀ (f n : Nat), n < 10 ^ (f + 1) → 1 ≤ n → ∃ d l, decG f n = dig d :: l ∧ 1 ≤ d ∧ d ≤ 9
 | 0, n, h, h1 => ⟨n, [], rfl, h1, by rw [Nat.pow_succ] at h; omega⟩
 | f + 1, n, h, h1 => by
  by_cases h9 : n ≤ 9
  · exact ⟨n, [], decG_small h9, h1, h9⟩
  · obtain ⟨d, l, e, h2, h3⟩ := decG_head f (n / 10) (div_pow h) (by omega)
    exact ⟨d, l ++ [dig (n % 10)], by rw [decG_big (by omega), e]; rfl, h2, h3⟩
theorem digN_step {d : Nat} {l : List UInt8} {n : Nat} (hd : d ≤ 9) (h : 10 * n + d < 18446744073709551616) : digN (dig d :: l) (n : Int) = digN l ((10 * n + d : Nat) : Int) := by
 have hv := dig_val hd
 rw [digN, hv]
 have e1 : IntKind.wrap .u8 ((48 : Int) + (d : Int) - 48) = (d : Int) := by rw [show (48 : Int) + (d : Int) - 48 = (d : Int) by omega]; exact wrap_u8 _ (by omega) (by omega)
 have e2 : IntKind.wrap .u64 (d : Int) = (d : Int) := wrap_u64 _ (by omega) (by omega)
 have e3 : IntKind.wrap .u64 (18446744073709551615 - (d : Int)) = 18446744073709551615 - (d : Int) := wrap_u64 _ (by omega) (by omega)
 have e4 : IntKind.wrap .u64 (10 * (n : Int)) = 10 * (n : Int) := wrap_u64 _ (by omega) (by omega)
 have e5 : IntKind.wrap .u64 (10 * (n : Int) + (d : Int)) = ((10 * n + d : Nat) : Int) := by rw [wrap_u64 _ (by omega) (by omega)]; omega
 have e6 : (18446744073709551615 - (d : Int)).tdiv 10 = (((18446744073709551615 - d) / 10 : Nat) : Int) := by
  rw [show (18446744073709551615 : Int) - (d : Int) = ((18446744073709551615 - d : Nat) : Int) by omega]; rfl
 have e7 : IntKind.wrap .u64 (((18446744073709551615 - d) / 10 : Nat) : Int) = (((18446744073709551615 - d) / 10 : Nat) : Int) := wrap_u64 _ (by omega) (by omega)
 rw [e1, e2, e3, e4, e5, e6, e7, if_neg (by omega)]
theorem digN_dec : ∀ (f n : Nat) (l : List UInt8), n < 10 ^ (f + 1) → n < 18446744073709551616 → digN (decG f n ++ l) 0 = digN l (n : Int)
 | 0, n, l, h, h2 => by
  have h9 : n ≤ 9 := by rw [Nat.pow_succ] at h; omega
  rw [decG]
  have := digN_step (d := n) (l := l) (n := 0) h9 (by omega)
  rw [show 10 * 0 + n = n by omega] at this
  exact this
 | f + 1, n, l, h, h2 => by
  by_cases h9 : n ≤ 9
  · rw [decG_small h9]
    have := digN_step (d := n) (l := l) (n := 0) h9 (by omega)
    rw [show 10 * 0 + n = n by omega] at this
    exact this
  · rw [decG_big (by omega), List.append_assoc, digN_dec f (n / 10) _ (div_pow h) (by omega), List.singleton_append, digN_step (by omega) (by omega), show 10 * (n / 10) + n % 10 = n by omega]
theorem decB_data (n : Nat) : (decB n).data.toList = decG 20 n := by show (decL n).toArray.toList = _; simp [decL]
theorem decB_len (n : Nat) : (decB n).size = (decG 20 n).length := by rw [← sz, decB_data]
theorem pow21 {n : Nat} (h : n < 18446744073709551616) : n < 10 ^ (20 + 1) := Nat.lt_of_lt_of_le h (by decide)
theorem strEq_iff (a b : ByteArray) : strEq a b = true ↔ a.toList = b.toList := by unfold strEq; exact beq_iff_eq
theorem strEq_ne {a b : ByteArray} (h : a.size ≠ b.size) : strEq a b = false := by
 cases he : strEq a b with
 | false => rfl
 | true =>
  exfalso; apply h
  rw [strEq_iff, ByteArray.toList_eq, ByteArray.toList_eq] at he
  have := congrArg List.length he
  rwa [sz, sz] at this
theorem digits_dec {n : Nat} (h : n < 18446744073709551616) : digitsF (decB n) = ((n : Int), true) := by
 have hp := decG_pos 20 n
 have hs : (decB n).size ≤ 20 := by rw [decB_len]; exact decG_short20 (lt_pow20 h)
 have hz : (decB n).size ≠ 0 := by rw [decB_len]; omega
 have hh : ¬ (1 < (decB n).size ∧ byt (decB n) 0 = 48) := by
  rintro ⟨h1, h2⟩
  by_cases h0 : n = 0
  · subst h0; rw [decB_len, decG_small (by omega)] at h1; simp at h1
  · obtain ⟨d, l, e, d1, d2⟩ := decG_head 20 n (pow21 h) (by omega)
    unfold byt at h2
    rw [decB_data, e] at h2
    have := dig_val d2
    simp only [List.getD_cons_zero] at h2
    omega
 unfold digitsF
 rw [if_neg (by rw [strEq_ne (by show (decB n).size ≠ 0; exact hz)]; simp), if_neg hh, if_neg (by omega), decB_data]
 have := digN_dec 20 n [] (pow21 h) h
 rw [List.append_nil] at this
 rw [this]
 rfl
theorem nibF_hex : ∀ n : Fin 16, nibF ((hexD n.val).toNat : Int) = ((n.val : Nat) : Int) := by decide +kernel
theorem orw_eq {a d : Nat} (hd : d < 16) (h : a * 16 + d < 18446744073709551616) : orw (a : Int) (d : Int) = ((a * 16 + d : Nat) : Int) := by
 unfold orw
 have e1 : IntKind.u64.wrap ((a : Int) * 2 ^ min 4 IntKind.u64.bits) = ((a * 16 : Nat) : Int) := by
  have : (2 : Int) ^ min 4 IntKind.u64.bits = 16 := by decide
  rw [this, wrap_u64 _ (by omega) (by omega)]; omega
 have e2 : IntKind.u64.wrap (d : Int) = (d : Int) := wrap_u64 _ (by omega) (by omega)
 rw [e1, e2]
 have e3 : (BitVec.ofInt IntKind.u64.bits ((a * 16 : Nat) : Int) ||| BitVec.ofInt IntKind.u64.bits (d : Int)).toNat = a * 16 + d := by
  rw [BitVec.toNat_or, BitVec.toNat_ofInt, BitVec.toNat_ofInt]
  have h1 : (((a * 16 : Nat) : Int) % ((2 ^ IntKind.u64.bits : Nat) : Int)).toNat = a * 16 := by
   show (((a * 16 : Nat) : Int) % ((2 ^ 64 : Nat) : Int)).toNat = a * 16
   omega
  have h2 : ((d : Int) % ((2 ^ IntKind.u64.bits : Nat) : Int)).toNat = d := by
   show ((d : Int) % ((2 ^ 64 : Nat) : Int)).toNat = d
   omega
  rw [h1, h2]
  have := Nat.shiftLeft_add_eq_or_of_lt (i := 4) (b := d) (by omega) a
  rw [Nat.shiftLeft_eq] at this
  exact this.symm
 rw [e3]
 exact wrap_u64 _ (by omega) (by omega)
theorem bitsN_hex : ∀ (k c a : Nat) (l : List UInt8), c < 16 ^ k → a * 16 ^ k + c < 18446744073709551616 → bitsN 16 (hexN k c ++ l) (a : Int) = bitsN 16 l ((a * 16 ^ k + c : Nat) : Int)
 | 0, c, a, l, h1, h2 => by
  rw [Nat.pow_zero] at h1
  obtain rfl : c = 0 := by omega
  simp [hexN]
 | k + 1, c, a, l, h1, h2 => by
  have hd : c / 16 < 16 ^ k := (Nat.div_lt_iff_lt_mul (by decide)).2 (by rw [← Nat.pow_succ]; exact h1)
  have hm : (a * 16 ^ k + c / 16) * 16 + c % 16 = a * 16 ^ (k + 1) + c := by
   rw [Nat.pow_succ, Nat.add_mul, Nat.mul_assoc]; omega
  rw [hexN, List.append_assoc, bitsN_hex k (c / 16) a _ hd (by omega), List.singleton_append, bitsN]
  have hn : nibF ((hexD (c % 16)).toNat : Int) = ((c % 16 : Nat) : Int) := nibF_hex ⟨c % 16, by omega⟩
  rw [hn, if_neg (by omega), if_pos (by rfl), orw_eq (by omega) (by omega), hm]
theorem bits_hex {b : Nat} (h : b < 18446744073709551616) : bitsN (hexB b).size (hexB b).data.toList 0 = some (b : Int) := by
 have h1 : (hexB b).size = 16 := by show ((hexN 16 b).toArray).size = 16; rw [List.size_toArray, hexN_len]
 have h2 : (hexB b).data.toList = hexN 16 b ++ [] := by show (hexN 16 b).toArray.toList = _; simp
 have := bitsN_hex 16 b 0 [] (by rw [show (16 : Nat) ^ 16 = 18446744073709551616 by decide]; exact h) (by omega)
 rw [h1, h2]
 rw [Nat.zero_mul, Nat.zero_add] at this
 exact this
end Go.Dl

namespace Go.Dl
open Go.RowKit
open Go.Proofs
set_option linter.unusedVariables false
theorem strEq_byt {a b : ByteArray} (h : strEq a b = true) : byt a 0 = byt b 0 := by
 rw [strEq_iff, ByteArray.toList_eq, ByteArray.toList_eq] at h
 unfold byt
 rw [h]
theorem dec_byt {m j : Nat} (hm : m < 18446744073709551616) (h : j < (decB m).size) : isDigit (byt (decB m) j) = true := by
 unfold byt
 have h' : j < (decG 20 m).length := by rw [← decB_len]; exact h
 rw [decB_data, List.getD_eq_getElem?_getD, List.getElem?_eq_getElem h', Option.getD_some]
 exact decG_digits 20 m (pow21 hm) _ (List.getElem_mem h')
theorem dec_pos (m : Nat) : 0 < (decB m).size := by rw [decB_len]; exact decG_pos 20 m
theorem dig_not45 {c : Int} (h : isDigit c = true) : ¬ c = 45 := by
 simp only [isDigit, Bool.and_eq_true, decide_eq_true_eq] at h; omega
theorem take_hit {l : List Tok} {i : Nat} {e bad k : Int} {t : Tok} (hb : bad < 0) (ht : l[i]? = some t) (hk : t.1 = k) : takeF l i e bad k = (t.2.1, i + 1, bad) := by
 unfold takeF
 rw [if_neg (by omega), ht]
 simp only [if_pos hk]
theorem peek_hit {l : List Tok} {i : Nat} {bad : Int} {m : ByteArray} {p : Int} (hb : bad < 0) (ht : l[i]? = some (3, m, p)) : peekF l i bad m = true := by
 unfold peekF
 rw [ht]
 simp [hb, strEq_same]
theorem mark_hit {l : List Tok} {i : Nat} {e bad : Int} {m : ByteArray} {p : Int} (hb : bad < 0) (ht : l[i]? = some (3, m, p)) : markF l i e bad m = (i + 1, bad) := by
 unfold markF
 rw [peek_hit hb ht]; rfl
theorem number_read {n : Int} (h1 : -9223372036854775808 ≤ n) (h2 : n ≤ 9223372036854775807) {l : List Tok} {i : Nat} {e bad p : Int} (hb : bad < 0) (ht : l[i]? = some (1, wholeB n, p)) : numberF l i e bad = some (n, i + 1, bad) := by
 have hT := take_hit (e := e) hb ht (rfl : (1 : Int) = 1)
 unfold numberF
 rw [hT]
 dsimp only
 rw [if_neg (by omega)]
 unfold wholeB
 split
 · rename_i hn
   obtain ⟨m, hm, hm0⟩ : ∃ m : Nat, n = -(m : Int) ∧ 0 < m := ⟨(-n).toNat, by omega, by omega⟩
   subst hm
   rw [show (- -(m : Int)).toNat = m from by omega]
   have hml : m < 18446744073709551616 := by omega
   have hd := digits_dec hml
   have hsz : (dash ++ decB m).size = 1 + (decB m).size := by rw [ByteArray.size_append]; rfl
   have hds := decB_size m
   have he : (dash ++ decB m).extract 1 (dash ++ decB m).size = decB m := by
    rw [hsz]; exact ext_r dash (decB m)
   rw [if_pos ⟨by omega, by omega⟩, if_pos (by rw [byt_app_l (show 0 < dash.size by decide)]; rfl), he, hd]
   have ho : overF true (m : Int) true = false := by
    simp only [overF, Bool.not_true, Bool.false_or, Bool.false_and, Bool.true_and, Bool.or_eq_false_iff, decide_eq_false_iff_not]; omega
   dsimp only
   rw [ho, if_neg (by simp)]
   have hw : IntKind.wrap .u64 (0 - (m : Int)) = 18446744073709551616 - (m : Int) := by
    unfold IntKind.wrap
    simp [IntKind.bits, IntKind.signed]
    omega
   have hw2 : IntKind.wrap .i64 (18446744073709551616 - (m : Int)) = -(m : Int) := by
    unfold IntKind.wrap
    simp [IntKind.bits, IntKind.signed]
    omega
   rw [hw, hw2]
 · obtain ⟨m, hm⟩ : ∃ m : Nat, n = (m : Int) := ⟨n.toNat, by omega⟩
   subst hm
   rw [Int.toNat_natCast]
   have hml : m < 18446744073709551616 := by omega
   have hd := digits_dec hml
   have hds := decB_size m
   have hp := dec_pos m
   rw [if_pos ⟨hp, by omega⟩, if_neg (dig_not45 (dec_byt hml hp)), hd]
   have ho : overF false (m : Int) true = false := by
    simp only [overF, Bool.not_true, Bool.not_false, Bool.false_or, Bool.false_and, Bool.true_and, Bool.or_false, decide_eq_false_iff_not]; omega
   dsimp only
   rw [ho, if_neg (by simp), show IntKind.wrap .i64 (m : Int) = (m : Int) from wrap_i64 _ (by omega) (by omega)]
/-- What is read of a value. -/
def wantV (v : Val) : Val := (v.1, if v.1 = 1 then v.2.1 else false, if v.1 = 2 then v.2.2.1 else 0, if v.1 = 3 then v.2.2.2.1 else 0, if v.1 = 4 then v.2.2.2.2 else noText)
end Go.Dl

namespace Go.Dl
open Go.RowKit Go.Proofs
set_option linter.unusedSimpArgs false
set_option linter.unusedVariables false
set_option maxHeartbeats 1000000
set_option maxRecDepth 100000
theorem push_modify {α : Type} (h : Array α) (x : α) (b : Nat) (f : α → α) (hb : b < h.size) : (h.modify b f).push x = (h.push x).modify b f := by
 apply Array.ext_getElem?
 intro i
 rw [Array.getElem?_push, Array.getElem?_modify, Array.getElem?_modify, Array.getElem?_push, Array.size_modify]
 by_cases hi : i = h.size
 · rw [if_pos hi, if_neg (by omega), if_pos hi]
 · rw [if_neg hi, if_neg hi]
theorem swap_heap {w : World} {b j : Nat} {v : Value} {o : Go.Obj} (hb : b < w.heap.size) : ((w.setCell ⟨b, j, none⟩ v).alloc o).heap = ((w.alloc o).setCell ⟨b, j, none⟩ v).heap :=
 push_modify w.heap o b _ hb
theorem grow_fin {b cap : Nat} {ao : Option Addr} {w : World} {cs : Array Value} (hbk : w.heap[b]? = some (.cells #[.pointer (some ⟨b, 0, none⟩), .slice ao 0 cap] 69 (0, 0))) (h0 : 0 < cs.size) (hcs : cs.size ≤ 9223372036854775807) :
  ∀ w2 : World, w2.heap = ((w.alloc (.cells cs 5)).setCell ⟨b, 1, none⟩ (.slice (some ⟨w.heap.size, 0, none⟩) 0 cs.size)).heap → w2.os = w.os → w2.tape = w.tape → w2.output = w.output → w.drawn ≤ w2.drawn →
   ∃ v' fp', BdAt w2 b (.pointer (some ⟨b, 0, none⟩)) v' [] fp' ∧ UFrame w w2 [b] fp' := by
 have hlt : b < w.heap.size := lt_of_heap hbk
 have hb2 : (w.alloc (.cells cs 5)).heap[b]? = some (.cells #[.pointer (some ⟨b, 0, none⟩), .slice ao 0 cap] 69 (0, 0)) := (heap_alloc_lt w _ hlt).trans hbk
 have hnew : (w.alloc (.cells cs 5)).heap[w.heap.size]? = some (.cells cs 5 (0, 0)) := heap_alloc_new w _
 have hrep : Rep (w.alloc (.cells cs 5)) (fun _ => False) [] (.k true (.u 5 []) (.slice (some ⟨w.heap.size, 0, none⟩) 0 cs.size)) [w.heap.size] := .uo (cap := cs.size) (bs := []) h0 hnew (Nat.zero_le _) hcs rfl rfl
 have hput := BdAt.put (v' := .slice (some ⟨w.heap.size, 0, none⟩) 0 cs.size) (bs := []) (fp := [w.heap.size]) hb2 (.inr rfl) hrep (by rw [List.mem_singleton]; omega)
 have hsz : ((w.alloc (.cells cs 5)).setCell ⟨b, 1, none⟩ (.slice (some ⟨w.heap.size, 0, none⟩) 0 cs.size)).heap.size = w.heap.size + 1 := by
  show ((w.heap.push _).modify b _).size = _
  rw [Array.size_modify, Array.size_push]
 intro w2 h1 h2 h3 h4 h5
 obtain ⟨⟨q1, q2, q3, q4⟩, qk⟩ := hput
 refine ⟨_, _, ⟨by rw [h1]; exact q1, q2, ?_, q4⟩, h2, h3, ⟨h4, h5⟩, ?_, fun k hk hkf => ?_, fun k hk => ?_⟩
 · cases q3 with
   | uo h0 hg hc hm hz ht => exact .uo h0 (by rw [h1]; exact hg) hc hm hz ht
 · rw [h1, hsz]; omega
 · have hkb : k ≠ b := by simpa using hkf
   rw [h1, qk k hkb]
   exact heap_alloc_lt w _ hk
 · have : k = w.heap.size := by simpa using hk
   subst this
   exact ⟨.inr (Nat.le_refl _), by rw [h1, hsz]; omega⟩
set_option maxHeartbeats 4000000 in
set_option maxRecDepth 1000000 in
theorem grow_raw (b n cap : Nat) (ao : Option Addr) (w : World) (hbk : w.heap[b]? = some (.cells #[.pointer (some ⟨b, 0, none⟩), .slice ao 0 cap] 69 (0, 0))) (hn : 2 * cap + n ≤ 281474976710656) (hn0 : 0 < n) :
  Calls Try.prog 78 #[.pointer (some ⟨b, 0, none⟩), .int .i64 n] w fun e w' => e = .returned (.tuple #[]) ∧ ∃ v' fp', BdAt w' b (.pointer (some ⟨b, 0, none⟩)) v' [] fp' ∧ UFrame w w' [b] fp' := by
 have mixed : Try.prog.follows .mixedOrders = true := by kernel_rfl
 have t69 := Try.underlying69; have a69 := Try.isAgg69; have z69 := Try.sizeOf69; have v69 := Try.zeroValue69; have u69 := run_underlying Try.underlying69
 have t67 := Try.underlying67; have a67 := Try.isAgg67; have z67 := Try.sizeOf67; have v67 := Try.zeroValue67; have u67 := run_underlying Try.underlying67
 have t5 := Try.underlying5; have a5 := Try.isAgg5; have z5 := Try.sizeOf5; have v5 := Try.zeroValue5; have u5 := run_underlying Try.underlying5
 have t35 := Try.underlying35; have a35 := Try.isAgg35; have z35 := Try.sizeOf35; have v35 := Try.zeroValue35; have u35 := run_underlying Try.underlying35
 have t3 := Try.underlying3; have a3 := Try.isAgg3; have z3 := Try.sizeOf3; have v3 := Try.zeroValue3; have u3 := run_underlying Try.underlying3
 obtain ⟨cs, hrun, hle, hmax⟩ := Lib.run_makeNoZero (P := Try.prog) w.drew #[3] 35 5 Try.underlying35 (2 * cap + n) hn
 have hlt : b < w.heap.size := lt_of_heap hbk
 have hw : IntKind.i64.wrap (IntKind.i64.wrap (2 * (cap : Int)) + (n : Int)) = ((2 * cap + n : Nat) : Int) := by
  rw [IntKind.wrap_i64, IntKind.wrap_i64]
  omega
 have hcall : (callFunc 85 #[.int .i64 (IntKind.i64.wrap (IntKind.i64.wrap (2 * (cap : Int)) + (n : Int)))]).run Try.prog w.drew = .ok (.value (.slice (some ⟨w.drew.heap.size, 0, none⟩) (2 * cap + n) cs.size)) (w.drew.drew.drew.alloc (.cells cs 5)) := by
  rw [hw, run_callFunc_extern Try.func85 (by kernel_rfl) (by kernel_rfl) (by kernel_rfl) (e := Extern.BytealgMakeNoZero.makeNoZero #[3] #[35]) (by kernel_rfl), hrun]
  rfl
 have c1 : w.drew.cell? ⟨b, 1, none⟩ = some (.slice ao 0 cap) := by
  have : w.drew.heap[b]? = _ := hbk
  simp [World.cell?, this]
 have hb2 : (w.alloc (.cells cs 5)).heap[b]? = some (.cells #[.pointer (some ⟨b, 0, none⟩), .slice ao 0 cap] 69 (0, 0)) := (heap_alloc_lt w _ hlt).trans hbk
 have c2 : (w.alloc (.cells cs 5)).cell? ⟨b, 1, none⟩ = some (.slice ao 0 cap) := by simp [World.cell?, hb2]
 have f2 : (w.alloc (.cells cs 5)).frozen? ⟨b, 1, none⟩ = false := by simp [World.frozen?, hb2]
 have hcopy : ∀ W : World, (Builtin.copy_ #[35, 35] 3 #[.slice (some ⟨w.heap.size, 0, none⟩) 0 cs.size, .slice ao 0 cap]).run Try.prog W = .ok (goInt 0) W :=
  fun W => run_copy_none W 35 35 3 5 _ _ 0 cs.size 0 cap Try.underlying35 (by kernel_rfl) rfl
 have hcs : cs.size ≤ 9223372036854775807 := Nat.le_trans (hmax (by unfold maxLen; omega)) (by decide)
 have hfin := grow_fin hbk (show 0 < cs.size by omega) hcs
 clear hw hle hmax hn hn0
 go_enter Try.func78, Try.ntmps78
 go_wp2
 go_region_o
 all_goals (go_wp2; go_end0; exact ⟨rfl, hfin _ (swap_heap hlt) rfl rfl rfl (by first | (show w.drawn ≤ w.drawn + 1 + 1 + 1; omega) | (show w.drawn ≤ w.drawn + 1 + 1 + 1 + 1; omega) | (show w.drawn ≤ w.drawn + 1 + 1; omega))⟩)
end Go.Dl

namespace Go.Dl
open Go.RowKit Go.Proofs
set_option linter.unusedSimpArgs false
set_option linter.unusedVariables false
set_option maxHeartbeats 4000000
set_option maxRecDepth 1000000
theorem u_nil {w : World} {S : Nat → Prop} {E : Env} {d : Bool} {e : TypeId} {v : Value} {fp : List Nat} (h : Rep w S E (.k d (.u e []) v) fp) : ∃ ao cap, v = .slice ao 0 cap ∧ cap ≤ 9223372036854775807 := by
 cases h with
 | un => exact ⟨_, _, rfl, by omega⟩
 | uo h0 hg hc hm hz ht => exact ⟨_, _, rfl, hm⟩
theorem Grow_raw {w : World} {b : Nat} {p v : Value} {fp : List Nat} (h : BdAt w b p v [] fp) (n : Nat) (hn0 : 0 < n) (hn : n ≤ 35184372088832) (hfl : ∀ k ∈ fp, k < w.heap.size) :
  Calls Try.prog 67 #[.pointer (some ⟨b, 0, none⟩), .int .i64 n] w fun e w' => e = .returned (.tuple #[]) ∧ ∃ v' fp', BdAt w' b (.pointer (some ⟨b, 0, none⟩)) v' [] fp' ∧ UFrame w w' (b :: fp) fp' := by
 have mixed : Try.prog.follows .mixedOrders = true := by kernel_rfl
 have t69 := Try.underlying69; have a69 := Try.isAgg69; have z69 := Try.sizeOf69; have v69 := Try.zeroValue69; have u69 := run_underlying Try.underlying69
 have t67 := Try.underlying67; have a67 := Try.isAgg67; have z67 := Try.sizeOf67; have v67 := Try.zeroValue67; have u67 := run_underlying Try.underlying67
 have t35 := Try.underlying35; have a35 := Try.isAgg35; have z35 := Try.sizeOf35; have v35 := Try.zeroValue35; have u35 := run_underlying Try.underlying35
 have t9 := Try.underlying9; have a9 := Try.isAgg9; have z9 := Try.sizeOf9; have v9 := Try.zeroValue9; have u9 := run_underlying Try.underlying9
 have t4 := Try.underlying4; have a4 := Try.isAgg4; have z4 := Try.sizeOf4; have v4 := Try.zeroValue4; have u4 := run_underlying Try.underlying4
 have t3 := Try.underlying3; have a3 := Try.isAgg3; have z3 := Try.sizeOf3; have v3 := Try.zeroValue3; have u3 := run_underlying Try.underlying3
 have e60 : ∀ args w, (callFunc 60 args).run Try.prog w = .ok (.enter 60 args) w := enters_of Try.func60 (by kernel_rfl) rfl
 have e78 : ∀ args w, (callFunc 78 args).run Try.prog w = .ok (.enter 78 args) w := enters_of Try.func78 (by kernel_rfl) rfl
 have hlt0 : b < w.heap.size := lt_of_heap h.blk
 obtain ⟨ao, cap, rfl, hcap⟩ := u_nil h.rep
 have hnn : ¬ ((n : Int) < 0) := by omega
 have hw1 : IntKind.i64.wrap (cap : Int) = cap := wrap_i64 _ (by omega) (by omega)
 by_cases hlt : (cap : Int) < (n : Int)
 · go_enter Try.func67, Try.ntmps67
   go_wp2_with (go_at_fn 60; refine h.cc.mono ?_)
   rintro e w1 rfl h1 c1 c2 c3 c4 c5 c6
   obtain ⟨hb1, hp1, hr1, ho1⟩ := h1
   have hfl1 : ∀ k ∈ fp, k < w1.heap.size := fun k hk => by rw [c5]; exact hfl k hk
   have hbd : w1.drew.heap[b]? = some (.cells #[.pointer (some ⟨b, 0, none⟩), .slice ao 0 cap] 69 (0, 0)) := hb1
   have g1 : w1.drew.cell? ⟨b, 1, none⟩ = some (.slice ao 0 cap) := by simp [World.cell?, hbd]
   go_wp2
   go_region_o
   all_goals go_wp2_with (go_at_fn 78; refine (grow_raw b n cap ao w1.drew hbd (by omega) hn0).mono ?_; rintro e w2 ⟨rfl, v', fp', q1, q2⟩)
   all_goals
    go_end0
    refine ⟨rfl, v', fp', q1, q2.os.trans c1, q2.tape.trans c2, ⟨q2.out.1.trans c3, Nat.le_trans (Nat.le_of_eq c4.symm) (Nat.le_trans (Nat.le_succ _) q2.out.2)⟩, by rw [← c5]; exact q2.size, fun k hk hkf => ?_, fun k hk => ?_⟩
    · simp only [List.mem_cons, not_or] at hkf
      exact (q2.keep k (by show k < w1.heap.size; omega) (by simpa using hkf.1)).trans (c6 k hkf.1)
    · obtain ⟨k1, k2⟩ := q2.new k hk
      refine ⟨?_, k2⟩
      rcases k1 with h | h
      · exact .inl (by rw [List.mem_singleton] at h; rw [h]; exact List.mem_cons_self ..)
      · exact .inr (by rw [← c5]; exact h)
 · go_enter Try.func67, Try.ntmps67
   go_wp2_with (go_at_fn 60; refine h.cc.mono ?_)
   rintro e w1 rfl h1 c1 c2 c3 c4 c5 c6
   obtain ⟨hb1, hp1, hr1, ho1⟩ := h1
   have hbd : w1.drew.heap[b]? = some (.cells #[.pointer (some ⟨b, 0, none⟩), .slice ao 0 cap] 69 (0, 0)) := hb1
   have g1 : w1.drew.cell? ⟨b, 1, none⟩ = some (.slice ao 0 cap) := by simp [World.cell?, hbd]
   go_wp2
   go_region_o
   all_goals
    go_wp2
    go_end0
    refine ⟨rfl, _, fp, ⟨hbd, .inr rfl, hr1.mono (fun _ h => h) (.refl _ _) (fun _ _ => rfl), ho1⟩, c1, c2, ⟨c3, Nat.le_trans (Nat.le_of_eq c4.symm) (Nat.le_succ _)⟩, Nat.le_of_eq c5.symm, fun k hk hkf => ?_, fun k hk => ?_⟩
    · simp only [List.mem_cons, not_or] at hkf
      exact c6 k hkf.1
    · exact ⟨.inl (List.mem_cons_of_mem _ hk), by show k < w1.heap.size; rw [c5]; exact hfl k hk⟩
noncomputable def oGrow := famO (fun n : Nat => 0 < n ∧ n ≤ 35184372088832) (fun n => ([.c (.p 0 0 0), .c (.v (.int .i64 (n : Nat)))], [bdO []])) (fun n => (.t [], [bdO []]))
theorem meets67 : Meets Try.prog 67 (detS oGrow) :=
 bd_meets (rest := fun n : Nat => [.int .i64 (n : Nat)]) (bs := fun _ => []) (bs' := fun _ => []) (res := fun _ => .tuple #[]) (fun x hx w S => ⟨_, [], rfl, rfl, rfl, rfl, fun i d f h1 h2 => by cases h1⟩) fun n hn w b p v fp h hl => Grow_raw h n hn.1 hn.2 hl
theorem grow_at (n : Nat) (h0 : 0 < n) (h : n ≤ 35184372088832) : oGrow [.c (.p 0 0 0), .c (.v (.int .i64 (n : Nat)))] [⟨2, [[.b 69, .u 5 []]]⟩] = some (.t [], [⟨2, [[.b 69, .u 5 []]]⟩]) :=
 famO_at (fun a c h => by rfl) n ⟨h0, h⟩ rfl
end Go.Dl
