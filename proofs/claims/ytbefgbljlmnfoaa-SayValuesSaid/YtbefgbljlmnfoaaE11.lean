/- The walks of digits and number; The walk of number; The walks of forms, args, arg (a number), step (the word tick); The walks of nibble, count; the parser's contracts, said for callers. -/
import Derived.Test.YtbefgbljlmnfoaaE10
namespace Go.Dl
open Go.RowKit
open Go.Proofs
set_option linter.unusedSimpArgs false
set_option linter.unusedVariables false

/-- Digits, from a number on. -/
def digN : List UInt8 → Int → Option Int
  | [], n => some n
  | c :: l, n => if IntKind.wrap .u64 ((IntKind.wrap .u64 (18446744073709551615 - IntKind.wrap .u64 (IntKind.wrap .u8 ((c.toNat : Int) - 48)))).tdiv 10) < n then none
    else digN l (IntKind.wrap .u64 (IntKind.wrap .u64 (10 * n) + IntKind.wrap .u64 (IntKind.wrap .u8 ((c.toNat : Int) - 48))))
def digitsF (s : ByteArray) : Int × Bool :=
  if strEq s noText = true then (0, false) else if 1 < s.size ∧ byt s 0 = 48 then (0, false) else if 20 < s.size then (0, false) else match digN s.data.toList 0 with
    | none => (0, false)
    | some n => (n, true)

def pDigits : List D → Option D
  | [.c (.v (.string s))] => if s.size ≤ 1000000 then some (.t [.c (.v (.int .u64 (digitsF s).1)), dB (digitsF s).2]) else none
  | _ => none

theorem meets76 : Meets Try.prog 76 (pureS pDigits) := by
  refine meets_of_tri (show Try.prog.funcs[76]? = some Try.f76 by kernel_rfl) rfl (n := 46) rfl (rs := [ResultVar.tmp 2, ResultVar.tmp 3]) rfl ?_
  rintro args objs Q ⟨rfl, d, hd, hQ⟩
  unfold pDigits at hd
  split at hd
  · rename_i s
    split at hd
    · rename_i hs
      cases hd
      refine seq_run ok0 rfl (by repeat (first | with_reducible exact runf_nil | refine runf_cons (by simp only [xstep, stepf, stepx, qev, St.ev, St.put, constD, constC, Z5, Z6, List.replicate, Z9, Z10, Z23, Z12, Z13, Z4, Nat.reduceSub, Z3, Z14]; rfl) ?_)) ?_
      have bad : ∀ A : St, True := fun _ => trivial
      by_cases h0 : strEq s noText = true
      · simp only [digitsF, if_pos h0] at hQ
        have h0' : strEq s ⟨#[]⟩ = true := h0
        refine seq_in (seq_run ok0 rfl (by repeat (first | with_reducible exact runf_nil | refine runf_cons (by simp only [xstep, stepf, stepx, qev, St.ev, St.put, qpick, qstr, isEq, qbin, qlen, qbuiltin, constD, constC, Z1, Z2, Z5, Z6, Z8, Z4, Z11, if_false, cond_true, Z22, Z3, reduceCtorEq, h0']; rfl) ?_)) ?_)
        refine tri_cond rfl (fun _ => ?_) (fun h => by cases h)
        refine seq_run ok0 rfl (by repeat (first | with_reducible exact runf_nil | refine runf_cons (by simp only [xstep, stepf, stepx, qev, St.ev, St.put, constD, constC, Z5, Z6, Z4, Z3]; rfl) ?_)) ?_
        refine tri_ret (ends_ret (by simp only [outRes, resDs, resD, outDs, outD, outC, C.dat, Z1, Z2, Z4, if_true, Z3]; rfl) rfl (by simp) (by simp) ?_)
        exact hQ
      · simp only [digitsF, if_neg h0] at hQ
        have h0' : strEq s ⟨#[]⟩ = false := (Bool.eq_false_iff).2 h0
        by_cases h1 : 1 < s.size
        · by_cases h2 : byt s 0 = 48
          · simp only [if_pos (And.intro h1 h2)] at hQ
            have h2' : ((s.data.toList.getD 0 0).toNat : Int) = 48 := h2
            refine seq_in (seq_run ok0 rfl (by repeat (first | with_reducible exact runf_nil | refine runf_cons (by simp only [xstep, stepf, stepx, qev, St.ev, St.put, D.int, qindex, qpick, qint, qshift, qstr, isEq, isShift, qbin, qlen, qbuiltin, constD, constC, Z1, Z2, Z5, Z6, Z8, Z4, Z11, if_true, if_false, and_self, decide_true, cond_true, cond_false, Z22, Z3, reduceCtorEq, Int.reduceLE, Z7, tk9, Int.toNat_zero, h0', show ((1 : Int) < (s.size : Int)) = True from eq_true (by omega), show ((0 : Int) < (s.size : Int)) = True from eq_true (by omega), eq_true h2']; rfl) ?_)) ?_)
            refine tri_cond rfl (fun _ => ?_) (fun h => by cases h)
            refine seq_run ok0 rfl (by repeat (first | with_reducible exact runf_nil | refine runf_cons (by simp only [xstep, stepf, stepx, qev, St.ev, St.put, constD, constC, Z5, Z6, Z4, Z3]; rfl) ?_)) ?_
            refine tri_ret (ends_ret (by simp only [outRes, resDs, resD, outDs, outD, outC, C.dat, Z1, Z2, Z4, if_true, Z3]; rfl) rfl (by simp) (by simp) ?_)
            exact hQ
          · simp only [if_neg (show ¬ (1 < s.size ∧ byt s 0 = 48) from fun h => h2 h.2)] at hQ
            have h2' : ¬ ((s.data.toList.getD 0 0).toNat : Int) = 48 := h2
            by_cases h3 : 20 < s.size
            · simp only [if_pos h3] at hQ
              refine seq_in (seq_run ok0 rfl (by repeat (first | with_reducible exact runf_nil | refine runf_cons (by simp only [xstep, stepf, stepx, qev, St.ev, St.put, D.int, qindex, qpick, qint, qshift, qstr, isShift, qbin, qlen, qbuiltin, constD, constC, Z1, Z2, Z5, Z6, Z8, Z4, Z11, if_true, if_false, and_self, decide_true, decide_false, cond_true, cond_false, Z22, Z3, Int.reduceLE, Z7, tk9, Int.toNat_zero, h0', show ((1 : Int) < (s.size : Int)) = True from eq_true (by omega), show ((0 : Int) < (s.size : Int)) = True from eq_true (by omega), eq_false h2', show ((20 : Int) < (s.size : Int)) = True from eq_true (by omega)]; rfl) ?_)) ?_)
              refine tri_cond rfl (fun _ => ?_) (fun h => by cases h)
              refine seq_run ok0 rfl (by repeat (first | with_reducible exact runf_nil | refine runf_cons (by simp only [xstep, stepf, stepx, qev, St.ev, St.put, constD, constC, Z5, Z6, Z4, Z3]; rfl) ?_)) ?_
              refine tri_ret (ends_ret (by simp only [outRes, resDs, resD, outDs, outD, outC, C.dat, Z1, Z2, Z4, if_true, Z3]; rfl) rfl (by simp) (by simp) ?_)
              exact hQ
            · simp only [if_neg h3] at hQ
              refine seq_in (seq_run ok0 rfl (by repeat (first | with_reducible exact runf_nil | refine runf_cons (by simp only [xstep, stepf, stepx, qev, St.ev, St.put, D.int, qindex, qpick, qint, qshift, qstr, isShift, qbin, qlen, qbuiltin, constD, constC, Z1, Z2, Z5, Z6, Z8, Z4, Z11, if_true, if_false, and_self, decide_true, decide_false, cond_true, cond_false, Z22, Z3, Int.reduceLE, Z7, tk9, Int.toNat_zero, h0', show ((1 : Int) < (s.size : Int)) = True from eq_true (by omega), show ((0 : Int) < (s.size : Int)) = True from eq_true (by omega), eq_false h2', show ((20 : Int) < (s.size : Int)) = False from eq_false (by omega)]; rfl) ?_)) ?_)
              refine tri_cond rfl (fun h => by cases h) (fun _ => then_skip ?_)
              refine seq_run ok0 rfl (by repeat (first | with_reducible exact runf_nil | refine runf_cons (by simp only [xstep, stepf, stepx, qev, St.ev, St.put, constD, constC, Z5, Z6, Z4, Z3]; rfl) ?_)) ?_
              obtain ⟨bs, hbs⟩ : ∃ bs, s.data.toList = bs := ⟨_, rfl⟩
              rw [hbs] at hQ
              have hbl : bs.length ≤ 1000000 := by rw [← hbs]; exact Nat.le_trans (Nat.le_of_eq (B_length s)) hs
              have hbm : bs.length ≤ maxStr := by unfold maxStr; omega
              refine seq_in (seq_run ok0 rfl (by repeat (first | with_reducible exact runf_nil | refine runf_cons (by simp only [xstep, stepf, stepx, qev, St.ev, St.put, St.with, qconv, qlen, qbuiltin, liveR, constD, constC, Z1, Z2, Z5, Z6, Z10, Z12, Z8, Z4, if_true, and_self, Z3, tk5, tk9, tk35, bytesStr, strBytes, hbs, hbm]; rfl) ?_)) ?_)
              refine tri_block ?_
              refine tri_loop_le (fun n A => ∃ (j : Nat) (m : Int), j ≤ bs.length ∧ n = bs.length - j ∧ digN (bs.drop j) m = digN bs 0 ∧ A = ⟨[.top, .top, .top, .top, .c (.v (.int .u64 m)), .top, .top, .top, .top, .top, .top, .top, .top, .top, .top, .top, .top, .top, .top, .top, .top, .top, .top, .top, .top, .top, .c (.h 0 0 bs.length), dI bs.length, dI j, .top, .top, .top, .top, .top, .top, .top, .top, .top, .top, .top, .top, .top, .top, .top, .top, .top], [some ⟨true, 1, bs.map byteRow⟩]⟩) bs.length
                (B := ⟨[.top, .top, .top, .top, .c (.v (.int .u64 0)), .top, .top, .top, .top, .top, .top, .top, .top, .top, .top, .top, .top, .top, .top, .top, .top, .top, .top, .top, .top, .top, .c (.h 0 0 bs.length), dI bs.length, dI (0 : Nat), .top, .top, .top, .top, .top, .top, .top, .top, .top, .top, .top, .top, .top, .top, .top, .top, .top], [some ⟨true, 1, bs.map byteRow⟩]⟩)
                ⟨by repeat (first | exact .nil | refine .same ?_ | refine .top ?_), rfl⟩ ⟨0, 0, by omega, by omega, rfl, rfl⟩ ?_
              rintro n A ⟨j, m, hj, rfl, hg, rfl⟩
              refine seq_run ok0 rfl (by repeat (first | with_reducible exact runf_nil | refine runf_cons (by simp only [xstep, stepf, stepx, qev, St.ev, St.put, qint, qshift, isShift, qbin, Z1, Z2, Z5, Z6, Z4, Z11, if_true, if_false, Z3, Z7, dI]; rfl) ?_)) ?_
              refine seq_cond rfl (fun h => then_skip ?_) (fun h => tri_exit ?_)
              · have hjl : j < bs.length := by have := of_decide_eq_true h; omega
                obtain ⟨x, hx⟩ : ∃ x, bs[j]? = some x := ⟨bs[j], List.getElem?_eq_getElem hjl⟩
                have hdx : bs.drop j = x :: bs.drop (j + 1) := by rw [List.drop_eq_getElem_cons hjl]; rw [List.getElem?_eq_getElem hjl] at hx; cases hx; rfl
                rw [hdx] at hg
                simp only [digN] at hg
                have hgx : (bs.map byteRow)[j]? = some [.v (.int .u8 (x.toNat : Nat))] := by rw [List.getElem?_map, hx]; rfl
                refine seq_in (tri_block ?_)
                refine seq_run ok0 rfl (by repeat (first | with_reducible exact runf_nil | refine runf_cons (by simp only [xstep, stepf, stepx, qev, St.ev, St.put, D.int, qload, cellsAt, qmk, C.cpy, TK.agg, qindexAddr, C.cp, Z1, Z2, Z5, Z6, Z9, Z10, Z13, Z24, Z16, Z18, Z17, Z20, Z21, Z8, Z4, if_true, if_false, and_self, decide_true, Z3, ne_eq, not_false_eq_true, reduceCtorEq, Z7, Z14, Z26, tk5, tsz5, tk35, Int.toNat_natCast, Int.natCast_nonneg, hgx, show ((j : Int) < (bs.length : Int)) = True from eq_true (by omega)]; rfl) ?_)) ?_
                refine seq_run ok0 rfl (by repeat (first | with_reducible exact runf_nil | refine runf_cons (by simp only [xstep, stepf, stepx, qev, St.ev, St.put, qint, qshift, isShift, qbin, qconv, constD, constC, Z1, Z2, Z5, Z6, Z8, Z4, Z11, if_true, if_false, Z3, Z7, tk5, tk37]; rfl) ?_)) ?_
                split at hg
                · rename_i hover
                  refine seq_in (seq_run ok0 rfl (by repeat (first | with_reducible exact runf_nil | refine runf_cons (by simp only [xstep, stepf, stepx, qev, St.ev, St.put, qint, qshift, isShift, qbin, constD, constC, Z1, Z2, Z5, Z6, Z4, Z11, if_true, if_false, decide_true, Z3, Z7, show ((10 : Int) = 0) = False from eq_false (by decide), eq_true hover]; rfl) ?_)) ?_)
                  refine tri_cond rfl (fun _ => ?_) (fun h => by cases h)
                  refine seq_run ok0 rfl (by repeat (first | with_reducible exact runf_nil | refine runf_cons (by simp only [xstep, stepf, stepx, qev, St.ev, St.put, constD, constC, Z5, Z6, Z4, Z3]; rfl) ?_)) ?_
                  refine tri_ret (ends_ret (by simp only [outRes, resDs, resD, outDs, outD, outC, C.dat, Z1, Z2, Z4, if_true, Z3]; rfl) rfl (by simp) (by simp) ?_)
                  rw [← hg] at hQ
                  exact hQ
                · rename_i hover
                  refine seq_in (seq_run ok0 rfl (by repeat (first | with_reducible exact runf_nil | refine runf_cons (by simp only [xstep, stepf, stepx, qev, St.ev, St.put, qint, qshift, isShift, qbin, constD, constC, Z1, Z2, Z5, Z6, Z4, Z11, if_true, if_false, decide_false, Z3, Z7, show ((10 : Int) = 0) = False from eq_false (by decide), eq_false hover]; rfl) ?_)) ?_)
                  refine tri_cond rfl (fun h => by cases h) (fun _ => then_skip ?_)
                  refine run_end ok0 rfl (by repeat (first | with_reducible exact runf_nil | refine runf_cons (by simp only [xstep, stepf, stepx, qev, St.ev, St.put, qint, qshift, isShift, qbin, constD, constC, Z1, Z2, Z5, Z6, Z4, Z11, if_true, if_false, Z3, Z7]; rfl) ?_)) ?_
                  refine run_end ok0 rfl (by repeat (first | with_reducible exact runf_nil | refine runf_cons (by simp only [xstep, stepf, stepx, qev, St.ev, St.put, qint, qshift, isShift, qbin, constD, constC, Z1, Z2, Z5, Z6, Z4, Z11, if_true, if_false, Z3, Z7, wrap_succ j bs.length hjl hbm]; rfl) ?_)) ?_
                  exact ⟨bs.length - (j + 1), by omega, ⟨[.top, .top, .top, .top, .c (.v (.int .u64 _)), .top, .top, .top, .top, .top, .top, .top, .top, .top, .top, .top, .top, .top, .top, .top, .top, .top, .top, .top, .top, .top, .c (.h 0 0 bs.length), dI bs.length, dI (j + 1 : Nat), .top, .top, .top, .top, .top, .top, .top, .top, .top, .top, .top, .top, .top, .top, .top, .top, .top], [some ⟨true, 1, bs.map byteRow⟩]⟩, ⟨by repeat (first | exact .nil | refine .same ?_ | refine .top ?_), rfl⟩, j + 1, _, hjl, rfl, hg, rfl⟩
              · have hjl : j = bs.length := by have := of_decide_eq_false h; omega
                subst hjl
                rw [List.drop_length] at hg
                simp only [digN] at hg
                rw [← hg] at hQ
                show Tri _ _ _ _
                refine seq_run ok0 rfl (by repeat (first | with_reducible exact runf_nil | refine runf_cons (by simp only [xstep, stepf, stepx, qev, St.ev, St.put, constD, constC, Z1, Z2, Z5, Z6, Z4, Z3]; rfl) ?_)) ?_
                refine tri_ret (ends_ret (by simp only [outRes, resDs, resD, outDs, outD, outC, C.dat, Z1, Z2, Z4, if_true, Z3]; rfl) rfl (by simp) (by simp) ?_)
                exact hQ
        · simp only [if_neg (show ¬ (1 < s.size ∧ byt s 0 = 48) from fun h => h1 h.1), if_neg (show ¬ 20 < s.size by omega)] at hQ
          refine seq_in (seq_run ok0 rfl (by repeat (first | with_reducible exact runf_nil | refine runf_cons (by simp only [xstep, stepf, stepx, qev, St.ev, St.put, D.int, qindex, qpick, qint, qshift, qstr, isEq, qeq, isShift, qbin, qlen, qbuiltin, constD, constC, Z1, Z2, Z5, Z6, Z8, Z4, Z11, if_true, if_false, decide_false, cond_false, Z22, Z3, Z7, tk5, tk9, h0', show ((1 : Int) < (s.size : Int)) = False from eq_false (by omega), show ((20 : Int) < (s.size : Int)) = False from eq_false (by omega)]; rfl) ?_)) ?_)
          refine tri_cond rfl (fun h => by cases h) (fun _ => then_skip ?_)
          refine seq_run ok0 rfl (by repeat (first | with_reducible exact runf_nil | refine runf_cons (by simp only [xstep, stepf, stepx, qev, St.ev, St.put, constD, constC, Z5, Z6, Z4, Z3]; rfl) ?_)) ?_
          obtain ⟨bs, hbs⟩ : ∃ bs, s.data.toList = bs := ⟨_, rfl⟩
          rw [hbs] at hQ
          have hbl : bs.length ≤ 1000000 := by rw [← hbs]; exact Nat.le_trans (Nat.le_of_eq (B_length s)) hs
          have hbm : bs.length ≤ maxStr := by unfold maxStr; omega
          refine seq_in (seq_run ok0 rfl (by repeat (first | with_reducible exact runf_nil | refine runf_cons (by simp only [xstep, stepf, stepx, qev, St.ev, St.put, St.with, qconv, qlen, qbuiltin, liveR, constD, constC, Z1, Z2, Z5, Z6, Z10, Z12, Z8, Z4, if_true, and_self, Z3, tk5, tk9, tk35, bytesStr, strBytes, hbs, hbm]; rfl) ?_)) ?_)
          refine tri_block ?_
          refine tri_loop_le (fun n A => ∃ (j : Nat) (m : Int), j ≤ bs.length ∧ n = bs.length - j ∧ digN (bs.drop j) m = digN bs 0 ∧ A = ⟨[.top, .top, .top, .top, .c (.v (.int .u64 m)), .top, .top, .top, .top, .top, .top, .top, .top, .top, .top, .top, .top, .top, .top, .top, .top, .top, .top, .top, .top, .top, .c (.h 0 0 bs.length), dI bs.length, dI j, .top, .top, .top, .top, .top, .top, .top, .top, .top, .top, .top, .top, .top, .top, .top, .top, .top], [some ⟨true, 1, bs.map byteRow⟩]⟩) bs.length
            (B := ⟨[.top, .top, .top, .top, .c (.v (.int .u64 0)), .top, .top, .top, .top, .top, .top, .top, .top, .top, .top, .top, .top, .top, .top, .top, .top, .top, .top, .top, .top, .top, .c (.h 0 0 bs.length), dI bs.length, dI (0 : Nat), .top, .top, .top, .top, .top, .top, .top, .top, .top, .top, .top, .top, .top, .top, .top, .top, .top], [some ⟨true, 1, bs.map byteRow⟩]⟩)
            ⟨by repeat (first | exact .nil | refine .same ?_ | refine .top ?_), rfl⟩ ⟨0, 0, by omega, by omega, rfl, rfl⟩ ?_
          rintro n A ⟨j, m, hj, rfl, hg, rfl⟩
          refine seq_run ok0 rfl (by repeat (first | with_reducible exact runf_nil | refine runf_cons (by simp only [xstep, stepf, stepx, qev, St.ev, St.put, qint, qshift, isShift, qbin, Z1, Z2, Z5, Z6, Z4, Z11, if_true, if_false, Z3, Z7, dI]; rfl) ?_)) ?_
          refine seq_cond rfl (fun h => then_skip ?_) (fun h => tri_exit ?_)
          · have hjl : j < bs.length := by have := of_decide_eq_true h; omega
            obtain ⟨x, hx⟩ : ∃ x, bs[j]? = some x := ⟨bs[j], List.getElem?_eq_getElem hjl⟩
            have hdx : bs.drop j = x :: bs.drop (j + 1) := by rw [List.drop_eq_getElem_cons hjl]; rw [List.getElem?_eq_getElem hjl] at hx; cases hx; rfl
            rw [hdx] at hg
            simp only [digN] at hg
            have hgx : (bs.map byteRow)[j]? = some [.v (.int .u8 (x.toNat : Nat))] := by rw [List.getElem?_map, hx]; rfl
            refine seq_in (tri_block ?_)
            refine seq_run ok0 rfl (by repeat (first | with_reducible exact runf_nil | refine runf_cons (by simp only [xstep, stepf, stepx, qev, St.ev, St.put, D.int, qload, cellsAt, qmk, C.cpy, TK.agg, qindexAddr, C.cp, Z1, Z2, Z5, Z6, Z9, Z10, Z13, Z24, Z16, Z18, Z17, Z20, Z21, Z8, Z4, if_true, if_false, and_self, decide_true, Z3, ne_eq, not_false_eq_true, reduceCtorEq, Z7, Z14, Z26, tk5, tsz5, tk35, Int.toNat_natCast, Int.natCast_nonneg, hgx, show ((j : Int) < (bs.length : Int)) = True from eq_true (by omega)]; rfl) ?_)) ?_
            refine seq_run ok0 rfl (by repeat (first | with_reducible exact runf_nil | refine runf_cons (by simp only [xstep, stepf, stepx, qev, St.ev, St.put, qint, qshift, isShift, qbin, qconv, constD, constC, Z1, Z2, Z5, Z6, Z8, Z4, Z11, if_true, if_false, Z3, Z7, tk5, tk37]; rfl) ?_)) ?_
            split at hg
            · rename_i hover
              refine seq_in (seq_run ok0 rfl (by repeat (first | with_reducible exact runf_nil | refine runf_cons (by simp only [xstep, stepf, stepx, qev, St.ev, St.put, qint, qshift, isShift, qbin, constD, constC, Z1, Z2, Z5, Z6, Z4, Z11, if_true, if_false, decide_true, Z3, Z7, show ((10 : Int) = 0) = False from eq_false (by decide), eq_true hover]; rfl) ?_)) ?_)
              refine tri_cond rfl (fun _ => ?_) (fun h => by cases h)
              refine seq_run ok0 rfl (by repeat (first | with_reducible exact runf_nil | refine runf_cons (by simp only [xstep, stepf, stepx, qev, St.ev, St.put, constD, constC, Z5, Z6, Z4, Z3]; rfl) ?_)) ?_
              refine tri_ret (ends_ret (by simp only [outRes, resDs, resD, outDs, outD, outC, C.dat, Z1, Z2, Z4, if_true, Z3]; rfl) rfl (by simp) (by simp) ?_)
              rw [← hg] at hQ
              exact hQ
            · rename_i hover
              refine seq_in (seq_run ok0 rfl (by repeat (first | with_reducible exact runf_nil | refine runf_cons (by simp only [xstep, stepf, stepx, qev, St.ev, St.put, qint, qshift, isShift, qbin, constD, constC, Z1, Z2, Z5, Z6, Z4, Z11, if_true, if_false, decide_false, Z3, Z7, show ((10 : Int) = 0) = False from eq_false (by decide), eq_false hover]; rfl) ?_)) ?_)
              refine tri_cond rfl (fun h => by cases h) (fun _ => then_skip ?_)
              refine run_end ok0 rfl (by repeat (first | with_reducible exact runf_nil | refine runf_cons (by simp only [xstep, stepf, stepx, qev, St.ev, St.put, qint, qshift, isShift, qbin, constD, constC, Z1, Z2, Z5, Z6, Z4, Z11, if_true, if_false, Z3, Z7]; rfl) ?_)) ?_
              refine run_end ok0 rfl (by repeat (first | with_reducible exact runf_nil | refine runf_cons (by simp only [xstep, stepf, stepx, qev, St.ev, St.put, qint, qshift, isShift, qbin, constD, constC, Z1, Z2, Z5, Z6, Z4, Z11, if_true, if_false, Z3, Z7, wrap_succ j bs.length hjl hbm]; rfl) ?_)) ?_
              exact ⟨bs.length - (j + 1), by omega, ⟨[.top, .top, .top, .top, .c (.v (.int .u64 _)), .top, .top, .top, .top, .top, .top, .top, .top, .top, .top, .top, .top, .top, .top, .top, .top, .top, .top, .top, .top, .top, .c (.h 0 0 bs.length), dI bs.length, dI (j + 1 : Nat), .top, .top, .top, .top, .top, .top, .top, .top, .top, .top, .top, .top, .top, .top, .top, .top, .top], [some ⟨true, 1, bs.map byteRow⟩]⟩, ⟨by repeat (first | exact .nil | refine .same ?_ | refine .top ?_), rfl⟩, j + 1, _, hjl, rfl, hg, rfl⟩
          · have hjl : j = bs.length := by have := of_decide_eq_false h; omega
            subst hjl
            rw [List.drop_length] at hg
            simp only [digN] at hg
            rw [← hg] at hQ
            show Tri _ _ _ _
            refine seq_run ok0 rfl (by repeat (first | with_reducible exact runf_nil | refine runf_cons (by simp only [xstep, stepf, stepx, qev, St.ev, St.put, constD, constC, Z1, Z2, Z5, Z6, Z4, Z3]; rfl) ?_)) ?_
            refine tri_ret (ends_ret (by simp only [outRes, resDs, resD, outDs, outD, outC, C.dat, Z1, Z2, Z4, if_true, Z3]; rfl) rfl (by simp) (by simp) ?_)
            exact hQ
    · cases hd
  · cases hd

end Go.Dl

namespace Go.Dl
open Go.RowKit
open Go.Proofs
set_option linter.unusedSimpArgs false
set_option linter.unusedVariables false

def overF (neg : Bool) (n : Int) (ok : Bool) : Bool := !ok || (!neg && decide (9223372036854775808 ≤ n)) || (neg && (decide (n = 0) || decide (9223372036854775808 < n)))
/-- A whole number: itself, the next place, the first error. -/
def numberF (l : List Tok) (i : Nat) (e bad : Int) : Option (Int × Nat × Int) :=
  if 0 ≤ (takeF l i e bad 1).2.2 then some (0, (takeF l i e bad 1).2.1, (takeF l i e bad 1).2.2)
  else if 0 < (takeF l i e bad 1).1.size ∧ (takeF l i e bad 1).1.size ≤ 1000000 then
    (if byt (takeF l i e bad 1).1 0 = 45 then
      (if overF true (digitsF ((takeF l i e bad 1).1.extract 1 (takeF l i e bad 1).1.size)).1 (digitsF ((takeF l i e bad 1).1.extract 1 (takeF l i e bad 1).1.size)).2 = true then some (0, i, failF l i e (takeF l i e bad 1).2.2)
       else some (IntKind.wrap .i64 (IntKind.wrap .u64 (0 - (digitsF ((takeF l i e bad 1).1.extract 1 (takeF l i e bad 1).1.size)).1)), (takeF l i e bad 1).2.1, (takeF l i e bad 1).2.2))
    else
      (if overF false (digitsF (takeF l i e bad 1).1).1 (digitsF (takeF l i e bad 1).1).2 = true then some (0, i, failF l i e (takeF l i e bad 1).2.2)
       else some (IntKind.wrap .i64 (digitsF (takeF l i e bad 1).1).1, (takeF l i e bad 1).2.1, (takeF l i e bad 1).2.2)))
  else none

def oNumber : List D → List Obj → Option (D × List Obj)
  | [.c (.p 0 0 0)], [o] => (decPa o).bind fun r => (numberF r.1 r.2.1 r.2.2.1 r.2.2.2).map fun q => (.c (.v (.int .i64 q.1)), [paObj r.1 q.2.1 r.2.2.1 q.2.2])
  | _, _ => none

def FsK3 : Fs := { pure := fun k => if k = 76 then some pDigits else none, objs := fun k => if k = 62 then some oFail else if k = 68 then some oTakeP else none }
theorem okK3 : FsOK Try.prog FsK3 := by
  refine ⟨fun k f h => ?_, fun k f h => ?_⟩
  · simp only [FsK3] at h
    split at h
    · rename_i hk; subst hk; cases h; exact ⟨by kernel_rfl, meets76⟩
    · cases h
  · simp only [FsK3] at h
    split at h
    · rename_i hk; subst hk; cases h; exact ⟨by kernel_rfl, meets62⟩
    split at h
    · rename_i hk; subst hk; cases h; exact ⟨by kernel_rfl, meets68⟩
    · cases h

theorem take_le (l : List Tok) (i : Nat) (e bad k : Int) : (takeF l i e bad k).2.1 = i ∨ ((takeF l i e bad k).2.1 = i + 1 ∧ i < l.length) := by
  unfold takeF
  split
  · exact .inl rfl
  · split
    · rename_i t ht
      split
      · exact .inr ⟨rfl, lt_len ht⟩
      · exact .inl rfl
    · exact .inl rfl

theorem meets63 : Meets Try.prog 63 (detS oNumber) := by
  refine meets_of_tri (show Try.prog.funcs[63]? = some Try.f63 by kernel_rfl) rfl (n := 63) rfl (rs := [ResultVar.tmp 2]) rfl ?_
  rintro args objs Q ⟨d, os, hd, hQ⟩
  unfold oNumber at hd
  split at hd
  · rename_i o
    cases hp : decPa o with
    | none => rw [hp] at hd; cases hd
    | some r =>
      obtain ⟨l, i, e, bad⟩ := r
      rw [hp] at hd
      simp only [Z8] at hd
      obtain ⟨rfl, hl, hi⟩ := decPa_eq hp
      have hT : oTakeP [.c (.p 0 0 0), .c (.v (.int .i64 1))] [paObj l i e bad] = some (.c (.v (.string (takeF l i e bad 1).1)), [paObj l (takeF l i e bad 1).2.1 e (takeF l i e bad 1).2.2]) := by
        simp only [oTakeP, decPa_pa hl hi, Z4]
      have htl := take_le l i e bad 1
      unfold numberF at hd
      generalize takeF l i e bad 1 = tk at hT hd htl
      obtain ⟨s, j, b1⟩ := tk
      simp only at hT hd htl
      have hF : oFail [.c (.p 0 0 0)] [paObj l i e b1] = some (.t [], [paObj l i e (failF l i e b1)]) := by
        simp only [oFail, decPa_pa hl hi, Z4]
      simp only [paObj] at hT hF hd ⊢
      refine seq_run ok0 rfl (by repeat (first | with_reducible exact runf_nil | refine runf_cons (by simp only [xstep, stepf, stepx, qev, St.ev, St.put, constD, constC, Z5, Z6, List.replicate, Z9, Z10, Z23, Z12, Z13, Z24, Z4, Nat.reduceSub, Z3, Z14]; rfl) ?_)) ?_
      refine seq_run ok0 rfl (by repeat (first | with_reducible exact runf_nil | refine runf_cons (by simp only [xstep, stepf, stepx, qev, St.ev, St.put, qload, cellsAt, qmk, C.cpy, TK.agg, qnil, qfieldAddr, liveR, C.cp, Z1, Z2, Z5, Z6, Z9, Z10, Z13, Z24, Z16, Z18, Z17, Z20, Z19, Z21, Z8, Z4, if_true, if_false, and_self, Z3, reduceCtorEq, Z7, Z14, Z26, tk3, tsz3, tk80]; rfl) ?_)) ?_
      refine seq_run okK3 rfl (by repeat (first | with_reducible exact runf_nil | refine runf_cons (by simp only [xstep, stepf, stepx, evsA, qev, St.ev, St.put, St.with, D.cell, C.cpy, C.cp, C.dat, constD, constC, Z1, Z2, Z5, Z6, Z9, Z10, Z12, Z15, Z13, Z16, Z18, Z8, Z4, Bool.and_true, Nat.reduceEqDiff, if_true, if_false, and_self, Z3, Z7, Z14, beq_self_eq_true, Z26, Bool.true_or, callP, callO, dedup, rootsD, rootsC, List.flatMap_cons, List.flatMap_nil, List.filterMap_cons, List.filterMap_nil, argDs, argD, argC, List.contains_nil, objsAt, objOf, List.idxOf?, List.findIdx?, List.findIdx?.go, setObjs, settle, settle1, settleC, Z25, FsK3, hT]; rfl) ?_)) ?_
      by_cases hb : 0 ≤ b1
      · rw [if_pos hb] at hd
        cases hd
        refine seq_in (seq_run ok0 rfl (by repeat (first | with_reducible exact runf_nil | refine runf_cons (by simp only [xstep, stepf, stepx, qev, St.ev, St.put, qload, cellsAt, qmk, C.cpy, TK.agg, qnil, qfieldAddr, qint, qshift, isShift, qbin, liveR, C.cp, constD, constC, Z1, Z2, Z5, Z6, Z9, Z10, Z13, Z24, Z16, Z18, Z17, Z20, Z19, Z21, Z8, Z4, Z11, if_true, if_false, and_self, decide_true, Z3, reduceCtorEq, Z7, Z14, Z26, tk3, tsz3, tk80, eq_true hb]; rfl) ?_)) ?_)
        refine tri_cond rfl (fun _ => ?_) (fun h => by cases h)
        refine seq_run ok0 rfl (by repeat (first | with_reducible exact runf_nil | refine runf_cons (by simp only [xstep, stepf, stepx, qev, St.ev, St.put, constD, constC, Z5, Z6, Z4, Z3]; rfl) ?_)) ?_
        refine tri_ret (ends_ret (by simp only [outRes, resDs, resD, outD, outC, C.dat, Z1, Z2, Z4, if_true, Z3]; rfl) rfl .nil (by simp) ?_)
        exact hQ
      · rw [if_neg hb] at hd
        refine seq_in (seq_run ok0 rfl (by repeat (first | with_reducible exact runf_nil | refine runf_cons (by simp only [xstep, stepf, stepx, qev, St.ev, St.put, qload, cellsAt, qmk, C.cpy, TK.agg, qnil, qfieldAddr, qint, qshift, isShift, qbin, liveR, C.cp, constD, constC, Z1, Z2, Z5, Z6, Z9, Z10, Z13, Z24, Z16, Z18, Z17, Z20, Z19, Z21, Z8, Z4, Z11, if_true, if_false, and_self, decide_false, Z3, reduceCtorEq, Z7, Z14, Z26, tk3, tsz3, tk80, eq_false hb]; rfl) ?_)) ?_)
        refine tri_cond rfl (fun h => by cases h) (fun _ => then_skip ?_)
        split at hd
        · rename_i hsz
          obtain ⟨hs0, hs1⟩ := hsz
          have h0 : ((0 : Int) < (s.size : Int)) = True := eq_true (by omega)
          split at hd
          · rename_i hneg
            have hneg' : ((s.data.toList.getD 0 0).toNat : Int) = 45 := hneg
            have hex : (s.extract 1 s.size).size ≤ 1000000 := by rw [ByteArray.size_extract]; omega
            have hD : pDigits [.c (.v (.string (s.extract 1 s.size)))] = some (.t [.c (.v (.int .u64 (digitsF (s.extract 1 s.size)).1)), dB (digitsF (s.extract 1 s.size)).2]) := if_pos hex
            refine seq_run ok0 rfl (by repeat (first | with_reducible exact runf_nil | refine runf_cons (by simp only [xstep, stepf, stepx, qev, St.ev, St.put, D.int, qindex, qint, qshift, isShift, qbin, constD, constC, Z1, Z2, Z5, Z6, Z8, Z4, Z11, if_true, if_false, and_self, decide_true, Z3, Int.reduceLE, Z7, tk9, Int.toNat_zero, h0, eq_true hneg']; rfl) ?_)) ?_
            refine seq_in (seq_run ok0 rfl (by repeat (first | with_reducible exact runf_nil | refine runf_cons (by simp only [xstep, stepf, stepx, qev, St.ev, St.put, Z1, Z2, Z5, Z6, Z4, Z3]; rfl) ?_)) ?_)
            refine tri_cond rfl (fun _ => ?_) (fun h => by cases h)
            refine run_end ok0 rfl (by repeat (first | with_reducible exact runf_nil | refine runf_cons (by simp only [xstep, stepf, stepx, qev, St.ev, St.put, D.int, qbounds, qslice, omap, constD, constC, Z1, Z2, Z5, Z6, Z8, Z4, if_true, and_self, Z3, Int.reduceLE, Int.reduceToNat, tk9, qbounds, D.int, show ((1 : Int) ≤ (s.size : Int)) = True from eq_true (by omega)]; rfl) ?_)) ?_
            generalize digitsF (s.extract 1 s.size) = dg at hD hd
            obtain ⟨n, ok⟩ := dg
            simp only at hD hd
            refine seq_run okK3 rfl (by repeat (first | with_reducible exact runf_nil | refine runf_cons (by simp only [xstep, stepf, stepx, evsA, qev, St.ev, St.put, St.with, C.cpy, qext, C.cp, C.dat, Z1, Z2, Z5, Z6, Z15, Z13, Z8, Z4, if_true, Z3, Z26, Bool.true_or, dB, callP, argDs, argD, argC, settle, settle1, settleC, settleDs, Z25, FsK3, hD]; rfl) ?_)) ?_
            cases ok with
            | false =>
              rw [if_pos (by simp [overF])] at hd
              cases hd
              refine seq_in (seq_run ok0 rfl (by repeat (first | with_reducible exact runf_nil | refine runf_cons (by simp only [xstep, stepf, stepx, qev, St.ev, St.put, qpick, qun, constD, constC, Z1, Z2, Z5, Z6, Z8, Z4, Z11, if_false, Bool.not_false, cond_true, Z22, Z3, reduceCtorEq]; rfl) ?_)) ?_)
              refine tri_cond rfl (fun _ => ?_) (fun h => by cases h)
              refine seq_run ok0 rfl (by repeat (first | with_reducible exact runf_nil | refine runf_cons (by simp only [xstep, stepf, stepx, qev, St.ev, St.put, D.cells, qnil, qfieldAddr, liveR, C.st, C.dat, storeA, putCells, Z1, Z2, Z5, Z6, Z9, Z10, Z23, Z12, Z16, Z18, Z17, Z20, Z19, Z21, Z8, Z4, Nat.reduceAdd, if_true, if_false, and_self, Z3, ne_eq, not_false_eq_true, reduceCtorEq, Nat.reduceLeDiff, Z7, implies_true, Z14, Z26, tsz3, tk80]; rfl) ?_)) ?_
              refine seq_run okK3 rfl (by repeat (first | with_reducible exact runf_nil | refine runf_cons (by simp only [xstep, stepf, stepx, evsA, qev, St.ev, St.put, St.with, D.cell, C.dat, Z1, Z2, Z5, Z6, Z9, Z10, Z12, Z15, Z13, Z16, Z18, Z8, Z4, Bool.and_true, Nat.reduceEqDiff, if_true, if_false, and_self, Z3, Z7, Z14, beq_self_eq_true, Z26, Bool.true_or, callP, callO, dedup, rootsD, rootsC, List.flatMap_cons, List.flatMap_nil, List.filterMap_cons, List.filterMap_nil, argDs, argD, argC, List.contains_nil, objsAt, objOf, List.idxOf?, List.findIdx?, List.findIdx?.go, setObjs, settle, settleDs, Z25, FsK3, hF]; rfl) ?_)) ?_
              refine seq_run ok0 rfl (by repeat (first | with_reducible exact runf_nil | refine runf_cons (by simp only [xstep, stepf, stepx, qev, St.ev, St.put, constD, constC, Z5, Z6, Z4, Z3]; rfl) ?_)) ?_
              refine tri_ret (ends_ret (by simp only [outRes, resDs, resD, outD, outC, C.dat, Z1, Z2, Z4, if_true, Z3]; rfl) rfl .nil (by simp) ?_)
              exact hQ
            | true =>
              by_cases hn0 : n = 0
              · rw [if_pos (by simp [overF, hn0])] at hd
                cases hd
                refine seq_in (seq_run ok0 rfl (by repeat (first | with_reducible exact runf_nil | refine runf_cons (by simp only [xstep, stepf, stepx, qev, St.ev, St.put, qpick, qint, qshift, isEq, isShift, qbin, qun, constD, constC, Z1, Z2, Z5, Z6, Z8, Z4, Z11, if_true, if_false, decide_true, Bool.not_true, cond_true, cond_false, Z22, Z3, reduceCtorEq, Z7, eq_true hn0]; rfl) ?_)) ?_)
                refine tri_cond rfl (fun _ => ?_) (fun h => by cases h)
                refine seq_run ok0 rfl (by repeat (first | with_reducible exact runf_nil | refine runf_cons (by simp only [xstep, stepf, stepx, qev, St.ev, St.put, D.cells, qnil, qfieldAddr, liveR, C.st, C.dat, storeA, putCells, Z1, Z2, Z5, Z6, Z9, Z10, Z23, Z12, Z16, Z18, Z17, Z20, Z19, Z21, Z8, Z4, Nat.reduceAdd, if_true, if_false, and_self, Z3, ne_eq, not_false_eq_true, reduceCtorEq, Nat.reduceLeDiff, Z7, implies_true, Z14, Z26, tsz3, tk80]; rfl) ?_)) ?_
                refine seq_run okK3 rfl (by repeat (first | with_reducible exact runf_nil | refine runf_cons (by simp only [xstep, stepf, stepx, evsA, qev, St.ev, St.put, St.with, D.cell, C.dat, Z1, Z2, Z5, Z6, Z9, Z10, Z12, Z15, Z13, Z16, Z18, Z8, Z4, Bool.and_true, Nat.reduceEqDiff, if_true, if_false, and_self, Z3, Z7, Z14, beq_self_eq_true, Z26, Bool.true_or, callP, callO, dedup, rootsD, rootsC, List.flatMap_cons, List.flatMap_nil, List.filterMap_cons, List.filterMap_nil, argDs, argD, argC, List.contains_nil, objsAt, objOf, List.idxOf?, List.findIdx?, List.findIdx?.go, setObjs, settle, settleDs, Z25, FsK3, hF]; rfl) ?_)) ?_
                refine seq_run ok0 rfl (by repeat (first | with_reducible exact runf_nil | refine runf_cons (by simp only [xstep, stepf, stepx, qev, St.ev, St.put, constD, constC, Z5, Z6, Z4, Z3]; rfl) ?_)) ?_
                refine tri_ret (ends_ret (by simp only [outRes, resDs, resD, outD, outC, C.dat, Z1, Z2, Z4, if_true, Z3]; rfl) rfl .nil (by simp) ?_)
                exact hQ
              · by_cases hbig : 9223372036854775808 < n
                · rw [if_pos (by simp [overF, hbig])] at hd
                  cases hd
                  refine seq_in (seq_run ok0 rfl (by repeat (first | with_reducible exact runf_nil | refine runf_cons (by simp only [xstep, stepf, stepx, qev, St.ev, St.put, qpick, qint, qshift, isEq, isShift, qbin, qun, constD, constC, Z1, Z2, Z5, Z6, Z8, Z4, Z11, if_true, if_false, decide_true, decide_false, Bool.not_true, cond_true, cond_false, Z22, Z3, Z7, eq_false hn0, eq_true hbig]; rfl) ?_)) ?_)
                  refine tri_cond rfl (fun _ => ?_) (fun h => by cases h)
                  refine seq_run ok0 rfl (by repeat (first | with_reducible exact runf_nil | refine runf_cons (by simp only [xstep, stepf, stepx, qev, St.ev, St.put, D.cells, qnil, qfieldAddr, liveR, C.st, C.dat, storeA, putCells, Z1, Z2, Z5, Z6, Z9, Z10, Z23, Z12, Z16, Z18, Z17, Z20, Z19, Z21, Z8, Z4, Nat.reduceAdd, if_true, if_false, and_self, Z3, ne_eq, not_false_eq_true, reduceCtorEq, Nat.reduceLeDiff, Z7, implies_true, Z14, Z26, tsz3, tk80]; rfl) ?_)) ?_
                  refine seq_run okK3 rfl (by repeat (first | with_reducible exact runf_nil | refine runf_cons (by simp only [xstep, stepf, stepx, evsA, qev, St.ev, St.put, St.with, D.cell, C.dat, Z1, Z2, Z5, Z6, Z9, Z10, Z12, Z15, Z13, Z16, Z18, Z8, Z4, Bool.and_true, Nat.reduceEqDiff, if_true, if_false, and_self, Z3, Z7, Z14, beq_self_eq_true, Z26, Bool.true_or, callP, callO, dedup, rootsD, rootsC, List.flatMap_cons, List.flatMap_nil, List.filterMap_cons, List.filterMap_nil, argDs, argD, argC, List.contains_nil, objsAt, objOf, List.idxOf?, List.findIdx?, List.findIdx?.go, setObjs, settle, settleDs, Z25, FsK3, hF]; rfl) ?_)) ?_
                  refine seq_run ok0 rfl (by repeat (first | with_reducible exact runf_nil | refine runf_cons (by simp only [xstep, stepf, stepx, qev, St.ev, St.put, constD, constC, Z5, Z6, Z4, Z3]; rfl) ?_)) ?_
                  refine tri_ret (ends_ret (by simp only [outRes, resDs, resD, outD, outC, C.dat, Z1, Z2, Z4, if_true, Z3]; rfl) rfl .nil (by simp) ?_)
                  exact hQ
                · rw [if_neg (by simp [overF, hn0, hbig])] at hd
                  cases hd
                  refine seq_in (seq_run ok0 rfl (by repeat (first | with_reducible exact runf_nil | refine runf_cons (by simp only [xstep, stepf, stepx, qev, St.ev, St.put, qpick, qint, qshift, isEq, isShift, qbin, qun, constD, constC, Z1, Z2, Z5, Z6, Z8, Z4, Z11, if_true, if_false, decide_false, Bool.not_true, cond_true, cond_false, Z22, Z3, Z7, eq_false hn0, eq_false hbig]; rfl) ?_)) ?_)
                  refine tri_cond rfl (fun h => by cases h) (fun _ => then_skip ?_)
                  refine seq_in (seq_run ok0 rfl (by repeat (first | with_reducible exact runf_nil | refine runf_cons (by simp only [xstep, stepf, stepx, qev, St.ev, St.put, Z1, Z2, Z5, Z6, Z4, Z3]; rfl) ?_)) ?_)
                  refine tri_cond rfl (fun _ => ?_) (fun h => by cases h)
                  refine seq_run ok0 rfl (by repeat (first | with_reducible exact runf_nil | refine runf_cons (by simp only [xstep, stepf, stepx, qev, St.ev, St.put, qun, qconv, Z1, Z2, Z5, Z6, Z8, Z4, Z3, tk2, tk37]; rfl) ?_)) ?_
                  refine tri_ret (ends_ret (by simp only [outRes, resDs, resD, outD, outC, C.dat, Z1, Z2, Z4, if_true, Z3]; rfl) rfl .nil (by simp) ?_)
                  exact hQ
          · rename_i hneg
            have hneg' : ¬ ((s.data.toList.getD 0 0).toNat : Int) = 45 := hneg
            have hD : pDigits [.c (.v (.string s))] = some (.t [.c (.v (.int .u64 (digitsF s).1)), dB (digitsF s).2]) := if_pos hs1
            refine seq_run ok0 rfl (by repeat (first | with_reducible exact runf_nil | refine runf_cons (by simp only [xstep, stepf, stepx, qev, St.ev, St.put, D.int, qindex, qint, qshift, isShift, qbin, constD, constC, Z1, Z2, Z5, Z6, Z8, Z4, Z11, if_true, if_false, and_self, decide_false, Z3, Int.reduceLE, Z7, tk9, Int.toNat_zero, h0, eq_false hneg']; rfl) ?_)) ?_
            refine seq_in (seq_run ok0 rfl (by repeat (first | with_reducible exact runf_nil | refine runf_cons (by simp only [xstep, stepf, stepx, qev, St.ev, St.put, Z1, Z2, Z5, Z6, Z4, Z3]; rfl) ?_)) ?_)
            refine tri_cond rfl (fun h => by cases h) (fun _ => then_skip ?_)
            generalize digitsF s = dg at hD hd
            obtain ⟨n, ok⟩ := dg
            simp only at hD hd
            refine seq_run okK3 rfl (by repeat (first | with_reducible exact runf_nil | refine runf_cons (by simp only [xstep, stepf, stepx, evsA, qev, St.ev, St.put, St.with, C.cpy, qext, C.cp, C.dat, Z1, Z2, Z5, Z6, Z15, Z13, Z8, Z4, if_true, Z3, Z26, Bool.true_or, dB, callP, argDs, argD, argC, settle, settle1, settleC, settleDs, Z25, FsK3, hD]; rfl) ?_)) ?_
            cases ok with
            | false =>
              rw [if_pos (by simp [overF])] at hd
              cases hd
              refine seq_in (seq_run ok0 rfl (by repeat (first | with_reducible exact runf_nil | refine runf_cons (by simp only [xstep, stepf, stepx, qev, St.ev, St.put, qpick, qun, constD, constC, Z1, Z2, Z5, Z6, Z8, Z4, Z11, if_false, Bool.not_false, cond_true, Z22, Z3, reduceCtorEq]; rfl) ?_)) ?_)
              refine tri_cond rfl (fun _ => ?_) (fun h => by cases h)
              refine seq_run ok0 rfl (by repeat (first | with_reducible exact runf_nil | refine runf_cons (by simp only [xstep, stepf, stepx, qev, St.ev, St.put, D.cells, qnil, qfieldAddr, liveR, C.st, C.dat, storeA, putCells, Z1, Z2, Z5, Z6, Z9, Z10, Z23, Z12, Z16, Z18, Z17, Z20, Z19, Z21, Z8, Z4, Nat.reduceAdd, if_true, if_false, and_self, Z3, ne_eq, not_false_eq_true, reduceCtorEq, Nat.reduceLeDiff, Z7, implies_true, Z14, Z26, tsz3, tk80]; rfl) ?_)) ?_
              refine seq_run okK3 rfl (by repeat (first | with_reducible exact runf_nil | refine runf_cons (by simp only [xstep, stepf, stepx, evsA, qev, St.ev, St.put, St.with, D.cell, C.dat, Z1, Z2, Z5, Z6, Z9, Z10, Z12, Z15, Z13, Z16, Z18, Z8, Z4, Bool.and_true, Nat.reduceEqDiff, if_true, if_false, and_self, Z3, Z7, Z14, beq_self_eq_true, Z26, Bool.true_or, callP, callO, dedup, rootsD, rootsC, List.flatMap_cons, List.flatMap_nil, List.filterMap_cons, List.filterMap_nil, argDs, argD, argC, List.contains_nil, objsAt, objOf, List.idxOf?, List.findIdx?, List.findIdx?.go, setObjs, settle, settleDs, Z25, FsK3, hF]; rfl) ?_)) ?_
              refine seq_run ok0 rfl (by repeat (first | with_reducible exact runf_nil | refine runf_cons (by simp only [xstep, stepf, stepx, qev, St.ev, St.put, constD, constC, Z5, Z6, Z4, Z3]; rfl) ?_)) ?_
              refine tri_ret (ends_ret (by simp only [outRes, resDs, resD, outD, outC, C.dat, Z1, Z2, Z4, if_true, Z3]; rfl) rfl .nil (by simp) ?_)
              exact hQ
            | true =>
              by_cases hbig : 9223372036854775808 ≤ n
              · rw [if_pos (by simp [overF, hbig])] at hd
                cases hd
                refine seq_in (seq_run ok0 rfl (by repeat (first | with_reducible exact runf_nil | refine runf_cons (by simp only [xstep, stepf, stepx, qev, St.ev, St.put, qpick, qint, qshift, isShift, qbin, qun, constD, constC, Z1, Z2, Z5, Z6, Z8, Z4, Z11, if_true, if_false, decide_true, Bool.not_true, Bool.not_false, cond_true, cond_false, Z22, Z3, reduceCtorEq, Z7, eq_true hbig]; rfl) ?_)) ?_)
                refine tri_cond rfl (fun _ => ?_) (fun h => by cases h)
                refine seq_run ok0 rfl (by repeat (first | with_reducible exact runf_nil | refine runf_cons (by simp only [xstep, stepf, stepx, qev, St.ev, St.put, D.cells, qnil, qfieldAddr, liveR, C.st, C.dat, storeA, putCells, Z1, Z2, Z5, Z6, Z9, Z10, Z23, Z12, Z16, Z18, Z17, Z20, Z19, Z21, Z8, Z4, Nat.reduceAdd, if_true, if_false, and_self, Z3, ne_eq, not_false_eq_true, reduceCtorEq, Nat.reduceLeDiff, Z7, implies_true, Z14, Z26, tsz3, tk80]; rfl) ?_)) ?_
                refine seq_run okK3 rfl (by repeat (first | with_reducible exact runf_nil | refine runf_cons (by simp only [xstep, stepf, stepx, evsA, qev, St.ev, St.put, St.with, D.cell, C.dat, Z1, Z2, Z5, Z6, Z9, Z10, Z12, Z15, Z13, Z16, Z18, Z8, Z4, Bool.and_true, Nat.reduceEqDiff, if_true, if_false, and_self, Z3, Z7, Z14, beq_self_eq_true, Z26, Bool.true_or, callP, callO, dedup, rootsD, rootsC, List.flatMap_cons, List.flatMap_nil, List.filterMap_cons, List.filterMap_nil, argDs, argD, argC, List.contains_nil, objsAt, objOf, List.idxOf?, List.findIdx?, List.findIdx?.go, setObjs, settle, settleDs, Z25, FsK3, hF]; rfl) ?_)) ?_
                refine seq_run ok0 rfl (by repeat (first | with_reducible exact runf_nil | refine runf_cons (by simp only [xstep, stepf, stepx, qev, St.ev, St.put, constD, constC, Z5, Z6, Z4, Z3]; rfl) ?_)) ?_
                refine tri_ret (ends_ret (by simp only [outRes, resDs, resD, outD, outC, C.dat, Z1, Z2, Z4, if_true, Z3]; rfl) rfl .nil (by simp) ?_)
                exact hQ
              · rw [if_neg (by simp [overF, hbig])] at hd
                cases hd
                refine seq_in (seq_run ok0 rfl (by repeat (first | with_reducible exact runf_nil | refine runf_cons (by simp only [xstep, stepf, stepx, qev, St.ev, St.put, qpick, qint, qshift, isEq, qeq, isShift, qbin, qun, constD, constC, Z1, Z2, Z5, Z6, Z8, Z4, Z11, if_true, if_false, decide_false, Bool.not_true, Bool.not_false, cond_true, cond_false, Z22, Z3, Z7, tk37, eq_false hbig]; rfl) ?_)) ?_)
                refine tri_cond rfl (fun h => by cases h) (fun _ => then_skip ?_)
                refine seq_in (seq_run ok0 rfl (by repeat (first | with_reducible exact runf_nil | refine runf_cons (by simp only [xstep, stepf, stepx, qev, St.ev, St.put, Z1, Z2, Z5, Z6, Z4, Z3]; rfl) ?_)) ?_)
                refine tri_cond rfl (fun h => by cases h) (fun _ => then_skip ?_)
                refine seq_run ok0 rfl (by repeat (first | with_reducible exact runf_nil | refine runf_cons (by simp only [xstep, stepf, stepx, qev, St.ev, St.put, qconv, Z1, Z2, Z5, Z6, Z8, Z4, Z3, tk2, tk37]; rfl) ?_)) ?_
                refine tri_ret (ends_ret (by simp only [outRes, resDs, resD, outD, outC, C.dat, Z1, Z2, Z4, if_true, Z3]; rfl) rfl .nil (by simp) ?_)
                exact hQ
        · cases hd
  · cases hd

end Go.Dl

namespace Go.Dl
open Go.RowKit
open Go.Proofs
set_option linter.unusedSimpArgs false
set_option linter.unusedVariables false

def formB (k : Nat) : ByteArray := [⟨#[]⟩, ⟨#[97, 112, 112, 101, 110, 100]⟩, ⟨#[103, 101, 116]⟩, ⟨#[101, 114, 97, 115, 101]⟩, ⟨#[100, 114, 111, 112]⟩, ⟨#[104, 111, 108, 100]⟩, ⟨#[114, 101, 108, 101, 97, 115, 101]⟩, ⟨#[112, 111, 105, 110, 116]⟩, ⟨#[116, 105, 99, 107]⟩, ⟨#[115, 116, 101, 112]⟩, ⟨#[115, 119, 101, 101, 112]⟩, ⟨#[99, 114, 97, 115, 104]⟩, ⟨#[97, 114, 109]⟩, ⟨#[111, 112, 101, 110]⟩, ⟨#[115, 104, 111, 119]⟩, ⟨#[112, 114, 111, 118, 101]⟩].getD k ⟨#[]⟩
def formsC : List C := [.v (.string ⟨#[]⟩), .v (.string ⟨#[97, 112, 112, 101, 110, 100]⟩), .v (.string ⟨#[103, 101, 116]⟩), .v (.string ⟨#[101, 114, 97, 115, 101]⟩), .v (.string ⟨#[100, 114, 111, 112]⟩), .v (.string ⟨#[104, 111, 108, 100]⟩), .v (.string ⟨#[114, 101, 108, 101, 97, 115, 101]⟩), .v (.string ⟨#[112, 111, 105, 110, 116]⟩), .v (.string ⟨#[116, 105, 99, 107]⟩), .v (.string ⟨#[115, 116, 101, 112]⟩), .v (.string ⟨#[115, 119, 101, 101, 112]⟩), .v (.string ⟨#[99, 114, 97, 115, 104]⟩), .v (.string ⟨#[97, 114, 109]⟩), .v (.string ⟨#[111, 112, 101, 110]⟩), .v (.string ⟨#[115, 104, 111, 119]⟩), .v (.string ⟨#[112, 114, 111, 118, 101]⟩)]
def pForms : List D → Option D
  | [] => some (.agg formsC)
  | _ => none
theorem meets43 : Meets Try.prog 43 (pureS pForms) := by
  refine meets_of_tri (show Try.prog.funcs[43]? = some Try.f43 by kernel_rfl) rfl (n := 2) rfl (rs := [ResultVar.cell 0 84]) rfl ?_
  rintro args objs Q ⟨rfl, d, hd, hQ⟩
  unfold pForms at hd
  split at hd
  · cases hd
    refine seq_run ok0 rfl (by repeat (first | with_reducible exact runf_nil | refine runf_cons (by simp only [xstep, stepf, stepx, St.put, St.with, boxA, C.st, Z5, List.replicate, Z9, Z10, Z12, Z13, Z16, Z18, Z8, Z4, Nat.reduceAdd, Nat.reduceSub, if_true, Z3, Z14, Z26, tz84]; rfl) ?_)) ?_
    refine seq_run ok0 rfl (by repeat (first | with_reducible exact runf_nil | refine runf_cons (by simp only [xstep, stepf, stepx, St.ev, St.put, D.cells, C.st, C.dat, storeA, putCells, constD, constC, Z1, Z2, Z5, Z6, Z9, Z10, Z23, Z12, Z15, Z16, Z18, Z17, Z20, Z19, Z21, Z8, Z4, Nat.reduceAdd, Nat.reduceMul, if_true, and_self, Z3, ne_eq, not_false_eq_true, reduceCtorEq, Nat.reduceLeDiff, Nat.le_refl, Z7, implies_true, Z14, Z26, tsz9, tk84, tsz84, tz84, buildA, partsA, fillA]; rfl) ?_)) ?_
    refine tri_ret (ends_ret (by simp only [outRes, resDs, resD, outD, outC, outCs, tk84, tsz84, qload, cellsAt, qmk, C.cpy, TK.agg, C.cp, C.dat, Z1, Z9, Z10, Z15, Z13, Z24, Z16, Z18, Z17, Z20, Z21, Z8, Z4, Nat.reduceAdd, if_true, and_self, Z3, Z14, Z26]; rfl) rfl (by simp) (by simp) ?_)
    exact hQ
  · cases hd

abbrev ints (l : List Int) : List (List C) := l.map fun n => [.v (.int .i64 n)]
def argsL (k : Int) : Option (List Int) := if k = 8 then some [3] else none
def pArgs : List D → Option D
  | [.c (.v (.int .i64 k))] => (argsL k).map fun l => .c (.s true 1 (ints l))
  | _ => none
theorem meets44 : Meets Try.prog 44 (pureS pArgs) := by
  refine meets_of_tri (show Try.prog.funcs[44]? = some Try.f44 by kernel_rfl) rfl (n := 31) rfl (rs := [ResultVar.tmp 2]) rfl ?_
  rintro args objs Q ⟨rfl, d, hd, hQ⟩
  unfold pArgs at hd
  split at hd
  · rename_i k
    unfold argsL at hd
    split at hd
    · rename_i hk
      subst hk
      cases hd
      refine seq_run ok0 rfl (by repeat (first | with_reducible exact runf_nil | refine runf_cons (by simp only [xstep, stepf, stepx, qev, St.ev, St.put, constD, constC, Z5, Z6, List.replicate, Z9, Z10, Z23, Z12, Z13, Z4, Nat.reduceSub, Z3, Z14]; rfl) ?_)) ?_
      refine seq_in (seq_run ok0 rfl (by repeat (first | with_reducible exact runf_nil | refine runf_cons (by simp only [xstep, stepf, stepx, qev, St.ev, St.put, Z1, Z5, Z6, Z4, Z3]; rfl) ?_)) ?_)
      refine tri_block ?_
      refine seq_run ok0 rfl (by repeat (first | with_reducible exact runf_nil | refine runf_cons (by simp only [xstep, stepf, stepx, qev, St.ev, St.put, qint, qshift, isShift, qbin, constD, constC, Z1, Z2, Z5, Z6, Z4, Z11, if_true, if_false, decide_false, Z3, Z7, show ((8 : Int) = 1) = False from eq_false (by decide)]; rfl) ?_)) ?_
      refine tri_cond rfl (fun h => by cases h) (fun _ => ?_)
      refine seq_in (seq_run ok0 rfl (by repeat (first | with_reducible exact runf_nil | refine runf_cons (by simp only [xstep, stepf, stepx, qev, St.ev, St.put, qint, qshift, isShift, qbin, constD, constC, Z1, Z2, Z5, Z6, Z4, Z11, if_true, if_false, decide_false, Z3, Z7, show ((8 : Int) = 2) = False from eq_false (by decide)]; rfl) ?_)) ?_)
      refine tri_cond rfl (fun h => by cases h) (fun _ => ?_)
      refine run_end ok0 rfl (by repeat (first | with_reducible exact runf_nil | refine runf_cons (by simp only [xstep, stepf, stepx, qev, St.ev, St.put, qint, qshift, isShift, qbin, constD, constC, Z1, Z2, Z5, Z6, Z4, Z11, if_true, if_false, decide_false, Z3, Z7, show ((8 : Int) = 4) = False from eq_false (by decide)]; rfl) ?_)) ?_
      refine tri_cond rfl (fun h => by cases h) (fun _ => ?_)
      refine seq_in (seq_run ok0 rfl (by repeat (first | with_reducible exact runf_nil | refine runf_cons (by simp only [xstep, stepf, stepx, qev, St.ev, St.put, qint, qshift, isShift, qbin, constD, constC, Z1, Z2, Z5, Z6, Z4, Z11, if_true, if_false, decide_false, Z3, Z7, show ((8 : Int) = 3) = False from eq_false (by decide)]; rfl) ?_)) ?_)
      refine tri_cond rfl (fun h => by cases h) (fun _ => ?_)
      refine seq_run ok0 rfl (by repeat (first | with_reducible exact runf_nil | refine runf_cons (by simp only [xstep, stepf, stepx, qev, St.ev, St.put, qint, qshift, isShift, qbin, constD, constC, Z1, Z2, Z5, Z6, Z4, Z11, if_true, if_false, decide_false, Z3, Z7, show ((8 : Int) = 5) = False from eq_false (by decide)]; rfl) ?_)) ?_
      refine tri_cond rfl (fun h => by cases h) (fun _ => ?_)
      refine run_end ok0 rfl (by repeat (first | with_reducible exact runf_nil | refine runf_cons (by simp only [xstep, stepf, stepx, qev, St.ev, St.put, qint, qshift, isShift, qbin, constD, constC, Z1, Z2, Z5, Z6, Z4, Z11, if_true, if_false, decide_false, Z3, Z7, show ((8 : Int) = 6) = False from eq_false (by decide)]; rfl) ?_)) ?_
      refine tri_cond rfl (fun h => by cases h) (fun _ => ?_)
      refine seq_run ok0 rfl (by repeat (first | with_reducible exact runf_nil | refine runf_cons (by simp only [xstep, stepf, stepx, qev, St.ev, St.put, qint, qshift, isShift, qbin, constD, constC, Z1, Z2, Z5, Z6, Z4, Z11, if_true, if_false, decide_true, Z3, Z7]; rfl) ?_)) ?_
      refine tri_cond rfl (fun _ => ?_) (fun h => by cases h)
      refine seq_run ok0 rfl (by repeat (first | with_reducible exact runf_nil | refine runf_cons (by simp only [xstep, stepf, stepx, qev, St.ev, St.put, St.with, D.cells, C.st, C.dat, putCells, constD, constC, Z1, Z2, Z5, Z6, Z9, Z10, Z12, Z15, Z16, Z18, Z17, Z20, Z19, Z21, Z8, Z4, Nat.reduceMul, if_true, and_self, Z3, ne_eq, not_false_eq_true, reduceCtorEq, Nat.reduceLeDiff, Nat.le_refl, Z14, Z26, tsz3, tz3, tk27, buildSliceA, partsA, fillA, reps, chop]; rfl) ?_)) ?_
      refine tri_ret (ends_ret (by simp only [outRes, resDs, resD, outD, outC, Z1, Z2, Z9, Z10, Z4, if_true, and_self, Z3, ne_eq, not_false_eq_true, reduceCtorEq, Z14]; rfl) rfl (by simp) (by simp) ?_)
      exact hQ
    · cases hd
  · cases hd

end Go.Dl

namespace Go.Dl
open Go.RowKit
open Go.Proofs
set_option linter.unusedSimpArgs false
set_option linter.unusedVariables false

theorem fail_at {l : List Tok} (hl : l.length ≤ 1000000) (i : Nat) (e bad : Int) (hi : i ≤ l.length) : oFail [.c (.p 0 0 0)] [⟨4, [[.s false 3 (l.map tokC), .v (.int .i64 i), .v (.int .i64 e), .v (.int .i64 bad)]]⟩] =
    some (.t [], [⟨4, [[.s false 3 (l.map tokC), .v (.int .i64 i), .v (.int .i64 e), .v (.int .i64 (failF l i e bad))]]⟩]) := by
  have := decPa_pa (e := e) (bad := bad) hl (show i ≤ 1000000 by omega)
  simp only [paObj] at this
  simp only [oFail, this, Z4, paObj]
theorem peek_at {l : List Tok} (hl : l.length ≤ 1000000) (i : Nat) (e bad : Int) (m : ByteArray) (hi : i ≤ l.length) : oPeek [.c (.p 0 0 0), .c (.v (.string m))] [⟨4, [[.s false 3 (l.map tokC), .v (.int .i64 i), .v (.int .i64 e), .v (.int .i64 bad)]]⟩] =
    some (.c (.v (.bool (peekF l i bad m))), [⟨4, [[.s false 3 (l.map tokC), .v (.int .i64 i), .v (.int .i64 e), .v (.int .i64 bad)]]⟩]) := by
  have := decPa_pa (e := e) (bad := bad) hl (show i ≤ 1000000 by omega)
  simp only [paObj] at this
  simp only [oPeek, this, Z4, dB]
theorem take_at {l : List Tok} (hl : l.length ≤ 1000000) (i : Nat) (e bad k : Int) (hi : i ≤ l.length) : oTakeP [.c (.p 0 0 0), .c (.v (.int .i64 k))] [⟨4, [[.s false 3 (l.map tokC), .v (.int .i64 i), .v (.int .i64 e), .v (.int .i64 bad)]]⟩] =
    some (.c (.v (.string (takeF l i e bad k).1)), [⟨4, [[.s false 3 (l.map tokC), .v (.int .i64 (takeF l i e bad k).2.1), .v (.int .i64 e), .v (.int .i64 (takeF l i e bad k).2.2)]]⟩]) := by
  have := decPa_pa (e := e) (bad := bad) hl (show i ≤ 1000000 by omega)
  simp only [paObj] at this
  simp only [oTakeP, this, Z4, paObj]
theorem mark_at {l : List Tok} (hl : l.length ≤ 1000000) (i : Nat) (e bad : Int) (m : ByteArray) (hi : i ≤ l.length) : oMark [.c (.p 0 0 0), .c (.v (.string m))] [⟨4, [[.s false 3 (l.map tokC), .v (.int .i64 i), .v (.int .i64 e), .v (.int .i64 bad)]]⟩] =
    some (.t [], [⟨4, [[.s false 3 (l.map tokC), .v (.int .i64 (markF l i e bad m).1), .v (.int .i64 e), .v (.int .i64 (markF l i e bad m).2)]]⟩]) := by
  have := decPa_pa (e := e) (bad := bad) hl (show i ≤ 1000000 by omega)
  simp only [paObj] at this
  simp only [oMark, this, Z4, paObj]
theorem takeF_le {l : List Tok} {i : Nat} {e bad k : Int} (hi : i ≤ l.length) : (takeF l i e bad k).2.1 ≤ l.length := by
  rcases take_le l i e bad k with h | ⟨h, h2⟩ <;> omega
theorem markF_le {l : List Tok} {i : Nat} {e bad : Int} {m : ByteArray} (hi : i ≤ l.length) : (markF l i e bad m).1 ≤ l.length := by
  unfold markF
  split
  · rename_i h
    unfold peekF at h
    cases hx : l[i]? with
    | none => simp [hx] at h
    | some x => have := (List.getElem?_eq_some_iff.1 hx).1; simp only; omega
  · exact hi

/-- A sign's worth. -/
def nibF (c : Int) : Int := if isDigit c = true then c - 48 else if 97 ≤ c then (if c ≤ 102 then c - 97 + 10 else -1) else -1
theorem digit_at (c : Int) : pU8 isDigit [.c (.v (.int .u8 c))] = some (.c (.v (.bool (isDigit c)))) := rfl
noncomputable def pNib : List D → Option D := famP (fun x : UInt8 => True) (fun x => [.c (.v (.int .u8 x.toNat))]) (fun x => dI (nibF x.toNat))
theorem meets84 : Meets Try.prog 84 (pureS pNib) := by
  refine meets_famP (show Try.prog.funcs[84]? = some Try.f84 by kernel_rfl) rfl (n := 20) rfl (rs := [ResultVar.tmp 2]) rfl ?_
  intro x _ Q hQ
  have hx := x.toNat_lt
  generalize hc : ((x.toNat : Nat) : Int) = c at hQ ⊢
  have h0 : 0 ≤ c := by omega
  have h1 : c ≤ 255 := by omega
  have hd : isDigit c = true → 48 ≤ c ∧ c ≤ 57 := by simp [isDigit]
  by_cases hdg : isDigit c = true
  · obtain ⟨d1, d2⟩ := hd hdg
    refine seq_run okL1 rfl (by repeat (first | with_reducible exact runf_nil | refine runf_cons (by simp only [xstep, stepf, stepx, qev, St.ev, St.put, constD, constC, Z5, Z6, List.replicate, Z9, Z10, Z23, Z12, Z4, Nat.reduceSub, Z3, Z14]; rfl) ?_)) ?_
    refine seq_in (tri_block ?_)
    refine seq_run okL1 rfl (by repeat (first | with_reducible exact runf_nil | refine runf_cons (by simp only [xstep, stepf, stepx, evsA, qev, St.ev, St.put, St.with, C.cpy, C.cp, C.dat, Z1, Z2, Z5, Z6, Z15, Z13, Z4, Nat.reduceEqDiff, if_true, if_false, Z3, Z26, Bool.or_true, callP, Fs.none, argDs, argD, argC, D.ni, D.ni1, C.ni, settle, settle1, settleC, Z25, FsL1, digit_at, hdg]; rfl) ?_)) ?_
    refine tri_cond (b := true) rfl (fun _ => ?_) (fun h => by cases h)
    refine seq_run okL1 rfl (by repeat (first | with_reducible exact runf_nil | refine runf_cons (by simp only [xstep, stepf, stepx, qev, St.ev, St.put, qint, qshift, isShift, qbin, qconv, constD, constC, Z1, Z2, Z5, Z6, Z8, Z4, Z11, if_true, if_false, Z3, Z7, show IntKind.u8.wrap (c - 48) = _ from wrap_u8 _ (by omega) (by omega), tk3, tk5, show IntKind.i64.wrap (c - 48) = _ from wrap_i64 _ (by omega) (by omega)]; rfl) ?_)) ?_
    refine tri_ret (ends_ret (by simp only [outRes, resDs, resD, outD, outC, C.dat, Z1, Z2, Z4, if_true, Z3]; rfl) rfl (by simp) (by simp) ?_)
    (simp only [reduceIte, ↓reduceIte, nibF, dI, hdg] at hQ; with_reducible exact hQ)
  · have hdf : isDigit c = false := by simpa using hdg
    refine seq_run okL1 rfl (by repeat (first | with_reducible exact runf_nil | refine runf_cons (by simp only [xstep, stepf, stepx, qev, St.ev, St.put, constD, constC, Z5, Z6, List.replicate, Z9, Z10, Z23, Z12, Z4, Nat.reduceSub, Z3, Z14]; rfl) ?_)) ?_
    refine seq_in (tri_block ?_)
    refine seq_run okL1 rfl (by repeat (first | with_reducible exact runf_nil | refine runf_cons (by simp only [xstep, stepf, stepx, evsA, qev, St.ev, St.put, St.with, C.cpy, C.cp, C.dat, Z1, Z2, Z5, Z6, Z15, Z13, Z4, Nat.reduceEqDiff, if_true, if_false, Z3, Z26, Bool.or_true, callP, Fs.none, argDs, argD, argC, D.ni, D.ni1, C.ni, settle, settle1, settleC, Z25, FsL1, digit_at, hdf]; rfl) ?_)) ?_
    refine tri_cond (b := false) rfl (fun h => by cases h) (fun _ => ?_)
    by_cases a0 : (97 ≤ c)
    ·
      refine seq_run okL1 rfl (by repeat (first | with_reducible exact runf_nil | refine runf_cons (by simp only [xstep, stepf, stepx, qev, St.ev, St.put, qpick, qint, qshift, isShift, qbin, constD, constC, Z1, Z2, Z5, Z6, Z8, Z4, Z11, if_true, if_false, decide_true, cond_true, Z22, Z3, Z7, eq_true a0]; rfl) ?_)) ?_
      refine tri_cond rfl (fun a1 => ?_) (fun a1 => ?_)
      ·
        simp only [decide_eq_true_eq] at a1
        refine seq_run okL1 rfl (by repeat (first | with_reducible exact runf_nil | refine runf_cons (by simp only [xstep, stepf, stepx, qev, St.ev, St.put, qint, qshift, isShift, qbin, qconv, constD, constC, Z1, Z2, Z5, Z6, Z8, Z4, Z11, if_true, if_false, decide_true, Z3, Z7, a1, show IntKind.u8.wrap (c - 97) = _ from wrap_u8 _ (by omega) (by omega), tk3, tk5, show IntKind.i64.wrap (c - 97) = _ from wrap_i64 _ (by omega) (by omega), show IntKind.i64.wrap (c - 97 + 10) = _ from wrap_i64 _ (by omega) (by omega)]; rfl) ?_)) ?_
        refine tri_ret (ends_ret (by simp only [outRes, resDs, resD, outD, outC, C.dat, Z1, Z2, Z4, if_true, Z3]; rfl) rfl (by simp) (by simp) ?_)
        (simp only [reduceIte, Z7, ↓reduceIte, nibF, dI, hdf, eq_true a0, a1] at hQ; with_reducible exact hQ)
      ·
        simp only [decide_eq_false_iff_not] at a1
        refine tri_skip ?_
        show Tri _ _ _ _
        refine seq_run okL1 rfl (by repeat (first | with_reducible exact runf_nil | refine runf_cons (by simp only [xstep, stepf, stepx, qev, St.ev, St.put, constD, constC, Z5, Z6, Z4, decide_false, Z3, a1]; rfl) ?_)) ?_
        refine tri_ret (ends_ret (by simp only [outRes, resDs, resD, outD, outC, C.dat, Z1, Z2, Z4, if_true, Z3]; rfl) rfl (by simp) (by simp) ?_)
        (simp only [reduceIte, Z7, ↓reduceIte, Int.reduceNeg, nibF, dI, hdf, eq_true a0, a1] at hQ; with_reducible exact hQ)
    ·
      refine seq_run okL1 rfl (by repeat (first | with_reducible exact runf_nil | refine runf_cons (by simp only [xstep, stepf, stepx, qev, St.ev, St.put, qpick, qint, qshift, isEq, isShift, qbin, constD, constC, Z1, Z2, Z5, Z6, Z8, Z4, Z11, if_true, if_false, decide_false, cond_false, Z22, Z3, Z7, eq_false a0]; rfl) ?_)) ?_
      refine tri_cond (b := false) rfl (fun h => by cases h) (fun _ => ?_)
      refine tri_skip ?_
      show Tri _ _ _ _
      refine seq_run okL1 rfl (by repeat (first | with_reducible exact runf_nil | refine runf_cons (by simp only [xstep, stepf, stepx, qev, St.ev, St.put, constD, constC, Z5, Z6, Z4, Z3]; rfl) ?_)) ?_
      refine tri_ret (ends_ret (by simp only [outRes, resDs, resD, outD, outC, C.dat, Z1, Z2, Z4, if_true, Z3]; rfl) rfl (by simp) (by simp) ?_)
      (simp only [reduceIte, Z7, ↓reduceIte, Int.reduceNeg, nibF, dI, hdf, eq_false a0] at hQ; with_reducible exact hQ)

/-- A number that is not below 0. -/
def countF (l : List Tok) (i : Nat) (e bad : Int) : Int × Nat × Int :=
  if (takeF l i e bad 1).2.2 < 0 then
    (if (digitsF (takeF l i e bad 1).1).2 = true then ((digitsF (takeF l i e bad 1).1).1, (takeF l i e bad 1).2.1, (takeF l i e bad 1).2.2) else (0, i, failF l i e (takeF l i e bad 1).2.2))
  else if (digitsF (takeF l i e bad 1).1).2 = true then ((digitsF (takeF l i e bad 1).1).1, (takeF l i e bad 1).2.1, (takeF l i e bad 1).2.2) else (0, (takeF l i e bad 1).2.1, (takeF l i e bad 1).2.2)
def paPre (l : List Tok) (i : Nat) : Prop := l.length ≤ 1000000 ∧ i ≤ l.length ∧ ∀ t ∈ l, t.2.1.size ≤ 1000000
theorem digits_at (s : ByteArray) (h : s.size ≤ 1000000) : pDigits [.c (.v (.string s))] = some (.t [.c (.v (.int .u64 (digitsF s).1)), .c (.v (.bool (digitsF s).2))]) := if_pos h
theorem takeF_size {l : List Tok} {i : Nat} {e bad k : Int} (h : ∀ t ∈ l, t.2.1.size ≤ 1000000) : (takeF l i e bad k).1.size ≤ 1000000 := by
  unfold takeF
  split
  · exact Nat.zero_le _
  · split
    · rename_i t ht
      split
      · exact h _ (List.mem_of_getElem? ht)
      · exact Nat.zero_le _
    · exact Nat.zero_le _
noncomputable def oCount := famO (fun x : List Tok × Nat × Int × Int => paPre x.1 x.2.1) (fun x => ([.c (.p 0 0 0)], [paObj x.1 x.2.1 x.2.2.1 x.2.2.2]))
  (fun x => (.c (.v (.int .u64 (countF x.1 x.2.1 x.2.2.1 x.2.2.2).1)), [paObj x.1 (countF x.1 x.2.1 x.2.2.1 x.2.2.2).2.1 x.2.2.1 (countF x.1 x.2.1 x.2.2.1 x.2.2.2).2.2]))
theorem meets80 : Meets Try.prog 80 (detS oCount) := by
  refine meets_famO (show Try.prog.funcs[80]? = some Try.f80 by kernel_rfl) rfl (n := 34) rfl (rs := [ResultVar.tmp 2]) rfl ?_
  rintro ⟨l, i, e, bad⟩ ⟨hl, hi, hsz⟩ Q hQ
  dsimp only at hl hi hsz hQ
  simp only [paObj] at hQ
  have hT := take_at hl i e bad 1 hi
  have hD := digits_at (takeF l i e bad 1).1 (takeF_size hsz)
  have hF := fail_at hl i e (takeF l i e bad 1).2.2 hi
  refine seq_run okK3 rfl (by repeat (first | with_reducible exact runf_nil | refine runf_cons (by simp only [xstep, stepf, stepx, qev, St.ev, St.put, constD, constC, Z5, Z6, List.replicate, Z9, Z10, Z23, Z12, Z13, Z24, Z4, Nat.reduceSub, Z3, Z14, paObj]; rfl) ?_)) ?_
  refine seq_run okK3 rfl (by repeat (first | with_reducible exact runf_nil | refine runf_cons (by simp only [xstep, stepf, stepx, qev, St.ev, St.put, qload, cellsAt, qmk, C.cpy, TK.agg, qnil, qfieldAddr, liveR, C.cp, Z1, Z2, Z5, Z6, Z9, Z10, Z13, Z24, Z16, Z18, Z17, Z20, Z19, Z21, Z8, Z4, if_true, if_false, and_self, Z3, reduceCtorEq, Z7, Z14, Z26, tk80, tsz3, tk3]; rfl) ?_)) ?_
  refine seq_run okK3 rfl (by repeat (first | with_reducible exact runf_nil | refine runf_cons (by simp only [xstep, stepf, stepx, evsA, qev, St.ev, St.put, St.with, D.cell, C.cpy, qext, C.cp, C.dat, constD, constC, Z1, Z2, Z5, Z6, Z9, Z10, Z12, Z15, Z13, Z16, Z18, Z8, Z4, Bool.and_true, Bool.true_and, Nat.reduceEqDiff, if_true, if_false, and_self, Z3, Z7, Z14, beq_self_eq_true, Z26, Bool.or_true, Bool.true_or, callP, callO, dedup, rootsD, rootsC, List.flatMap_cons, List.flatMap_nil, List.filterMap_cons, List.filterMap_nil, argDs, argD, argC, List.contains_nil, objsAt, objOf, List.idxOf?, List.findIdx?, List.findIdx?.go, setObjs, D.ni, D.ni1, C.ni, settle, settle1, settleC, settleDs, Z25, FsK3, hT, hD]; rfl) ?_)) ?_
  refine seq_in ?_
  by_cases a0 : ((takeF l i e bad 1).snd.snd < 0)
  ·
    refine seq_run okK3 rfl (by repeat (first | with_reducible exact runf_nil | refine runf_cons (by simp only [xstep, stepf, stepx, qev, St.ev, St.put, qload, cellsAt, qmk, C.cpy, TK.agg, qnil, qfieldAddr, qpick, qint, qshift, isShift, qbin, qun, liveR, C.cp, constD, constC, Z1, Z2, Z5, Z6, Z9, Z10, Z13, Z24, Z16, Z18, Z17, Z20, Z19, Z21, Z8, Z4, Z11, if_true, if_false, and_self, decide_true, cond_true, Z22, Z3, reduceCtorEq, Z7, Z14, Z26, tk80, tsz3, tk3, eq_true a0]; rfl) ?_)) ?_
    refine tri_cond rfl (fun a1 => ?_) (fun a1 => ?_)
    ·
      simp only [Bool.not_eq_true'] at a1
      refine seq_run okK3 rfl (by repeat (first | with_reducible exact runf_nil | refine runf_cons (by simp only [xstep, stepf, stepx, qev, St.ev, St.put, D.cells, qnil, qfieldAddr, liveR, C.st, C.dat, storeA, putCells, Z1, Z2, Z5, Z6, Z9, Z10, Z23, Z12, Z16, Z18, Z17, Z20, Z19, Z21, Z8, Z4, Nat.reduceAdd, if_true, if_false, and_self, Bool.not_false, Z3, ne_eq, not_false_eq_true, reduceCtorEq, Nat.reduceLeDiff, Z7, implies_true, Z14, Z26, tk80, tsz3, a1]; rfl) ?_)) ?_
      refine run_end okK3 rfl (by repeat (first | with_reducible exact runf_nil | refine runf_cons (by simp only [xstep, stepf, stepx, evsA, qev, St.ev, St.put, St.with, D.cell, C.dat, Z1, Z2, Z5, Z6, Z9, Z10, Z12, Z15, Z13, Z16, Z18, Z8, Z4, Bool.and_true, Bool.true_and, Nat.reduceEqDiff, if_true, if_false, and_self, Z3, Z7, Z14, beq_self_eq_true, Z26, Bool.true_or, callP, callO, dedup, rootsD, rootsC, List.flatMap_cons, List.flatMap_nil, List.filterMap_cons, List.filterMap_nil, argDs, argD, argC, List.contains_nil, objsAt, objOf, List.idxOf?, List.findIdx?, List.findIdx?.go, setObjs, D.ni, settle, settleDs, Z25, FsK3, hF]; rfl) ?_)) ?_
      show Tri _ _ _ _
      refine seq_in ?_
      refine seq_run okK3 rfl (by repeat (first | with_reducible exact runf_nil | refine runf_cons (by simp only [xstep, stepf, stepx, qev, St.ev, St.put, qun, Z1, Z2, Z5, Z6, Z8, Z4, Bool.not_false, Z3]; rfl) ?_)) ?_
      refine tri_cond (b := true) rfl (fun _ => ?_) (fun h => by cases h)
      refine seq_run okK3 rfl (by repeat (first | with_reducible exact runf_nil | refine runf_cons (by simp only [xstep, stepf, stepx, qev, St.ev, St.put, constD, constC, Z5, Z6, Z4, Z3]; rfl) ?_)) ?_
      refine tri_ret (ends_ret (by simp only [outRes, resDs, resD, outD, outC, C.dat, Z1, Z2, Z4, if_true, Z3]; rfl) rfl (by simp) (by simp) ?_)
      simp only [Z12]
      (simp only [reduceIte, Z7, ↓reduceIte, countF, eq_true a0, a1] at hQ; with_reducible exact hQ)
    ·
      simp only [Bool.not_eq_false'] at a1
      refine then_skip ?_
      refine seq_in ?_
      refine seq_run okK3 rfl (by repeat (first | with_reducible exact runf_nil | refine runf_cons (by simp only [xstep, stepf, stepx, qev, St.ev, St.put, qun, Z1, Z2, Z5, Z6, Z8, Z4, Bool.not_true, Z3, a1]; rfl) ?_)) ?_
      refine tri_cond (b := false) rfl (fun h => by cases h) (fun _ => ?_)
      refine then_skip ?_
      refine seq_run okK3 rfl (by repeat (first | with_reducible exact runf_nil | refine runf_cons (by simp only [xstep, stepf, stepx, qev, St.ev, St.put, Z1, Z2, Z5, Z6, Z4, Z3]; rfl) ?_)) ?_
      refine tri_ret (ends_ret (by simp only [outRes, resDs, resD, outD, outC, C.dat, Z1, Z2, Z4, if_true, Z3]; rfl) rfl (by simp) (by simp) ?_)
      simp only [Z12]
      (simp only [reduceIte, ↓reduceIte, countF, eq_true a0, a1] at hQ; with_reducible exact hQ)
  ·
    refine seq_run okK3 rfl (by repeat (first | with_reducible exact runf_nil | refine runf_cons (by simp only [xstep, stepf, stepx, qev, St.ev, St.put, qload, cellsAt, qmk, C.cpy, TK.agg, qnil, qfieldAddr, qpick, qint, qshift, isShift, qbin, qun, liveR, C.cp, constD, constC, Z1, Z2, Z5, Z6, Z9, Z10, Z13, Z24, Z16, Z18, Z17, Z20, Z19, Z21, Z8, Z4, Z11, if_true, if_false, and_self, decide_false, cond_false, Z22, Z3, reduceCtorEq, Z7, Z14, Z26, tk80, tsz3, tk3, eq_false a0]; rfl) ?_)) ?_
    refine tri_cond (b := false) rfl (fun h => by cases h) (fun _ => ?_)
    refine then_skip ?_
    refine seq_in ?_
    refine seq_run okK3 rfl (by repeat (first | with_reducible exact runf_nil | refine runf_cons (by simp only [xstep, stepf, stepx, qev, St.ev, St.put, qun, Z1, Z2, Z5, Z6, Z8, Z4, Z3]; rfl) ?_)) ?_
    refine tri_cond rfl (fun a2 => ?_) (fun a2 => ?_)
    ·
      simp only [Bool.not_eq_true'] at a2
      refine seq_run okK3 rfl (by repeat (first | with_reducible exact runf_nil | refine runf_cons (by simp only [xstep, stepf, stepx, qev, St.ev, St.put, constD, constC, Z5, Z6, Z4, Bool.not_false, Z3, a2]; rfl) ?_)) ?_
      refine tri_ret (ends_ret (by simp only [outRes, resDs, resD, outD, outC, C.dat, Z1, Z2, Z4, if_true, Z3]; rfl) rfl (by simp) (by simp) ?_)
      simp only [Z12]
      (simp only [reduceIte, Z7, ↓reduceIte, countF, eq_false a0, a2] at hQ; with_reducible exact hQ)
    ·
      simp only [Bool.not_eq_false'] at a2
      refine then_skip ?_
      refine seq_run okK3 rfl (by repeat (first | with_reducible exact runf_nil | refine runf_cons (by simp only [xstep, stepf, stepx, qev, St.ev, St.put, Z1, Z2, Z5, Z6, Z4, Bool.not_true, Z3, a2]; rfl) ?_)) ?_
      refine tri_ret (ends_ret (by simp only [outRes, resDs, resD, outD, outC, C.dat, Z1, Z2, Z4, if_true, Z3]; rfl) rfl (by simp) (by simp) ?_)
      simp only [Z12]
      (simp only [reduceIte, ↓reduceIte, countF, eq_false a0, a2] at hQ; with_reducible exact hQ)
end Go.Dl
