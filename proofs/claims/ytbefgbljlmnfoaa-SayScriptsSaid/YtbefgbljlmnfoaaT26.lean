/- The walk of SayScripts. -/
import Derived.Test.YtbefgbljlmnfoaaT20
import Derived.Test.YtbefgbljlmnfoaaT24
set_option linter.all false
namespace Go.Dl
open Go.RowKit
open Go.Proofs
set_option linter.unusedSimpArgs false
set_option linter.unusedVariables false
theorem cutA_le (s : ByteArray) : (cutA s).size ≤ 500 := by
  unfold cutA
  split
  · rw [ByteArray.size_extract]; omega
  · omega
theorem same_selfA (a : ActM) : sameA a a = true := by unfold sameA; simp
noncomputable def FsJp : Fs := { pure := fun k => if k = 10 then some pCut else if k = 22 then some pScriptZ else if k = 24 then some pPrintAll else if k = 25 then some pClean2 else if k = 23 then some pSame else if k = 13 then some pAwake else none, objs := fun k => none }
theorem okJp : FsOK Try.prog FsJp := by
  refine ⟨fun k f h => ?_, fun k f h => ?_⟩
  · simp only [FsJp] at h
    split at h
    · rename_i hk; subst hk; cases h; exact ⟨by kernel_rfl, meets10⟩
    split at h
    · rename_i hk; subst hk; cases h; exact ⟨by kernel_rfl, meets22Z⟩
    split at h
    · rename_i hk; subst hk; cases h; exact ⟨by kernel_rfl, meets24⟩
    split at h
    · rename_i hk; subst hk; cases h; exact ⟨by kernel_rfl, meets25⟩
    split at h
    · rename_i hk; subst hk; cases h; exact ⟨by kernel_rfl, meets23⟩
    split at h
    · rename_i hk; subst hk; cases h; exact ⟨by kernel_rfl, meets13⟩
    · cases h
  · cases h
noncomputable def pSayScripts : List D → Option D := famP (fun s : ByteArray => s.size ≤ maxStr) (fun s => [.c (.v (.string s))]) (fun _ => dB true)
theorem scripts_law (s : ByteArray) (h : s.size ≤ maxStr) : pSayScripts [.c (.v (.string s))] = some (.c (.v (.bool true))) := Ym (fun _ _ _ => rfl) s h rfl
set_option maxRecDepth 100000 in
set_option maxHeartbeats 4000000 in
theorem meets8 : Meets Try.prog 8 (pureS pSayScripts) := by
  refine Yn (show Try.prog.funcs[8]? = some Try.f8 by kernel_rfl) rfl (n := 92) rfl (rs := [ResultVar.tmp 2]) rfl ?_
  rintro s0 hs0 Q hQ
  have hC := cutA_at s0 hs0
  have hsz := cutA_le s0
  generalize cutA s0 = s at hC hsz
  have hSc := scriptZ_at s (by omega)
  have hsm : s.size ≤ maxStr := by unfold maxStr; omega
  have hc0 : ((0 : Nat) : Int) = 0 := rfl
  by_cases he : (scriptF s).2.2 = 0
  · obtain ⟨ss, hss⟩ := scripts_some he
    obtain ⟨hfix, hlen, hpz, hre⟩ := scripts_ok hsz (by rw [hss])
    rw [hss] at hSc
    have hPA := printAll_at 12 ss hlen (fun a ha => (hfix a ha).good.say.pre) (fun _ => rfl)
    have hSc2 := scriptZ_at (printAllB ss) (by omega)
    rw [hre] at hSc2
    simp only [actsZ, Option.elim_some] at hSc hSc2
    have hlm : ss.length ≤ maxStr := by unfold maxStr; omega
    have hl64 : ss.length ≤ 1000 := hlen
    generalize printAllB ss = t at hPA hSc2
    clear hss hre hpz he
    refine Y3 okJp rfl (by repeat first | with_reducible exact Y2 | refine Y1 (by simp only [Y5, Y4, Y6, qev, St.ev, St.put, Y8, Y7, List.replicate, Nat.reduceSub, ZA]; rfl) ?_) ?_
    refine Y3 okJp rfl (by repeat first | with_reducible exact Y2 | refine Y1 (by simp only [Y5, Y4, Y6, evsA, qev, St.ev, St.put, St.with, C.cpy, C.cp, C.dat, Nat.reduceEqDiff, if_true, if_false, Bool.true_or, callP, Yg, argD, argC, settle, settle1, settleC, FsJp, hC, eq_self, ZA]; rfl) ?_) ?_
    refine Y3 okJp rfl (by repeat first | with_reducible exact Y2 | refine Y1 (by simp only [Y5, Y4, Y6, evsA, qev, St.ev, St.put, St.with, C.cpy, qext, C.cp, C.dat, Nat.reduceEqDiff, if_true, if_false, Bool.true_or, callP, Yg, argD, argC, settle, settle1, settleC, settleDs, FsJp, hSc, eq_self, ZA]; rfl) ?_) ?_
    refine seq_in ?_
    refine Y3 okJp rfl (by repeat first | with_reducible exact Y2 | refine Y1 (by simp only [Y5, Y4, Y6, qev, St.ev, St.put, qint, Yc, Ya, qbin, Y8, Y7, if_true, if_false, decide_true, Bool.not_true, eq_self, ZA]; rfl) ?_) ?_
    refine Yf (b := false) rfl (fun h => by cases h) (fun _ => ?_)
    refine Ye ?_
    refine Y3 okJp rfl (by repeat first | with_reducible exact Y2 | refine Y1 (by simp only [Y5, Y4, Y6, evsA, qev, St.ev, St.put, St.with, C.cpy, C.cp, C.dat, Nat.reduceEqDiff, if_true, if_false, Bool.true_or, callP, Yg, argD, argC, settle, settle1, settleC, FsJp, eq_self, hPA, ZA]; rfl) ?_) ?_
    refine Y3 okJp rfl (by repeat first | with_reducible exact Y2 | refine Y1 (by simp only [Y5, Y4, Y6, evsA, qev, St.ev, St.put, St.with, C.cpy, qext, C.cp, C.dat, Nat.reduceEqDiff, if_true, if_false, Bool.true_or, callP, Yg, argD, argC, settle, settle1, settleC, settleDs, FsJp, eq_self, hSc2, ZA]; rfl) ?_) ?_
    refine seq_in ?_
    refine Y3 okJp rfl (by repeat first | with_reducible exact Y2 | refine Y1 (by simp only [Y5, Y4, Y6, qev, St.ev, St.put, qpick, qint, Yc, Ya, qbin, qlen, qbuiltin, Y8, Y7, if_true, if_false, decide_true, Bool.not_true, cond_false, eq_self, tk45, List.length_map, hlm, ZA]; rfl) ?_) ?_
    refine Yf (b := false) rfl (fun h => by cases h) (fun _ => ?_)
    refine Ye ?_
    refine seq_in ?_
    refine Y3 okJp rfl (by repeat first | with_reducible exact Y2 | refine Y1 (by simp only [Y5, Y4, Y6, qev, St.ev, St.put, Y8, Y7, ZA]; rfl) ?_) ?_
    refine tri_block ?_
    refine tri_loop_le (fun m A => ∃ (j : Nat), m + j = ss.length ∧ A = ⟨[.top, .top, .c (.v (.bool false)), .c (.s false 12 (ss.map (actC false))), .top, .top, .top, .c (.s false 12 (ss.map (actC false))), .top, .top, .c (.v (.int .i64 (j : Nat))), .top, .top, .top, .top, .top, .top, .top, .top, .top, .top, .top, .top, .top, .top, .top, .top, .top, .top, .top, .top, .top, .top, .top, .top, .top, .top, .top, .top, .top, .top, .top, .top, .top, .top, .top, .top, .top, .top, .top, .top, .top, .top, .top, .top, .top, .top, .top, .top, .top, .top, .top, .top, .top, .top, .top, .top, .top, .top, .top, .top, .top, .top, .top, .top, .top, .top, .top, .top, .top, .top, .top, .top, .top, .top, .top, .top, .top, .top, .top, .top, .top], []⟩) ss.length (B := ⟨[.top, .top, .c (.v (.bool false)), .c (.s false 12 (ss.map (actC false))), .top, .top, .top, .c (.s false 12 (ss.map (actC false))), .top, .top, .c (.v (.int .i64 (0 : Nat))), .top, .top, .top, .top, .top, .top, .top, .top, .top, .top, .top, .top, .top, .top, .top, .top, .top, .top, .top, .top, .top, .top, .top, .top, .top, .top, .top, .top, .top, .top, .top, .top, .top, .top, .top, .top, .top, .top, .top, .top, .top, .top, .top, .top, .top, .top, .top, .top, .top, .top, .top, .top, .top, .top, .top, .top, .top, .top, .top, .top, .top, .top, .top, .top, .top, .top, .top, .top, .top, .top, .top, .top, .top, .top, .top, .top, .top, .top, .top, .top, .top], []⟩) ⟨by repeat (first | exact .nil | refine .same ?_ | refine .top ?_), rfl⟩ ⟨0, rfl, rfl⟩ ?_
    rintro m A ⟨j, hm, rfl⟩
    have hj1 : (j : Int) + 1 = ((j + 1 : Nat) : Int) := by omega
    obtain ⟨a, ha⟩ : ∃ a, ss.getD j (act0 0) = a := ⟨_, rfl⟩
    have hg : ((j : Nat) : Int) < ((ss.length : Nat) : Int) → ss[j]? = some a := (by intro h; rw [← ha]; exact get_at _ (by omega))
    have hx : ((j : Nat) : Int) < ((ss.length : Nat) : Int) → fixA a := fun h => hfix a (List.mem_of_getElem? (hg h))
    have hCl : ((j : Nat) : Int) < ((ss.length : Nat) : Int) → pClean2 [.agg (actC false a)] = some (.agg (actC false a)) := fun h => (by have := clean2_at a; rw [(hx h).clean] at this; exact this)
    have hSm : ((j : Nat) : Int) < ((ss.length : Nat) : Int) → pSame [.agg (actC false a), .agg (actC false a)] = some (dB true) := fun h => (by have h1 := (hx h).good.say.fl; have h2 := (hx h).good.say.nm; have := same_at a a (by unfold sameOk maxStr; exact ⟨⟨by dsimp only; omega, by dsimp only; omega⟩, by dsimp only; omega, by dsimp only; omega⟩); rw [same_selfA] at this; exact this)
    clear hx
    refine seq_in ?_
    refine Y3 okJp rfl (by repeat first | with_reducible exact Y2 | refine Y1 (by simp only [Y5, Y4, Y6, qev, St.ev, St.put, qint, Yc, Ya, qbin, qlen, qbuiltin, if_true, if_false, eq_self, tk45, List.length_map, hlm, ZA]; rfl) ?_) ?_
    refine Yf rfl (fun b0 => ?_) (fun b0 => ?_)
    ·
      simp only [decide_eq_true_eq] at b0
      refine Ye ?_
      refine seq_in (tri_block ?_)
      refine Yj mixed okJp rfl (by kernel_rfl) ?_
      refine ⟨_, (by repeat first | with_reducible exact Y2 | refine Y1 (by simp only [Y5, Y4, Y6, evsA, qev, St.ev, St.put, St.with, D.int, qload, Y9, qmk, C.cpy, TK.agg, qindexAddr, qpick, qun, C.cp, Y8, Y7, Nat.reduceEqDiff, if_true, if_false, decide_true, Bool.not_true, cond_false, ne_eq, reduceCtorEq, Bool.true_or, callP, Yg, argD, settle, settle1, settleC, dB, FsJp, eq_self, tk50, tsz50, tk45, act_take, act_cpy2, act_arg, act_cp, act_len, act_settle, Int.toNat_natCast, Int.natCast_nonneg, List.length_map, hg, hCl, hSm, List.getElem?_map, b0, ZA]; rfl) ?_), ?_⟩
      refine Yf (b := false) rfl (fun h => by cases h) (fun _ => ?_)
      refine tri_skip ?_
      show Tri _ _ _ _
      refine Yk okJp rfl (by repeat first | with_reducible exact Y2 | refine Y1 (by simp only [Y5, Y4, Y6, qev, St.ev, St.put, qint, Yc, Ya, qbin, Y8, Y7, if_true, if_false, eq_self, hj1, show IntKind.i64.wrap (↑(j + 1) : Int) = _ from wrap_i64 _ (by omega) (by omega), ZA]; rfl) ?_) ?_
      simp only []
      (exact ⟨m - 1, by omega, ⟨[.top, .top, .c (.v (.bool false)), .c (.s false 12 (ss.map (actC false))), .top, .top, .top, .c (.s false 12 (ss.map (actC false))), .top, .top, .c (.v (.int .i64 (j + 1 : Nat))), .top, .top, .top, .top, .top, .top, .top, .top, .top, .top, .top, .top, .top, .top, .top, .top, .top, .top, .top, .top, .top, .top, .top, .top, .top, .top, .top, .top, .top, .top, .top, .top, .top, .top, .top, .top, .top, .top, .top, .top, .top, .top, .top, .top, .top, .top, .top, .top, .top, .top, .top, .top, .top, .top, .top, .top, .top, .top, .top, .top, .top, .top, .top, .top, .top, .top, .top, .top, .top, .top, .top, .top, .top, .top, .top, .top, .top, .top, .top, .top, .top], []⟩, ⟨by repeat (first | exact .nil | refine .same ?_ | refine .top ?_), rfl⟩, j + 1, by omega, rfl⟩)
    ·
      simp only [decide_eq_false_iff_not] at b0
      refine tri_exit ?_
      show Tri _ _ _ _
      refine Y3 okJp rfl (by repeat first | with_reducible exact Y2 | refine Y1 (by simp only [Y5, Y4, Y6, evsA, qev, St.ev, St.put, St.with, Nat.reduceEqDiff, if_true, if_false, decide_false, Bool.true_or, callP, Yg, settle, settle1, settleC, dB, FsJp, pAwake, eq_self, b0, ZA]; rfl) ?_) ?_
      refine Yo (Yp (by simp only [outRes, Yi, resD, outD, outC, C.dat, if_true, eq_self, ZA]; rfl) rfl (by simp) (by simp) ?_)
      exact hQ
  · obtain ⟨e1, e2, e3, e4⟩ := scripts_err (by omega) he
    rw [e1, e4] at hSc
    simp only [actsZ, Option.elim_none] at hSc
    generalize (scriptF s).2.1 = at0 at hSc e2 e3
    clear he e1 e4
    refine Y3 okJp rfl (by repeat first | with_reducible exact Y2 | refine Y1 (by simp only [Y5, Y4, Y6, qev, St.ev, St.put, Y8, Y7, List.replicate, Nat.reduceSub, ZA]; rfl) ?_) ?_
    refine Y3 okJp rfl (by repeat first | with_reducible exact Y2 | refine Y1 (by simp only [Y5, Y4, Y6, evsA, qev, St.ev, St.put, St.with, C.cpy, C.cp, C.dat, Nat.reduceEqDiff, if_true, if_false, Bool.true_or, callP, Yg, argD, argC, settle, settle1, settleC, FsJp, hC, eq_self, ZA]; rfl) ?_) ?_
    refine Y3 okJp rfl (by repeat first | with_reducible exact Y2 | refine Y1 (by simp only [Y5, Y4, Y6, evsA, qev, St.ev, St.put, St.with, C.cpy, qext, C.cp, C.dat, Nat.reduceEqDiff, if_true, if_false, Bool.true_or, callP, Yg, argD, argC, settle, settle1, settleC, settleDs, FsJp, hSc, eq_self, ZA]; rfl) ?_) ?_
    refine seq_in ?_
    refine Y3 okJp rfl (by repeat first | with_reducible exact Y2 | refine Y1 (by simp only [Y5, Y4, Y6, qev, St.ev, St.put, qint, Yc, Ya, qbin, Y8, Y7, if_true, if_false, decide_false, Bool.not_false, Int.reduceEq, eq_self, ZA]; rfl) ?_) ?_
    refine Yf (b := true) rfl (fun _ => ?_) (fun h => by cases h)
    refine Y3 okJp rfl (by repeat first | with_reducible exact Y2 | refine Y1 (by simp only [Y5, Y4, Y6, evsA, qev, St.ev, St.put, St.with, qpick, qint, Yc, Ya, qbin, qlen, qbuiltin, Y8, Y7, Nat.reduceEqDiff, if_true, if_false, decide_true, cond_true, Bool.true_or, callP, Yg, settle, settle1, settleC, dB, FsJp, pAwake, hc0, eq_self, tk45, e2, e3, show (0 ≤ maxStr) = True from eq_true (by omega), tk9, ZA]; rfl) ?_) ?_
    refine Yo (Yp (by simp only [outRes, Yi, resD, outD, outC, C.dat, if_true, eq_self, ZA]; rfl) rfl (by simp) (by simp) ?_)
    exact hQ
end Go.Dl
