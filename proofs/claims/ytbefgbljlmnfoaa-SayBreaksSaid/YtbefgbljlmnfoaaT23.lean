/- Plain law: scripts of steps as they are said are read as these steps. -/
import Derived.Test.YtbefgbljlmnfoaaT21
set_option linter.all false
namespace Go.Dl
open Go.RowKit
open Go.Proofs
set_option linter.unusedVariables false
/-- A step with a value that is none is not read again. -/
theorem scriptB {T : ByteArray} (hT : T.size ≤ 65536) {a : ActM} (ha : sayOk a) (hk : a.kind = 1) (hko : ¬ kindsOk a) (h : lexK T 0 (stepK a) T.size) : (scriptF T).2.2 = 4 := by
  obtain ⟨l, hl, ht⟩ := toks_of hT h
  have hpos : posPre l T.size := by
    have := (toks_pre (s := T) (by omega) (i := 0) (Nat.zero_le _)).2.2
    rw [ht] at this; exact this
  have hlen : l.length = (stepK a).length := by rw [← hl, List.length_map]
  have hsp := stepK_pos a
  have hP : 0 ≤ (scriptP l T.size).2.2 := by
    unfold scriptP
    have hh : hasK l 0 (stepK a ++ []) := by rw [List.append_nil]; exact hasK_0 hl
    have hF := stepFB (e := (T.size : Int)) (bad := -1) (by decide) hpos ha hk hko hh
    rw [scriptN, if_pos (by decide), if_pos (by omega), scriptN]
    rw [if_neg (by omega)]
    exact hF
  obtain ⟨r, hr⟩ : ∃ r, scriptP (toksT T).1 T.size = r := ⟨_, rfl⟩
  have hb : 0 ≤ r.2.2 := by rw [← hr, ht]; exact hP
  rw [script_bad (by rw [ht]) hr hb]
theorem inT_pre (T R : ByteArray) : inT (T ++ R) 0 T := inT_l (inT_whole _)
theorem print_bad {a : ActM} (ha : sayOk a) (hk : a.kind = 1) (hko : ¬ kindsOk a) (hz : (printB a).size ≤ 65536) : (scriptF (printB a)).2.2 = 4 := by
  have h := lexK_step (by omega) (by omega) ha.pre (inT_whole (printB a))
  rw [Nat.zero_add] at h
  exact scriptB hz ha hk hko h
theorem script_long {T : ByteArray} (h : 65536 < T.size) : (scriptF T).2.2 = 3 := by
  have ht : toksT T = ([], 0, 3) := by unfold toksT toksF; rw [if_pos h]; rfl
  rw [script_ne (by rw [ht]; decide), ht]
theorem print_none {a : ActM} (h : ¬ (1 ≤ a.kind ∧ a.kind ≤ 15)) : printB a = ⟨#[]⟩ := by
  unfold printB
  split
  · rw [if_neg (by omega)]
  · rfl
end Go.Dl
