/- Plain law: the tokens of a step, as it is said, are read as the step; Plain law: the tokens of a paper, and of a step, are read as they are. -/
import Derived.Test.YtbefgbljlmnfoaaT16
set_option linter.all false
namespace Go.Dl
open Go.RowKit
open Go.Proofs
set_option linter.unusedVariables false
set_option linter.unusedSectionVars false
section
variable {l : List Tok} {e bad : Int} (hb : bad < 0)
include hb
theorem valK_bad {i : Nat} {v : Val} {ks : List Tk} (hk : ¬ (0 ≤ v.1 ∧ v.1 ≤ 4)) (hq : posPre l e) (h : hasK l i (tkV v ++ ks)) : 0 ≤ (valueF l i e bad).2.2 := by
  unfold tkV at h
  rw [if_neg (by omega), if_neg (by omega), if_neg (by omega), if_neg (by omega), if_neg (by omega)] at h
  obtain ⟨p, hg⟩ := hasK_at h
  unfold valueF
  rw [if_neg (by omega), hg]
  dsimp only
  rw [if_neg (by decide), if_neg (by decide), if_pos rfl, wordF, if_neg (by decide +kernel), if_neg (by decide +kernel), if_neg (by decide +kernel), if_neg (by decide +kernel)]
  exact fail_pos hq i bad
end
end Go.Dl

namespace Go.Dl
open Go.RowKit
open Go.Proofs
set_option linter.unusedVariables false
set_option linter.unusedSectionVars false
section
variable {l : List Tok} {e bad : Int} (hb : bad < 0)
include hb
theorem fldBad {i : Nat} {x : Fld} {ks : List Tk} (hk : ¬ kindOk x) (hq : posPre l e) (h : hasK l i (fldK x ++ ks)) : 0 ≤ (paV l e i bad).2.2 := by
  obtain ⟨h1, h2, h3⟩ := fldQ (e := e) hb h
  unfold paV
  rw [h2]
  exact valK_bad hb hk hq h3
theorem paGoB (hq : posPre l e) : ∀ (r : List Fld) (f c i : Nat) (acc : List Fld) {ks : List Tk}, (∀ x ∈ r, valPre x.2) → (∃ x ∈ r, ¬ kindOk x) → hasK l i (r.flatMap (fun x => [((3 : Int), comma)] ++ fldK x) ++ (3, rpar) :: ks) → 0 < c → c + r.length ≤ 100 → r.length < f →
    0 ≤ (paperGo l e f c i bad acc).2.2
  | [], f, c, i, acc, ks, hx, hn, h, hc, hl, hf => by
    obtain ⟨x, hxm, _⟩ := hn; cases hxm
  | x :: r, f, c, i, acc, ks, hx, hn, h, hc, hl, hf => by
    obtain ⟨f, rfl⟩ : ∃ k, f = k + 1 := ⟨f - 1, by simp at hf; omega⟩
    rw [List.length_cons] at hl hf
    rw [List.flatMap_cons, List.append_assoc, List.append_assoc] at h
    have h2 := hasK_r h
    rw [paperGo, if_pos hb, peekK_no hb h (.inr (by decide +kernel)), if_neg (by simp), if_pos (by omega), if_neg (by omega), markK hb h]
    dsimp only
    rw [show [((3 : Int), comma)].length = 1 from rfl] at h2
    by_cases hk : kindOk x
    · obtain ⟨g1, g2, g3⟩ := fldRead (e := e) hb (hx x (List.mem_cons_self ..)) hk h2
      rw [g2]
      dsimp only
      refine paGoB hq r f (c + 1) _ _ (fun y hy => hx y (List.mem_cons_of_mem _ hy)) ?_ g3 (by omega) (by omega) (by omega)
      obtain ⟨y, hy, hyn⟩ := hn
      rcases List.mem_cons.1 hy with rfl | hy
      · exact absurd hk hyn
      · exact ⟨y, hy, hyn⟩
    · have hbad := fldBad (e := e) hb hk hq h2
      rw [paperGo_bad _ _ _ _ _ _ _ hbad]
      exact hbad
theorem paperRB (hq : posPre l e) {i : Nat} {fs : List Fld} {ks : List Tk} (hn : fs.length ≤ 100) (hx : ∀ x ∈ fs, valPre x.2) (hB : ∃ x ∈ fs, ¬ kindOk x) (h : hasK l i (joinK [(3, comma)] (fs.map fldK) ++ (3, rpar) :: ks)) :
    0 ≤ (paperGo l e 102 0 i bad []).2.2 := by
  cases fs with
  | nil => obtain ⟨x, hxm, _⟩ := hB; cases hxm
  | cons x r =>
    rw [List.length_cons] at hn
    rw [joinK_cons] at h
    rw [List.append_assoc] at h
    have h' : hasK l i ((2, x.1) :: ((3, eqm) :: (tkV x.2 ++ (r.flatMap (fun x => [((3 : Int), comma)] ++ fldK x) ++ (3, rpar) :: ks)))) := h
    rw [paperGo, if_pos hb, peekK_no hb h' (.inl (show (2 : Int) ≠ 3 by decide)), if_neg (by simp), if_neg (by decide)]
    by_cases hk : kindOk x
    · obtain ⟨g1, g2, g3⟩ := fldRead (e := e) hb (hx x (List.mem_cons_self ..)) hk h
      rw [g2]
      dsimp only
      refine paGoB hb hq r 101 (0 + 1) _ _ (fun y hy => hx y (List.mem_cons_of_mem _ hy)) ?_ g3 (by omega) (by omega) (by omega)
      obtain ⟨y, hy, hyn⟩ := hB
      rcases List.mem_cons.1 hy with rfl | hy
      · exact absurd hk hyn
      · exact ⟨y, hy, hyn⟩
    · have hbad := fldBad (e := e) hb hk hq h
      rw [paperGo_bad _ _ _ _ _ _ _ hbad]
      exact hbad
theorem paperFB (hq : posPre l e) {i : Nat} {p : Paper} {ks : List Tk} (hc : inR .i64 p.2.1 = true) (hn : p.2.2.length ≤ 100) (hx : ∀ x ∈ p.2.2, valPre x.2) (hB : ∃ x ∈ p.2.2, ¬ kindOk x) (h : hasK l i (paperK p ++ ks)) :
    0 ≤ (paperF l i e bad).2.2 := by
  obtain ⟨m1, m2, m3, m4⟩ := paperM (e := e) hb hc h
  have hR : 0 ≤ (paperR l i e bad).2.2 := by
    unfold paperR
    rw [m3]
    exact paperRB hb hq hn hx hB m4
  obtain ⟨r, hr⟩ : ∃ r, paperR l i e bad = r := ⟨_, rfl⟩
  rw [hr] at hR
  rw [paper_eq hr]
  dsimp only
  rw [mark_bad hR]
  exact hR
end
theorem argB8 {l : List Tok} {e bad : Int} (hb : bad < 0) (hq : posPre l e) {a : ActM} (ha : sayOk a) (hko : ¬ kindsOk a) (b : ActM) {i : Nat} {ks : List Tk} (h : hasK l i (argKs a 8 ++ ks)) : 0 ≤ (argT l e 8 b i bad).2.2 := by
  have hp := ha.pre
  have hx : ∃ x ∈ a.flds.getD [], ¬ kindOk x := by
    apply Classical.byContradiction
    intro hn
    exact hko fun x hx => Classical.byContradiction fun hk => hn ⟨x, hx, hk⟩
  exact paperFB hb hq hp.pap.2.1 ha.fl (fun x hx => (hp.pap.2.2.2 x hx).2) hx h
theorem stepFB {l : List Tok} {e bad : Int} (hb : bad < 0) (hq : posPre l e) {a : ActM} (ha : sayOk a) (hk : a.kind = 1) (hko : ¬ kindsOk a) {i : Nat} {ks : List Tk} (h : hasK l i (stepK a ++ ks)) : 0 ≤ (stepF l i e bad).2.2 := by
  have e0 : stepK a ++ ks = (0, formB 1) :: (argKs a 8 ++ (argKs a 7 ++ (3, semi) :: ks)) := by unfold stepK; rw [hk]; simp [argsK]
  rw [e0] at h
  have h1 := hasK_s h
  have hW : stepW l i e bad = (formB 1, i + 1, bad) := takeK hb h
  have hix := form_ix 1 (by decide)
  have hA : 0 ≤ (stepA l i e bad 1).2.2 := by
    unfold stepA
    rw [hW]
    show 0 ≤ (argsGo l e [8, 7] (act0 1) (i + 1) bad).2.2
    rw [argsGo]
    exact argsGo_bad _ _ _ _ (argB8 hb hq ha hko _ h1)
  obtain ⟨r, hr⟩ : ∃ r, stepA l i e bad 1 = r := ⟨_, rfl⟩
  rw [hr] at hA
  rw [stepF_some (by rw [hW]; exact hix) hr]
  dsimp only
  rw [mark_bad hA]
  exact hA
end Go.Dl
