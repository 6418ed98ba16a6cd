/- 'Dl', part I: one operation, a region in the text's order. -/
import Derived.Test.YtdhlelineoggkaaDlH
namespace Go.Dl
open Go.RowKit

section
variable {P : Program}

theorem getD_set (arr : Array Value) (t i : Nat) (v : Value) : (arr.setIfInBounds t v).getD i undef = if t = i ∧ t < arr.size then v else arr.getD i undef := by
  simp only [Array.getD_eq_getD_getElem?, Array.getElem?_setIfInBounds]
  split
  · rename_i h; subst h
    split
    · rename_i h; simp [h]
    · rename_i h; simp [h]
  · rename_i h; simp [h]

theorem Rel.put {g : G} {S : Nat → Prop} {E : Env} {F : List (List Nat)} {A : St} {a : Act} {w : World} (hr : Rel g S E F A a w) {dst : Option Tmp} {d : D} {v : Value}
    (hd : RepD w S E d v) : Rel g S E F (A.put dst d) (a.put dst v) w := by
  cases dst with
  | none => exact hr
  | some t =>
    refine { hr with len := ?_, sl := ?_, defers := hr.defers }
    · simp [St.put, Act.put, hr.len]
    · intro i d' h
      simp only [St.put] at h
      simp only [Act.put, getD_set]
      rw [List.getElem?_set] at h
      split at h
      · rename_i hti
        subst hti
        split at h
        · rename_i hlt
          cases h
          rw [if_pos ⟨rfl, by rw [← hr.len]; exact hlt⟩]; exact hd
        · cases h
      · rename_i hti
        rw [if_neg (fun h => hti h.1)]
        exact hr.sl i d' h

/-- One operation, from a state. -/
def Step (P : Program) (o : Oper) (A : St) (R : St → Prop) : Prop :=
  ∀ g a w, Sat g A a w → ∀ (next : Act → World → Prop) (Q : Exit → Act → World → Prop), (∀ A' a' w', R A' → Sat g A' a' w' → next a' w') → o.wp P a w next Q

theorem step_quiet {o : Oper} {A : St} {d : D} {R : St → Prop} (hop : o.op.operands.toList.all opdOK = true) (h : qev P A.ev A.H o.op = some d) (hR : R (A.put o.dst d)) : Step P o A R := by
  intro g a w ⟨S, E, F, hr⟩ next Q hn
  obtain ⟨v, h1, h2⟩ := qev_sound hr hop h
  unfold Oper.wp
  rw [h1]
  exact hn _ _ _ hR ⟨S, E, F, hr.put h2⟩

/-- A region's operations from one on. -/
def TriFrom (P : Program) (ops : Array Oper) (i : Nat) (A : St) (R : St → Prop) : Prop :=
  ∀ g a w, Sat g A a w → ∀ Q : Exit → Act → World → Prop, (∀ A' a' w', R A' → Sat g A' a' w' → Q .normal a' w') → wpOps P ops Q (List.range' i (ops.size - i)) a w

theorem from_end {ops : Array Oper} {i : Nat} {A : St} {R : St → Prop} (hi : ops.size ≤ i) (hR : R A) : TriFrom P ops i A R := by
  intro g a w hs Q hq
  rw [Nat.sub_eq_zero_of_le hi]
  exact hq A a w hR hs

theorem range_cons {i n : Nat} (h : i < n) : List.range' i (n - i) = i :: List.range' (i + 1) (n - (i + 1)) := by
  rw [show n - i = (n - (i + 1)) + 1 by omega, List.range'_succ]

theorem from_step {ops : Array Oper} {i : Nat} {A : St} {R : St → Prop} {o : Oper} (ho : ops[i]? = some o) (hg : o.guard = none)
    (h : Step P o A (fun A' => TriFrom P ops (i + 1) A' R)) : TriFrom P ops i A R := by
  intro g a w hs Q hq
  have hi : i < ops.size := by
    rcases Nat.lt_or_ge i ops.size with h | h
    · exact h
    · rw [Array.getElem?_eq_none h] at ho; cases ho
  rw [range_cons hi]
  simp only [wpOps, ho, Region.wanted, hg, if_true]
  exact .inl (h g a w hs _ _ fun A' a' w' hA hs' => hA g a' w' hs' Q hq)

theorem yielded_of {ops : Array Oper} {a : Act} {j t : Nat} {b : Bool} (hj : (ops[j]?).bind (·.dst) = some t) (ht : a.tmps.getD t undef = .bool b) : yielded ops a.tmps j = some b := by
  unfold yielded
  rw [hj, Option.bind_some]
  rw [Array.getD_eq_getD_getElem?] at ht
  cases hx : a.tmps[t]? with
  | none => rw [hx] at ht; simp [undef] at ht
  | some v => rw [hx] at ht; simp at ht; subst ht; rfl

theorem from_guard {ops : Array Oper} {i : Nat} {A : St} {R : St → Prop} {o : Oper} {j t : Nat} {want b : Bool} (ho : ops[i]? = some o) (hg : o.guard = some (j, want))
    (hj : (ops[j]?).bind (·.dst) = some t) (ht : A.sl[t]? = some (.c (.v (.bool b))))
    (h1 : b = want → Step P o A (fun A' => TriFrom P ops (i + 1) A' R)) (h2 : b = !want → TriFrom P ops (i + 1) (A.put o.dst .top) R) : TriFrom P ops i A R := by
  intro g a w hs Q hq
  have hi : i < ops.size := by
    rcases Nat.lt_or_ge i ops.size with h | h
    · exact h
    · rw [Array.getElem?_eq_none h] at ho; cases ho
  rw [range_cons hi]
  have hs' := hs
  obtain ⟨S, E, F, hr⟩ := hs'
  have hb : a.tmps.getD t undef = .bool b := bool_inv (hr.sl t _ ht)
  simp only [wpOps, ho, Region.wanted, hg, yielded_of hj hb]
  by_cases hw : b = want
  · subst hw
    simp only [beq_self_eq_true, if_true]
    exact .inl (h1 rfl g a w hs _ _ fun A' a' w' hA hs' => hA g a' w' hs' Q hq)
  · have : (some b == some want) = false := by cases b <;> cases want <;> simp_all
    rw [this]
    simp only [Bool.false_eq_true, if_false]
    exact h2 (by cases b <;> cases want <;> simp_all) g _ w ⟨S, E, F, hr.put .top⟩ Q hq

theorem tri_region {id : Nat} {ops : Array Oper} {A : St} {Q : Exit → St → Prop} (h : TriFrom P ops 0 A (fun A' => Q .normal A')) : Tri P (.region id ops false) A Q := by
  intro g a w hs
  refine wp_region ?_
  have := h g a w hs (fun e a' w' => ∃ A', Sat g A' a' w' ∧ Q e A') fun A' a' w' hA hs' => ⟨A', hs', hA⟩
  rwa [Nat.sub_zero, ← List.range_eq_range'] at this

end
end Go.Dl
