/- 'Dl', part Zt: an own row gets a new place at the end; lists with a known end. -/
import Derived.Test.YtnflfefopdieiaaE05
set_option linter.all false
namespace Go.Dl
open Go.RowKit
section
variable {P : Program} {g : G} {S : Nat → Prop} {E : Env} {F : List (List Nat)} {A : St} {a : Act} {w : World}
theorem home_sat {t r lo len : Nat} {R : Root} (ht : A.sl[t]? = some (.c (.h r lo len))) (hR : A.H[r]? = some (some R)) (hd : R.dat = true) (hs : Sat g A a w) :
    Sat g ⟨(A.sl.map (D.kill r)).set t (.c (.h A.H.length lo len)), (killH r A.H).set r none ++ [some R]⟩ a w := by
  obtain ⟨S, E, F, hr⟩ := hs
  have hv := hr.sl t _ ht
  obtain ⟨p, f, h1, h2, h3, h4⟩ := handle_live hr hR hv
  have hr1 := (hr.kill r).dropRoot r
  have hlen : ((A.kill r).H.set r none).length = A.H.length := by simp [St.kill, killH]
  have hRA : RootAt w S [] R p f := by
    obtain ⟨g1, g2, g3, g4, g5⟩ := h3
    refine ⟨g1, g2, g3, g4, ?_⟩
    cases hat : p.at? with
    | none => rw [hat] at g5; exact g5
    | some bo =>
      rw [hat] at g5
      obtain ⟨fr, e1, e2, e3⟩ := g5
      rw [hd] at e3
      exact ⟨fr, e1, e2, by rw [hd]; exact e3.noenv rfl⟩
  have h5 := hr1.addRoot (R := R) (p := p) (f := f) hRA (nodup_at hr.nodup h2) (fun b hb => ⟨fun h => by
    obtain ⟨f', m3, m4⟩ := List.mem_flatten.1 h
    obtain ⟨i, hi⟩ := List.getElem?_of_mem m3
    rw [List.getElem?_set] at hi
    split at hi
    · rename_i hni
      rw [if_pos (lt_len h2)] at hi
      cases hi; cases m4
    · rename_i hni
      exact hni (apart hr h2 hi hb m4), hr.fS b (flat_get h2 b hb), hr.fsz b (flat_get h2 b hb)⟩)
  have hE : (E.set r none).length = A.H.length := by rw [List.length_set, hr.lE]
  have h6 : RepD w S (E.set r none ++ [some p]) (.c (.h A.H.length lo len)) (a.tmps.getD t undef) := by
    refine .c (.h (by rw [List.length_append, hE]; simp) fun pl hpl => ?_)
    rw [← hE, List.getElem?_append_right (Nat.le_refl _), Nat.sub_self] at hpl
    cases hpl
    exact h4
  refine ⟨S, _, _, { h5 with len := by rw [List.length_set]; exact h5.len, sl := ?_ }⟩
  intro i d hdi
  rw [List.getElem?_set] at hdi
  split at hdi
  · rename_i hti
    subst hti
    split at hdi
    · cases hdi; exact h6
    · cases hdi
  · exact h5.sl i d hdi
/-- An own row gets a new place at the end. -/
theorem tri_home {code : Code} {Q : Exit → St → Prop} (t r lo len : Nat) {R : Root} (ht : A.sl[t]? = some (.c (.h r lo len))) (hR : A.H[r]? = some (some R)) (hd : R.dat = true)
    (h : ∀ T : List (Option Root), Tri P code ⟨(A.sl.map (D.kill r)).set t (.c (.h T.length lo len)), T ++ [some R]⟩ Q) : Tri P code A Q := by
  refine Tri.weak (fun _ _ _ hs => home_sat ht hR hd hs) ?_
  have := h ((killH r A.H).set r none)
  rwa [show ((killH r A.H).set r none).length = A.H.length by simp [killH]] at this
/-- Two of them. -/
theorem tri_home2 {code : Code} {Q : Exit → St → Prop} (t1 r1 lo1 len1 t2 r2 lo2 len2 : Nat) {R1 R2 : Root} (ht1 : A.sl[t1]? = some (.c (.h r1 lo1 len1))) (hR1 : A.H[r1]? = some (some R1)) (hd1 : R1.dat = true)
    (ht2 : A.sl[t2]? = some (.c (.h r2 lo2 len2))) (hR2 : A.H[r2]? = some (some R2)) (hd2 : R2.dat = true) (hne : r2 ≠ r1) (htn : t2 ≠ t1)
    (h : ∀ T : List (Option Root), r1 < T.length → r2 < T.length → Tri P code ⟨((((A.sl.map (D.kill r1)).set t1 (.c (.h T.length lo1 len1))).map (D.kill r2))).set t2 (.c (.h (T.length + 1) lo2 len2)), T ++ [some R1, some R2]⟩ Q) : Tri P code A Q := by
  refine Tri.weak (fun _ _ _ hs => home_sat ht1 hR1 hd1 hs) ?_
  have hl : ((killH r1 A.H).set r1 none).length = A.H.length := by simp [killH]
  have hr2 : r2 < A.H.length := lt_len hR2
  have hkR : ∀ (r : Nat) (R : Root), R.dat = true → Root.kill r R = R := fun r R h => by unfold Root.kill; rw [if_pos h]
  have e2 : ((killH r1 A.H).set r1 none ++ [some R1])[r2]? = some (some R2) := by
    rw [List.getElem?_append_left (by rw [hl]; exact hr2), List.getElem?_set_ne (fun h => hne h.symm)]
    simp only [killH, List.getElem?_map, hR2, Option.map_some, hkR r1 R2 hd2]
  have s2 : ((A.sl.map (D.kill r1)).set t1 (.c (.h A.H.length lo1 len1)))[t2]? = some (.c (.h r2 lo2 len2)) := by
    rw [List.getElem?_set_ne (fun h => htn h.symm), List.getElem?_map, ht2, Option.map_some]
    unfold D.kill
    rw [if_pos (show D.no r1 (.c (.h r2 lo2 len2)) = true from by simp [D.no, C.no, hne])]
  refine Tri.weak (fun _ _ _ hs => home_sat (A := ⟨_, _⟩) s2 e2 hd2 hs) ?_
  have hk : (killH r2 ((killH r1 A.H).set r1 none ++ [some R1])).set r2 none ++ [some R2] = ((killH r2 ((killH r1 A.H).set r1 none)).set r2 none) ++ [some R1, some R2] := by
    simp only [killH, List.map_append, List.map_cons, List.map_nil, Option.map_some, hkR r2 R1 hd1]
    rw [List.set_append_left _ _ (by simp; exact hr2)]
    simp
  have := h ((killH r2 ((killH r1 A.H).set r1 none)).set r2 none) (by simp [killH]; exact lt_len hR1) (by simp [killH]; exact hr2)
  rw [show ((killH r2 ((killH r1 A.H).set r1 none)).set r2 none).length = A.H.length by simp [killH]] at this
  rw [← hk] at this
  simpa [killH] using this
end
section
variable {α β : Type} (T : List α) (f : β → α) (U : List β) (l : List α)
theorem get_app0 : (T ++ l)[T.length]? = l[0]? := by rw [List.getElem?_append_right (Nat.le_refl _), Nat.sub_self]
theorem get_app (k : Nat) : (T ++ l)[T.length + k]? = l[k]? := by rw [List.getElem?_append_right (by omega), Nat.add_sub_cancel_left]
theorem get_appM0 : (U.map f ++ l)[U.length]? = l[0]? := by rw [List.getElem?_append_right (by simp)]; simp
theorem get_appM (k : Nat) : (U.map f ++ l)[U.length + k]? = l[k]? := by rw [List.getElem?_append_right (by simp)]; simp
theorem set_app0 (x : α) : (T ++ l).set T.length x = T ++ l.set 0 x := by rw [List.set_append_right _ _ (Nat.le_refl _), Nat.sub_self]
theorem set_app (k : Nat) (x : α) : (T ++ l).set (T.length + k) x = T ++ l.set k x := by rw [List.set_append_right _ _ (by omega), Nat.add_sub_cancel_left]
theorem set_appM0 (x : α) : (U.map f ++ l).set U.length x = U.map f ++ l.set 0 x := by rw [List.set_append_right _ _ (by simp)]; simp
theorem set_appM (k : Nat) (x : α) : (U.map f ++ l).set (U.length + k) x = U.map f ++ l.set k x := by rw [List.set_append_right _ _ (by simp)]; simp
theorem bne_add (n j k : Nat) : (n + j != n + k) = (j != k) := by rw [Bool.eq_iff_iff, bne_iff_ne, bne_iff_ne]; omega
theorem bne_add0 (n k : Nat) : (n != n + k) = (0 != k) := by
  have := bne_add n 0 k
  rwa [Nat.add_zero] at this
theorem bne_add1 (n k : Nat) : (n + k != n) = (k != 0) := by
  have := bne_add n k 0
  rwa [Nat.add_zero] at this
theorem beq_add (n j k : Nat) : (n + j == n + k) = (j == k) := by rw [Bool.eq_iff_iff, beq_iff_eq, beq_iff_eq]; omega
theorem beq_add0 (n k : Nat) : (n == n + k) = (0 == k) := by
  have := beq_add n 0 k
  rwa [Nat.add_zero] at this
theorem beq_add1 (n k : Nat) : (n + k == n) = (k == 0) := by
  have := beq_add n k 0
  rwa [Nat.add_zero] at this
end
end Go.Dl
