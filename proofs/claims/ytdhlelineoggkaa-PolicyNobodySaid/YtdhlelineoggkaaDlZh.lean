/- 'Dl', part Zh: a nil slice in a slot, taken as a row of the call's own. -/
import Derived.Test.YtdhlelineoggkaaDlZg
namespace Go.Dl
open Go.RowKit

section
variable {P : Program} {g : G} {S : Nat → Prop} {E : Env} {F : List (List Nat)} {A : St} {a : Act} {w : World}

def nilA (A : St) (t es : Nat) : Option St :=
  match A.sl[t]? with
  | some (.c (.s true _ [])) => some ⟨A.sl.set t (.c (.h A.H.length 0 0)), A.H ++ [some ⟨true, es, []⟩]⟩
  | _ => none

theorem nil_sat {A' : St} {t es : Nat} (ho : nilA A t es = some A') (hs : Sat g A a w) : Sat g A' a w := by
  obtain ⟨S, E, F, hr⟩ := hs
  unfold nilA at ho
  split at ho
  · rename_i es0 ht
    cases ho
    have hv := hr.sl t _ ht
    generalize hval : a.tmps.getD t undef = v at hv
    have hn : ∃ ad, v = .slice ad 0 0 := by
      cases hv with
      | c h =>
        generalize hfp : ([] : List Nat) = fp at h
        cases h with
        | nilO => exact ⟨_, rfl⟩
        | own _ _ _ _ _ => cases hfp
    obtain ⟨ad, rfl⟩ := hn
    have h1 := hr.addRoot (R := ⟨true, es, []⟩) (p := ⟨none, es, 0, 0⟩) (f := []) ⟨rfl, rfl, Nat.le_refl _, by simp, rfl, rfl, rfl⟩ .nil (by simp)
    have h2 : RepD w S (E ++ [some ⟨none, es, 0, 0⟩]) (.c (.h A.H.length 0 0)) (.slice ad 0 0) := by
      refine .c (.h (by simp [hr.lE]) fun pl hpl => ?_)
      rw [← hr.lE, List.getElem?_append_right (Nat.le_refl _), Nat.sub_self] at hpl
      cases hpl
      exact ⟨Nat.le_refl _, ad, rfl⟩
    refine ⟨S, _, _, { h1 with len := by rw [List.length_set]; exact hr.len, sl := ?_ }⟩
    intro i d hd
    rw [List.getElem?_set] at hd
    split at hd
    · rename_i hti
      subst hti
      rw [if_pos (lt_len ht)] at hd
      cases hd
      rw [hval]; exact h2
    · exact h1.sl i d hd
  · cases ho

theorem tri_nil {code : Code} {Q : Exit → St → Prop} {A' : St} (t es : Nat) (ho : nilA A t es = some A') (h : Tri P code A' Q) : Tri P code A Q :=
  Tri.weak (fun _ _ _ hs => nil_sat ho hs) h

end
end Go.Dl
