/- 'Dl', part Zi: an empty slice's cells may be of any size. -/
import Derived.Test.YtdhlelineoggkaaDlZh
namespace Go.Dl
open Go.RowKit

/-- An empty slice, said of elements of a size. -/
def C.fixes (n : Nat) : C → C
  | .s false _ [] => .s false n []
  | c => c

def D.fixes (n : Nat) : D → D
  | .c y => .c (y.fixes n)
  | .agg xs => .agg (xs.map (C.fixes n))
  | d => d

section
variable {P : Program} {w : World} {S : Nat → Prop} {E : Env}

theorem rep_fixes (n : Nat) {dat : Bool} {c : C} {v : Value} {fp : List Nat} (h : Rep w S E (.k dat c v) fp) : Rep w S E (.k dat (c.fixes n) v) fp := by
  unfold C.fixes
  split
  · cases h with
    | nilI => exact .nilI
    | imm _ _ _ _ => exact .nilI
  · exact h

theorem reps_fixes (n : Nat) : ∀ {cs : List C} {vs : List Value} {fp : List Nat}, Rep w S E (.vs cs vs) fp → Rep w S E (.vs (cs.map (C.fixes n)) vs) fp
  | [], _, _, h => by cases h; exact .vnil
  | c :: cs, _, _, h => by
    cases h with
    | vcons h1 h2 => exact .vcons (rep_fixes n h1) (reps_fixes n h2)

theorem repD_fixes (n : Nat) {d : D} {v : Value} (h : RepD w S E d v) : RepD w S E (d.fixes n) v := by
  cases d with
  | c y =>
    cases h with
    | c h => exact .c (rep_fixes n h)
  | agg xs =>
    obtain ⟨arr, rfl, h1⟩ := agg_inv h
    exact .agg (reps_fixes n h1)
  | top => exact h
  | q xs => exact h
  | t ds => exact h

theorem args_fixes (n : Nat) {args : List D} {vs : Array Value} (h : ∀ (i : Nat) (d : D), args[i]? = some d → RepD w S E d (vs.getD i undef)) :
    ∀ (i : Nat) (d : D), (args.map (D.fixes n))[i]? = some d → RepD w S E d (vs.getD i undef) := by
  intro i d hd
  rw [List.getElem?_map, Option.map_eq_some_iff] at hd
  obtain ⟨d', h1, rfl⟩ := hd
  exact repD_fixes n (h i d' h1)

theorem meets_fixes {k : FuncId} {spec : Spec} (n : Nat) (h : Meets P k spec) : Meets P k (fun args objs Q => spec (args.map (D.fixes n)) objs Q) := by
  intro args objs Q hs w S vs pls fps hl ha
  exact h _ objs Q hs w S vs pls fps (by rw [List.length_map]; exact hl) (args_fixes n ha)

theorem pure_fixes {k : FuncId} {f : List D → Option D} (n : Nat) (h : Meets P k (pureS f)) : Meets P k (pureS fun args => f (args.map (D.fixes n))) :=
  meets_fixes n h

theorem det_fixes {k : FuncId} {f : List D → List Obj → Option (D × List Obj)} (n : Nat) (h : Meets P k (detS f)) : Meets P k (detS fun args => f (args.map (D.fixes n))) :=
  meets_fixes n h

end
end Go.Dl
