/- In plain Lean: a queue in order is the list in order; the first that is due. -/
import Derived.Test.YtoamlicfbmhajaaPf
namespace Go.Dl
open Go.RowKit
open Go.Proofs
set_option linter.unusedSimpArgs false
set_option linter.unusedVariables false

abbrev leD (x y : Int × Int) : Prop := (!(aheadD y x)) = true

theorem leD_iff (x y : Int × Int) : leD x y ↔ (x.2 < y.2 ∨ (x.2 = y.2 ∧ x.1 ≤ y.1)) := by
  unfold leD aheadD
  simp
  omega
theorem ahead_iff (x y : Int × Int) : aheadD x y = true ↔ (x.2 < y.2 ∨ (x.2 = y.2 ∧ x.1 < y.1)) := by
  unfold aheadD
  simp
theorem leD_trans (x y z : Int × Int) (h1 : leD x y) (h2 : leD y z) : leD x z := by
  rw [leD_iff] at *; omega
theorem leD_anti (x y : Int × Int) (h1 : leD x y) (h2 : leD y x) : x = y := by
  rw [leD_iff] at *
  exact Prod.ext (by omega) (by omega)

theorem sortD_perm (l : List (Int × Int)) : (sortD l).Perm l := List.mergeSort_perm l _
theorem sortD_sorted (l : List (Int × Int)) : List.Pairwise leD (sortD l) :=
  List.pairwise_mergeSort (le := fun x y => !(aheadD y x)) (fun a b c => leD_trans a b c) (fun a b => by
    have : leD a b ∨ leD b a := by rw [leD_iff, leD_iff]; omega
    simpa [leD] using this) l

theorem putGo_true (d : Int × Int) : ∀ l : List (Int × Int), putGo d l true = l
  | [] => rfl
  | x :: l => by simp only [putGo]; rw [if_neg (by simp), putGo_true d l]

theorem putL_perm (d : Int × Int) : ∀ l : List (Int × Int), (putL l d).Perm (d :: l)
  | [] => .refl _
  | x :: l => by
    show (putGo d (x :: l) false).Perm _
    simp only [putGo]
    split
    · rw [putGo_true]
    · exact ((putL_perm d l).cons x).trans (.swap d x l)

theorem putL_sorted (d : Int × Int) : ∀ {l : List (Int × Int)}, List.Pairwise leD l → List.Pairwise leD (putL l d)
  | [], _ => by simp [putL, putGo]
  | x :: l, h => by
    obtain ⟨h1, h2⟩ := List.pairwise_cons.1 h
    show List.Pairwise leD (putGo d (x :: l) false)
    simp only [putGo]
    split
    · rename_i hc
      rw [putGo_true]
      have hdx : leD d x := by have := (ahead_iff d x).1 hc.2; rw [leD_iff]; omega
      refine List.pairwise_cons.2 ⟨fun y hy => ?_, h⟩
      rcases List.mem_cons.1 hy with rfl | hy
      · exact hdx
      · exact leD_trans _ _ _ hdx (h1 y hy)
    · rename_i hc
      have hxd : leD x d := by
        unfold leD
        cases ha : aheadD d x with
        | true => exact absurd ⟨trivial, ha⟩ hc
        | false => rfl
      refine List.pairwise_cons.2 ⟨fun y hy => ?_, putL_sorted d h2⟩
      rcases List.mem_cons.1 ((putL_perm d l).mem_iff.1 hy) with rfl | hy
      · exact hxd
      · exact h1 y hy

theorem swapQ_perm (l : List (Int × Int)) (i j : Nat) : (swapQ l i j).Perm l := by
  unfold swapQ
  split
  · rename_i x y hx hy
    have hi := lt_len hx
    have hj := lt_len hy
    rw [List.getElem?_eq_getElem hi] at hx
    rw [List.getElem?_eq_getElem hj] at hy
    cases hx
    cases hy
    exact List.set_set_perm hi hj
  · exact .refl _

theorem siftUp_perm : ∀ (f : Nat) (l : List (Int × Int)) (i : Nat), (siftUp f l i).Perm l
  | 0, l, i => .refl _
  | f + 1, l, i => by
    simp only [siftUp]
    repeat' split
    all_goals first | exact .refl _ | exact (siftUp_perm f _ _).trans (swapQ_perm l _ _)

theorem addQ_perm (l : List (Int × Int)) (d : Int × Int) : (addQ l d).Perm (d :: l) :=
  (siftUp_perm _ _ _).trans List.perm_append_comm

theorem heap_all : ∀ (l : List (Int × Int)) (q a : List (Int × Int)), q.Perm a → List.Pairwise leD a → (l.foldl addQ q).Perm (l.foldl putL a) ∧ List.Pairwise leD (l.foldl putL a)
  | [], q, a, h1, h2 => ⟨h1, h2⟩
  | d :: l, q, a, h1, h2 => heap_all l (addQ q d) (putL a d) (((addQ_perm q d).trans (h1.cons d)).trans (putL_perm d a).symm) (putL_sorted d h2)

theorem sort_all {q a : List (Int × Int)} (h1 : q.Perm a) (h2 : List.Pairwise leD a) : sortD q = a :=
  List.Perm.eq_of_pairwise (fun x y _ _ => leD_anti x y) (sortD_sorted q) h2 ((sortD_perm q).trans h1)

/-- The first that is due, and not barred. -/
def firstGo (now : Int) (bar : List Int) : List (Int × Int) → Option (Int × Int)
  | [] => none
  | x :: l => if x.2 ≤ now ∧ hasI bar x.1 = false then some x else firstGo now bar l

theorem first_none {now : Int} {bar : List Int} : ∀ {l : List (Int × Int)}, (∀ x ∈ l, now < x.2) → firstGo now bar l = none
  | [], _ => rfl
  | x :: l, h => by
    have := h x (List.mem_cons_self ..)
    simp only [firstGo]
    rw [if_neg (by omega), first_none fun y hy => h y (List.mem_cons_of_mem _ hy)]

theorem ready_first (now : Int) (bar : List Int) : ∀ {s : List (Int × Int)}, List.Pairwise leD s → readyGo now bar s = match firstGo now bar s with
    | some x => (x, true)
    | none => ((0, 0), false)
  | [], _ => rfl
  | x :: l, h => by
    obtain ⟨h1, h2⟩ := List.pairwise_cons.1 h
    simp only [readyGo]
    by_cases hx : now < x.2
    · rw [if_pos hx, first_none]
      intro y hy
      rcases List.mem_cons.1 hy with rfl | hy
      · exact hx
      · have := (leD_iff _ _).1 (h1 y hy); omega
    · rw [if_neg hx]
      simp only [firstGo]
      cases hb : hasI bar x.1 with
      | true =>
        rw [if_pos rfl, if_neg (by simp), ready_first now bar h2]
      | false =>
        rw [if_neg (by simp), if_pos ⟨by omega, rfl⟩]

theorem first_get {now : Int} {bar : List Int} : ∀ {l : List (Int × Int)} {i : Nat} {x : Int × Int}, l[i]? = some x → (∀ y ∈ l.take i, ¬ (y.2 ≤ now ∧ hasI bar y.1 = false)) → x.2 ≤ now ∧ hasI bar x.1 = false → firstGo now bar l = some x
  | [], i, x, h, _, _ => by simp at h
  | y :: l, 0, x, h, _, hx => by
    simp at h; subst h
    simp only [firstGo]; rw [if_pos hx]
  | y :: l, i + 1, x, h, hy, hx => by
    simp only [firstGo]
    rw [if_neg (hy y (by simp)), first_get (by simpa using h) (fun z hz => hy z (by rw [List.take_succ_cons]; exact List.mem_cons_of_mem _ hz)) hx]

theorem first_not {now : Int} {bar : List Int} : ∀ {l : List (Int × Int)}, (∀ y ∈ l, ¬ (y.2 ≤ now ∧ hasI bar y.1 = false)) → firstGo now bar l = none
  | [], _ => rfl
  | y :: l, h => by
    simp only [firstGo]
    rw [if_neg (h y (List.mem_cons_self ..)), first_not fun z hz => h z (List.mem_cons_of_mem _ hz)]

end Go.Dl
