/- slices.SortFunc at those that wait: out of the library's proved contract. -/
import Derived.Test.YtoamlicfbmhajaaPa
import Derived.Test.YtoamlicfbmhajaaSf
namespace Go.Dl
open Go.RowKit
open Go.Proofs
set_option linter.unusedSimpArgs false
set_option linter.unusedVariables false

abbrev DueT := {p : Int × Int // inR .i64 p.1 = true ∧ inR .i64 p.2 = true}
instance : Inhabited DueT := ⟨⟨(0, 0), rfl, rfl⟩⟩
def encT (x : DueT) : List Value := [.int .i64 x.1.1, .int .i64 x.1.2]
def cfT (x y : DueT) : Int := ordD x.1 y.1

theorem ltT_eq (x y : DueT) : ltOf cfT x y = aheadD x.1 y.1 := by
  obtain ⟨⟨x1, x2⟩, _⟩ := x
  obtain ⟨⟨y1, y2⟩, _⟩ := y
  simp only [ltOf, cfT, ordD, cmpI, aheadD]
  by_cases h1 : x2 < y2
  · simp [h1]
  · by_cases h2 : y2 < x2
    · have h3 : ¬ x2 = y2 := by omega
      simp [h1, h2, h3]
    · have h3 : x2 = y2 := by omega
      subst h3
      by_cases h4 : x1 < y1
      · simp [h4]
      · by_cases h5 : y1 < x1
        · simp [h4, h5]
        · simp [h4, h5]

theorem swoT : Sort.SWO (ltOf cfT) where
  irrefl x := by rw [ltT_eq]; simp [aheadD]
  trans x y z h1 h2 := by rw [ltT_eq] at *; simp [aheadD] at *; omega
  ntrans x y z h1 h2 := by rw [ltT_eq] at *; simp [aheadD] at *; omega

theorem totT (x y : DueT) (h1 : ltOf cfT x y = false) (h2 : ltOf cfT y x = false) : x = y := by
  rw [ltT_eq] at *
  simp [aheadD] at *
  exact Subtype.ext (Prod.ext (by omega) (by omega))

/-- What a call without objects leaves: draws and blocks. -/
theorem left_grow {w w' : World} {S : Nat → Prop} {d : D} {v : Value} {os : List Obj} (hl : Left w w' S [] [] d v os) : ∃ q os', w' = Sort.grow (w.drewN q) os' := by
  refine ⟨w'.drawn - w.drawn, w'.heap.extract w.heap.size w'.heap.size, ?_⟩
  have h1 := hl.keep
  have h2 := hl.size
  have h3 := hl.os
  have h4 := hl.tape
  obtain ⟨h5, h6⟩ := hl.output
  have hheap : w'.heap = w.heap ++ w'.heap.extract w.heap.size w'.heap.size := by
    apply Array.ext_getElem?
    intro i
    rw [Array.getElem?_append]
    split
    · rename_i hi
      exact h1 i hi (by simp)
    · rename_i hi
      rw [Array.getElem?_extract]
      split
      · congr 1; omega
      · rename_i hc
        rw [Array.getElem?_eq_none]
        omega
  obtain ⟨hp, tp, dr, os', out⟩ := w'
  obtain ⟨hp0, tp0, dr0, os0, out0⟩ := w
  simp only at h3 h4 h5 h6 hheap
  subst h3 h4 h5
  simp only [Sort.grow, World.drewN]
  rw [← hheap]
  congr 1
  omega

theorem cmpLays (b off n : Nat) (w : World) : CmpLays Try.prog 83 #[] encT 2 cfT b off n w := by
  intro m os dk _ x y
  generalize sortWorldK encT 2 w b off m dk os = W
  have hx : RepD W (fun _ => False) [] (.agg (due x.1)) (.agg (encT x).toArray) :=
    .agg (.vcons (f1 := []) (f2 := []) (.v x.2.1) (.vcons (f1 := []) (f2 := []) (.v x.2.2) .vnil))
  have hy : RepD W (fun _ => False) [] (.agg (due y.1)) (.agg (encT y).toArray) :=
    .agg (.vcons (f1 := []) (f2 := []) (.v y.2.1) (.vcons (f1 := []) (f2 := []) (.v y.2.2) .vnil))
  rw [Array.append_empty]
  have hsp : pureS pOrder [.agg (due x.1), .agg (due y.1)] [] (fun d os => d = dI (ordD x.1 y.1) ∧ os = []) := by
    refine ⟨rfl, dI (ordD x.1 y.1), ?_, rfl, rfl⟩
    simp only [pOrder, due, decDue, Option.bind_some]
  refine (meets83 [.agg (due x.1), .agg (due y.1)] [] _ hsp W (fun _ => False) #[.agg (encT x).toArray, .agg (encT y).toArray] [] [] rfl ?_ ⟨rfl, rfl, by simp⟩ (by simp) (by simp) (fun _ h => h.elim)).mono ?_
  · intro i d hd
    match i, hd with
    | 0, hd => cases hd; exact hx
    | 1, hd => cases hd; exact hy
  · rintro e w' ⟨v, d, os', rfl, ⟨rfl, rfl⟩, _, hl⟩
    refine ⟨?_, left_grow hl⟩
    obtain ⟨S', pls', fps', fpd, _, _, h3, _⟩ := hl.rest
    have h3 : Rep w' S' [] (.k false (.v (.int .i64 (ordD x.1 y.1))) v) fpd := h3
    cases h3
    rfl

/-- The cells of a row of those that wait. -/
theorem rep_dues {w : World} {S : Nat → Prop} {E : Env} {b : Nat} : ∀ {l : List (Int × Int)} {off : Nat} {fp : List Nat}, Rep w S E (.l true (l.map due).flatten b off) fp → fp = [] ∧ ∀ (i : Nat) (x : Int × Int), l[i]? = some x →
    w.cell? ⟨b, off + i * 2, none⟩ = some (.int .i64 x.1) ∧ w.cell? ⟨b, off + i * 2 + 1, none⟩ = some (.int .i64 x.2) ∧ inR .i64 x.1 = true ∧ inR .i64 x.2 = true
  | [], off, fp, h => by cases h; exact ⟨rfl, fun i x hx => by simp at hx⟩
  | d :: l, off, fp, h => by
    have h : Rep w S E (.l true (.v (.int .i64 d.1) :: .v (.int .i64 d.2) :: (l.map due).flatten) b off) fp := h
    cases h with
    | lcons hv hc hr =>
      cases hc with
      | v h1 =>
        cases hr with
        | lcons hv2 hc2 hr2 =>
          cases hc2 with
          | v h2 =>
            obtain ⟨e1, e2⟩ := rep_dues hr2
            subst e1
            refine ⟨rfl, fun i x hx => ?_⟩
            cases i with
            | zero =>
              simp at hx; subst hx
              exact ⟨by simpa using hv, by simpa using hv2, h1, h2⟩
            | succ i =>
              obtain ⟨k1, k2, k3⟩ := e2 i x (by simpa using hx)
              rw [show off + 1 + 1 + i * 2 = off + (i + 1) * 2 by omega] at k1 k2
              exact ⟨k1, k2, k3⟩

theorem dues_rep {w : World} {S : Nat → Prop} {E : Env} {b : Nat} : ∀ {l : List (Int × Int)} {off : Nat}, (∀ (i : Nat) (x : Int × Int), l[i]? = some x →
    w.cell? ⟨b, off + i * 2, none⟩ = some (.int .i64 x.1) ∧ w.cell? ⟨b, off + i * 2 + 1, none⟩ = some (.int .i64 x.2) ∧ inR .i64 x.1 = true ∧ inR .i64 x.2 = true) → Rep w S E (.l true (l.map due).flatten b off) []
  | [], off, h => .lnil
  | d :: l, off, h => by
    obtain ⟨h1, h2, h3, h4⟩ := h 0 d rfl
    have ih : Rep w S E (.l true (l.map due).flatten b (off + 1 + 1)) [] := dues_rep fun i x hx => by
      obtain ⟨k1, k2, k3⟩ := h (i + 1) x (by simpa using hx)
      rw [show off + (i + 1) * 2 = off + 1 + 1 + i * 2 by omega] at k1 k2
      exact ⟨k1, k2, k3⟩
    show Rep w S E (.l true (.v (.int .i64 d.1) :: .v (.int .i64 d.2) :: (l.map due).flatten) b off) []
    exact .lcons (f1 := []) (f2 := []) (by simpa using h1) (.v h3) (.lcons (f1 := []) (f2 := []) (by simpa using h2) (.v h4) ih)

/-- Those that wait, in order. -/
def sortD (l : List (Int × Int)) : List (Int × Int) := l.mergeSort fun x y => !(aheadD y x)

/-- slices.SortFunc with order. -/
def sortS : Spec := fun args objs Q => ∃ l : List (Int × Int), objs = [⟨2, l.map due⟩] ∧ args = [.c (.h 0 0 l.length), .c (.f 83 [])] ∧ l.length ≤ 1000000 ∧ Q (.t []) [⟨2, (sortD l).map due⟩]

end Go.Dl
