/- slices.SortFunc at those that wait, as a contract. -/
import Derived.Test.YtoamlicfbmhajaaPb
namespace Go.Dl
open Go.RowKit
open Go.Proofs
set_option linter.unusedSimpArgs false
set_option linter.unusedVariables false

theorem lT_of {l : List (Int × Int)} (h : ∀ x ∈ l, inR .i64 x.1 = true ∧ inR .i64 x.2 = true) : ∃ lT : List DueT, lT.map Subtype.val = l := by
  induction l with
  | nil => exact ⟨[], rfl⟩
  | cons x l ih =>
    obtain ⟨lT, rfl⟩ := ih fun y hy => h y (List.mem_cons_of_mem _ hy)
    exact ⟨⟨x, h x (List.mem_cons_self ..)⟩ :: lT, rfl⟩

theorem sortT_val (lT : List DueT) : (lT.mergeSort fun x y => !(ltOf cfT) y x).map Subtype.val = sortD (lT.map Subtype.val) := by
  unfold sortD
  rw [List.map_mergeSort (s := fun x y => !(aheadD y x))]
  intro a _ b _
  rw [ltT_eq]

/-- The row, as the library's kit says it. -/
theorem holds_dues {w : World} {b off : Nat} {lT : List DueT} (h : ∀ (i : Nat) (x : Int × Int), (lT.map Subtype.val)[i]? = some x → w.cell? ⟨b, off + i * 2, none⟩ = some (.int .i64 x.1) ∧ w.cell? ⟨b, off + i * 2 + 1, none⟩ = some (.int .i64 x.2))
    (hfz : ∀ j, j < lT.length * 2 → w.frozen? ⟨b, off + j, none⟩ = false) : Sort.HoldsK encT 2 w b off lT.toArray := by
  intro j hj
  rw [Sort.size_flatK] at hj
  simp only [List.size_toArray] at hj
  refine ⟨?_, hfz j hj⟩
  rw [Sort.get_flatK _ _ _ _ (by simpa using hj)]
  have hi : j / 2 < lT.length := by omega
  have hx : lT.toArray[j / 2]! = lT[j / 2] := by rw [getElem!_pos lT.toArray (j / 2) (by simpa using hi)]; simp
  rw [hx]
  obtain ⟨k1, k2⟩ := h (j / 2) lT[j / 2].1 (by rw [List.getElem?_map, List.getElem?_eq_getElem hi]; rfl)
  rcases Nat.mod_two_eq_zero_or_one j with h0 | h0
  · rw [h0, show off + j = off + j / 2 * 2 by omega]; exact k1
  · rw [h0, show off + j = off + j / 2 * 2 + 1 by omega]; exact k2

theorem dues_holds {w : World} {b off : Nat} {lT : List DueT} (h : Sort.HoldsK encT 2 w b off lT.toArray) : ∀ (i : Nat) (x : Int × Int), (lT.map Subtype.val)[i]? = some x →
    w.cell? ⟨b, off + i * 2, none⟩ = some (.int .i64 x.1) ∧ w.cell? ⟨b, off + i * 2 + 1, none⟩ = some (.int .i64 x.2) ∧ inR .i64 x.1 = true ∧ inR .i64 x.2 = true := by
  intro i x hx
  rw [List.getElem?_map, Option.map_eq_some_iff] at hx
  obtain ⟨y, hy, rfl⟩ := hx
  have hi := lt_len hy
  have hx : lT.toArray[i]! = y := by
    rw [getElem!_pos lT.toArray i (by simpa using hi)]
    rw [List.getElem?_eq_getElem hi] at hy
    simpa using hy
  have h0 := (h.cell (i := i) (c := 0) (by simpa using hi) (by decide)).1
  have h1 := (h.cell (i := i) (c := 1) (by simpa using hi) (by decide)).1
  rw [hx] at h0 h1
  exact ⟨h0, h1, y.2⟩

theorem own_sorted {w : World} {b n m : Nat} {d : Array DueT} {off : Nat} {os : Array Go.Obj} (hb : b < w.heap.size) (h : OwnBlock w b n) : OwnBlock (sortWorldK encT 2 w b off m d os) b n := by
  obtain ⟨arr, el, z, h1, h2, h3⟩ := h
  have hh : (sortWorldK encT 2 w b off m d os).heap[b]? = some (.cells (Sort.putCells id off (Sort.flatK encT 2 d) arr) el z) := by
    unfold sortWorldK
    rw [Sort.heap_grow_old _ _ (by show b < (Sort.putRow id _ b off _).heap.size; rw [Sort.size_putRow]; exact hb)]
    show (w.heap.modify b (Sort.onCells _))[b]? = _
    rw [Array.getElem?_modify, if_pos rfl, h1]
    rfl
  have hs : (Sort.putCells id off (Sort.flatK encT 2 d) arr).size = arr.size := by simp [Sort.putCells]
  refine ⟨_, el, z, hh, by rw [hs]; exact h2, fun o ho => ?_⟩
  rw [hs] at ho
  have := h3 o ho
  unfold World.frozen? at this ⊢
  rw [h1] at this
  rw [hh]
  exact this

theorem got90 : Try.prog.funcs[90]? = some Try.f90 := by kernel_rfl
theorem meets90 : Meets Try.prog 90 sortS := by
  rintro args objs Q ⟨l, rfl, rfl, hlen, hQ⟩ w S vs pls fps hl hargs hobjs hnd hfs hS
  obtain ⟨o1, o2, o3⟩ := hobjs
  obtain ⟨p, f, hp, hf, hroot⟩ := o3 0 _ rfl
  obtain rfl : pls = [p] := by
    match pls, o1, hp with
    | [q], _, hp => simpa using hp
  obtain rfl : fps = [f] := by
    match fps, o2, hf with
    | [q], _, hf => simpa using hf
  obtain ⟨a, b, rfl⟩ : ∃ a b, vs = #[a, b] := by
    obtain ⟨vl⟩ := vs
    match vl, hl with
    | [a, b], _ => exact ⟨a, b, rfl⟩
  have h0 : RepD w S [some p] (.c (.h 0 0 l.length)) a := hargs 0 _ rfl
  have h1 : RepD w S [some p] (.c (.f 83 [])) b := hargs 1 _ rfl
  obtain rfl : b = .func (.func 83) #[] #[] := by
    cases h1 with
    | c h1 => cases h1 with
      | f hc2 hcs =>
        rename_i cs
        obtain ⟨cl⟩ := cs
        have hcs : Rep w S [some p] (.vs [] cl) [] := hcs
        cases hcs
        rfl
  have hh : HandleAt p 0 l.length a := by
    cases h0 with
    | c h0 => cases h0 with
      | h _ hh => exact hh p rfl
  obtain ⟨g1, g2, g3, g4, g5⟩ := hroot
  obtain ⟨k1, k2⟩ := hh
  simp only at g1 g2 g4 g5
  have done0 : l = [] → ∀ (ad : Option Addr) (cap : Nat), a = .slice ad 0 cap → Calls Try.prog 90 #[a, .func (.func 83) #[] #[]] w fun e w' => ∃ v d objs', e = .returned v ∧ Q d objs' ∧ objs'.length = 1 ∧ Left w w' S [p] [f] d v objs' := by
    rintro rfl ad cap rfl
    refine (AnyF.slices_SortFunc_none Try.sortDue ad cap (.func (.func 83) #[] #[]) w).mono ?_
    rintro e w' ⟨rfl, rfl⟩
    refine ⟨.tuple #[], .t [], [⟨2, []⟩], rfl, by simpa [sortD] using hQ, rfl, { size := Nat.le_refl _, keep := fun _ _ _ => rfl, os := rfl, tape := rfl, output := .rf _, rest := ⟨S, [p], [f], [], fun _ h => h, fun b hb => ⟨hS b hb, .inl hb⟩, ⟨#[], [], rfl, rfl, rfl, rfl, by simp⟩, ⟨rfl, rfl, fun i ob hob => ?_⟩, by simpa using hnd, fun b hb => ?_, fun i q q' hq hq' => ?_⟩ }⟩
    · match i, hob with
      | 0, hob => cases hob; exact ⟨p, f, rfl, rfl, g1, g2, g3, g4, g5⟩
    · have hb' : b ∈ [f].flatten := by simpa using hb
      exact ⟨(hfs b hb').1, (hfs b hb').2, .inl hb'⟩
    · match i, hq, hq' with
      | 0, hq, hq' => cases hq; cases hq'; exact Pl.le_refl _
  cases hat : p.at? with
  | none =>
    rw [hat] at k2 g5
    obtain ⟨ad, rfl⟩ := k2
    have hl0 : l = [] := by simpa using g5.1
    subst hl0
    exact done0 rfl ad 0 rfl
  | some bo =>
    obtain ⟨b, off⟩ := bo
    rw [hat] at k2 g5
    obtain ⟨ad, cap, rfl, q2, q3, q4⟩ := k2
    obtain ⟨fr, rfl, hown, hrep⟩ := g5
    by_cases hl0 : l = []
    · subst hl0; exact done0 rfl (some ad) cap rfl
    have hpos : 0 < l.length := List.length_pos_iff.2 hl0
    have had : ad = ⟨b, off, none⟩ := by
      rcases q4 with q4 | q4
      · omega
      · rw [q4]; simp
    subst had
    obtain ⟨e1, hcells⟩ := rep_dues hrep
    subst e1
    obtain ⟨lT, rfl⟩ := lT_of fun x hx => by
      obtain ⟨i, hi⟩ := List.getElem?_of_mem hx
      exact (hcells i x hi).2.2
    simp only [List.length_map] at *
    have hbS := hfs b (by simp)
    have hm : lT.length * 2 ≤ p.m * 2 := by omega
    have hH := holds_dues (lT := lT) (fun i x hx => ⟨(hcells i x hx).1, (hcells i x hx).2.1⟩) (fun j hj => by
      obtain ⟨arr, el, z, m1, m2, m3⟩ := hown
      exact m3 _ (by omega))
    have hcall := AnyQ.slices_SortFunc_total Try.sortDue 2 Try.isAgg79 Try.sizeOf79 encT (fun _ => rfl) (fun x v hv => by simp [encT] at hv; rcases hv with rfl | rfl <;> rfl) cfT swoT 83 #[] b off cap lT.toArray w
      (fun args w => run_callFunc (by kernel_rfl)) (cmpLays b off _ w) hH hbS.2 (by simp; omega) totT
    simp only [List.size_toArray] at hcall
    refine Calls.mono hcall ?_
    rintro e w' ⟨rfl, m, os, rfl⟩
    have hsz : (sortWorldK encT 2 w b off m (lT.mergeSort fun x y => !(ltOf cfT) y x).toArray os).heap.size = w.heap.size + os.size := by
      unfold sortWorldK
      rw [Sort.size_grow]
      show (Sort.putRow id _ b off _).heap.size + _ = _
      rw [Sort.size_putRow]; rfl
    have hH' : Sort.HoldsK encT 2 (sortWorldK encT 2 w b off m (lT.mergeSort fun x y => !(ltOf cfT) y x).toArray os) b off (lT.mergeSort fun x y => !(ltOf cfT) y x).toArray := by
      refine Sort.holdsK_grow encT 2 _ _ _ _ _ ?_ (Sort.holdsK_putRowK encT 2 _ _ _ lT.toArray _ (Sort.holdsK_ahead encT 2 _ _ _ _ _ hH) (by simp))
      show b < (Sort.putRow id _ b off _).heap.size
      rw [Sort.size_putRow]; exact hbS.2
    have hcells' := dues_holds hH'
    rw [sortT_val] at hcells'
    refine ⟨.tuple #[], .t [], [⟨2, (sortD (lT.map Subtype.val)).map due⟩], rfl, hQ, rfl, { size := by rw [hsz]; omega, keep := fun k hk hkb => ?_, os := rfl, tape := rfl, output := ⟨rfl, Nat.le_add_right _ _⟩, rest := ⟨S, [p], [[b]], [], fun _ h => h, fun x hx => ⟨by rw [hsz]; have := hS x hx; omega, .inl hx⟩, ⟨#[], [], rfl, rfl, rfl, rfl, by simp⟩, ⟨rfl, rfl, fun i ob hob => ?_⟩, by simp, fun x hx => ?_, fun i q q' hq hq' => ?_⟩ }⟩
    · unfold sortWorldK
      rw [Sort.heap_grow_old _ _ (by show k < (Sort.putRow id _ b off _).heap.size; rw [Sort.size_putRow]; exact hk)]
      show (w.heap.modify b (Sort.onCells _))[k]? = _
      rw [Array.getElem?_modify, if_neg (fun h => hkb (by subst h; simp))]
    · match i, hob with
      | 0, hob =>
        cases hob
        refine ⟨p, [b], rfl, rfl, g1, by simp [sortD, g2], g3, ?_, ?_⟩
        · intro r hr
          obtain ⟨x, _, rfl⟩ := List.mem_map.1 hr
          rfl
        · rw [hat]
          exact ⟨[], rfl, own_sorted hbS.2 hown, dues_rep hcells'⟩
    · have hx' : x = b := by simpa using hx
      subst hx'
      exact ⟨hbS.1, by rw [hsz]; omega, .inl (by simp)⟩
    · match i, hq, hq' with
      | 0, hq, hq' => cases hq; cases hq'; exact Pl.le_refl _

end Go.Dl
