/- 'Dl', part M: zero values, boxes, aggregates, slices that are made. -/
import Derived.Test.YtdhlelineoggkaaDlL
namespace Go.Dl
open Go.RowKit

/-- A type's zero value. -/
def tz (P : Program) (t : TypeId) : Option (List C) :=
  match (P.info? t).bind (·.zero) with
  | some z => if z.cells.toList.all scB then some (z.cells.toList.map constC) else none
  | none => none

def newRoot (H : List (Option Root)) (R : Root) : List (Option Root) := H ++ [some R]

def boxA (H : List (Option Root)) (cells : List C) : Option (D × List (Option Root)) :=
  if cells.all (C.st H) = true then some (.c (.p H.length 0 0), H ++ [some ⟨false, cells.length, [cells]⟩]) else none

def fillA (place : Nat → Option (Nat × Nat)) : List C → List (Nat × List C) → Option (List C)
  | cells, [] => some cells
  | cells, (i, cs) :: rest => match place i with
    | some (off, size) => if cs.length = size ∧ off + cs.length ≤ cells.length then fillA place (putCells cells off cs) rest else none
    | none => none

/-- The parts of a literal. -/
def partsA (ρ : Operand → Option D) (H : List (Option Root)) : List (Nat × Operand) → Option (List (Nat × List C))
  | [] => some []
  | (i, x) :: rest => match (ρ x).bind D.cells, partsA ρ H rest with
    | some cs, some l => if cs.all (C.st H) = true then some ((i, cs) :: l) else none
    | _, _ => none

def placeSt (P : Program) (l : List (TypeId × Nat)) (i : Nat) : Option (Nat × Nat) := (l[i]?).map fun x => (x.2, tsz P x.1)

def buildA (P : Program) (ρ : Operand → Option D) (H : List (Option Root)) (t : TypeId) (parts : List (Nat × Operand)) : Option D :=
  match tz P t, partsA ρ H parts, tk P t with
  | some z, some ps, some (.st l) => if l.all (fun x => tsz P x.1 != 0) = true then (fillA (placeSt P l) z ps).map .agg else none
  | some z, some ps, some (.arr _ e) => if tsz P e ≠ 0 then (fillA (fun i => some (i * tsz P e, tsz P e)) z ps).map .agg else none
  | _, _, _ => none

/-- Cells, so many at a time. -/
def chop (n : Nat) : Nat → List C → List (List C)
  | 0, _ => []
  | k + 1, xs => xs.take n :: chop n k (xs.drop n)

def reps {α : Type} : Nat → List α → List α
  | 0, _ => []
  | n + 1, xs => xs ++ reps n xs

def buildSliceA (P : Program) (ρ : Operand → Option D) (H : List (Option Root)) (t : TypeId) (len : Nat) (parts : List (Nat × Operand)) : Option (D × List (Option Root)) :=
  match tk P t with
  | some (.slice e) => match tz P e, partsA ρ H parts with
    | some z, some ps => if tsz P e ≠ 0 ∧ z.length = tsz P e ∧ len * tsz P e ≤ 16777216 then
        (match fillA (fun i => some (i * tsz P e, tsz P e)) (reps len z) ps with
        | some cs => if cs.all C.dat = true then some (.c (.h H.length 0 len), H ++ [some ⟨true, tsz P e, chop (tsz P e) len cs⟩]) else none
        | none => none) else none
    | _, _ => none
  | _ => none

section
variable {P : Program} {g : G} {S : Nat → Prop} {E : Env} {F : List (List Nat)} {A : St} {a : Act} {w : World}

theorem tz_some {t : TypeId} {z : List C} (h : tz P t = some z) : ∃ v, (zeroValue t).run P w = .ok v w ∧ Rep w S E (.vs z v.cells.toList) [] ∧ z.length = v.cells.size := by
  unfold tz at h
  cases hi : P.info? t with
  | none => rw [hi] at h; simp at h
  | some i =>
    rw [hi] at h
    cases hz : i.zero with
    | none => simp [hz] at h
    | some v =>
      simp only [Option.bind_some, hz] at h
      split at h
      · rename_i hall
        cases h
        exact ⟨v, by simp [zeroValue, run_typeInfo w hi, hz], constCs_rep hall, by simp⟩
      · cases h

theorem putCells_vs {row cells : List C} {vr vc : List Value} {c : Nat} (h1 : Rep w S E (.vs row vr) []) (h2 : Rep w S E (.vs cells vc) []) :
    Rep w S E (.vs (putCells row c cells) (vr.take c ++ (vc ++ vr.drop (c + vc.length)))) [] := by
  have happ : ∀ {xs ys : List C} {us ws : List Value}, Rep w S E (.vs xs us) [] → Rep w S E (.vs ys ws) [] → Rep w S E (.vs (xs ++ ys) (us ++ ws)) [] := by
    intro xs
    induction xs with
    | nil => intro ys us ws h1 h2; cases h1; exact h2
    | cons y xs ih =>
      intro ys us ws h1 h2
      generalize hfp : ([] : List Nat) = fp at h1
      cases h1 with
      | vcons k1 k2 =>
        obtain ⟨rfl, rfl⟩ := List.append_eq_nil_iff.1 hfp.symm
        exact .vcons (f1 := []) (f2 := []) k1 (ih k2 h2)
  unfold putCells
  rw [vs_len h2]
  exact happ (vs_take c h1) (happ h2 (vs_drop _ h1))

theorem foldl_set : ∀ (l : List Value) (k : Nat) (off : Nat) (cs : Array Value), off + k + l.length ≤ cs.size →
    (l.zipIdx k).foldl (fun cs (x : Value × Nat) => cs.setIfInBounds (off + x.2) x.1) cs = (cs.toList.take (off + k) ++ (l ++ cs.toList.drop (off + k + l.length))).toArray
  | [], k, off, cs, _ => by simp
  | v :: l, k, off, cs, h => by
    simp only [List.length_cons] at h
    rw [List.zipIdx_cons, List.foldl_cons, foldl_set l (k + 1) off _ (by simp; omega)]
    congr 1
    simp only [Array.toList_setIfInBounds]
    rw [List.take_set, List.drop_set_of_lt (by omega)]
    rw [show off + (k + 1) = off + k + 1 by omega, List.take_succ_eq_append_getElem (by simp; omega), List.set_append_right _ _ (by simp [Nat.min_le_left])]
    simp only [List.length_take, Array.length_toList, Nat.min_eq_left (show off + k ≤ cs.size by omega), Nat.sub_self, List.set_cons_zero, List.append_assoc, List.cons_append, List.nil_append, List.length_cons]
    rw [show off + k + 1 + l.length = off + k + (l.length + 1) by omega]

/-- Parts, as data and as values. -/
inductive PartsR (w : World) (S : Nat → Prop) (E : Env) : List (Nat × List C) → List (Nat × Value) → Prop
  | nil : PartsR w S E [] []
  | cons {i cs v ps vps} (h : Rep w S E (.vs cs v.cells.toList) []) (t : PartsR w S E ps vps) : PartsR w S E ((i, cs) :: ps) ((i, v) :: vps)

theorem fill_sound {place : Nat → Option (Nat × Nat)} : ∀ {ps : List (Nat × List C)} {vps : List (Nat × Value)} {cells cells' : List C} {arr : Array Value},
    Rep w S E (.vs cells arr.toList) [] → PartsR w S E ps vps → fillA place cells ps = some cells' →
    ∃ arr', Instr.fill place arr vps = some arr' ∧ Rep w S E (.vs cells' arr'.toList) [] ∧ cells'.length = cells.length
  | [], _, cells, cells', arr, h, hp, hf => by
    cases hp
    cases hf
    exact ⟨arr, rfl, h, rfl⟩
  | (i, cs) :: ps, _, cells, cells', arr, h, hp, hf => by
    cases hp with
    | cons hv h2 =>
      rename_i v vps
      simp only [fillA] at hf
      cases hpl : place i with
      | none => rw [hpl] at hf; cases hf
      | some os =>
        obtain ⟨off, size⟩ := os
        rw [hpl] at hf
        simp only at hf
        split at hf
        · rename_i hc
          have l1 := vs_len h
          have l2 := vs_len hv
          have := putCells_vs (c := off) h hv
          obtain ⟨arr', e1, e2, e3⟩ := fill_sound (arr := (arr.toList.take off ++ (v.cells.toList ++ arr.toList.drop (off + v.cells.toList.length))).toArray) (by simpa using this) h2 hf
          refine ⟨arr', ?_, e2, by rw [e3, putCells_len hc.2]⟩
          simp only [Instr.fill, hpl]
          have hs1 : v.cells.size = size := by rw [← hc.1]; simpa using l2.symm
          have hs2 : off + v.cells.size ≤ arr.size := by
            have := hc.2
            simp at l1 l2; omega
          rw [if_neg (by simp [hs1]; omega)]
          rw [← e1]
          congr 1
          have := foldl_set v.cells.toList 0 off arr (by simpa using hs2)
          simp only [Nat.add_zero] at this
          rw [← this, ← Array.foldl_toList]
          simp
        · cases hf

theorem parts_sound (hr : Rel g S E F A a w) : ∀ {parts : List (Nat × Operand)} {ps : List (Nat × List C)}, (∀ x ∈ parts, opdOK x.2 = true) → partsA A.ev A.H parts = some ps →
    PartsR w S E ps (parts.map fun x => (x.1, a.eval x.2)) ∧ (∀ x ∈ ps, x.2.all (C.st A.H) = true)
  | [], ps, _, h => by cases h; exact ⟨.nil, by simp⟩
  | (i, x) :: parts, ps, hok, h => by
    simp only [partsA] at h
    split at h
    · rename_i cs l h1 h2
      split at h
      · rename_i hst
        cases h
        obtain ⟨k1, k2⟩ := parts_sound hr (fun y hy => hok y (List.mem_cons_of_mem _ hy)) h2
        cases hx : A.ev x with
        | none => rw [hx] at h1; cases h1
        | some d =>
          rw [hx] at h1
          have hd := ev_rep hr (hok (i, x) (List.mem_cons_self ..)) hx
          refine ⟨.cons (cells_rep hd h1 hst hr) k1, ?_⟩
          intro y hy
          rcases List.mem_cons.1 hy with rfl | hy
          · exact hst
          · exact k2 y hy
      · cases h
    · cases h

theorem run_mapM_fields : ∀ (fs : List Field), (∀ f ∈ fs, tsz P f.type ≠ 0) → (fs.mapM (m := Sem) fun f => do pure (f.offset, ← sizeOf f.type)).run P w = .ok (fs.map fun f => (f.offset, tsz P f.type)) w
  | [], _ => by simp
  | f :: fs, h => by
    have h1 := h f (List.mem_cons_self ..)
    have ih := run_mapM_fields fs fun f hf => h f (List.mem_cons_of_mem _ hf)
    simp only [List.mapM_cons, Sem.run_bind, run_tsz' h1, Result.andThen_ok, Sem.run_pure, ih, List.map_cons]

theorem build_sound (hr : Rel g S E F A a w) {t : TypeId} {parts : Array (Nat × Operand)} {d : D} (hok : ∀ x ∈ parts.toList, opdOK x.2 = true) (h : buildA P A.ev A.H t parts.toList = some d) :
    ∃ v, (Instr.build t (parts.map fun (i, x) => (i, a.eval x))).run P w = .ok v w ∧ RepD w S E d v := by
  unfold buildA at h
  split at h
  · rename_i z ps l hz hp hk
    split at h
    · rename_i hne
      cases hf : fillA (placeSt P l) z ps with
      | none => rw [hf] at h; cases h
      | some cells =>
        rw [hf] at h; cases h
        obtain ⟨v, z1, z2, z3⟩ := tz_some (P := P) (w := w) (S := S) (E := E) hz
        obtain ⟨p1, p2⟩ := parts_sound hr hok hp
        obtain ⟨arr, e1, e2, e3⟩ := fill_sound (w := w) (arr := v.cells) z2 p1 hf
        refine ⟨.agg arr, ?_, .agg e2⟩
        obtain ⟨td, hu, htd⟩ := tk_some hk
        cases td <;> simp [TK.of] at htd
        rename_i fs
        subst htd
        have hm : (fs.mapM (m := Sem) fun f => do pure (f.offset, ← sizeOf f.type)).run P w = .ok (fs.map fun f => (f.offset, tsz P f.type)) w := by
          have := run_mapM_fields (P := P) (w := w) fs.toList (by
            intro f hf
            have := List.all_eq_true.1 hne (f.type, f.offset) (List.mem_map.2 ⟨f, hf, rfl⟩)
            simpa using this)
          rw [Array.mapM_eq_mapM_toList]
          simp only [Sem.run_map, this, Result.andThen_ok]
          congr 1
          apply Array.toList_inj.1
          simp
        have hplace : (fun (x : Nat) => (fs.map fun f => (f.offset, tsz P f.type))[x]?) = placeSt P (fs.toList.map fun f => (f.type, f.offset)) := by
          funext i
          simp [placeSt, Option.map_map]
          rfl
        simp only [Instr.build, Sem.run_bind, z1, Result.andThen_ok, run_und hu, hm, hplace, Array.toList_map]
        rw [show (List.map (fun x : Nat × Operand => match x with | (i, x) => (i, a.eval x)) parts.toList) = parts.toList.map fun x => (x.1, a.eval x.2) from rfl, e1]
        simp
    · cases h
  · rename_i z ps n e hz hp hk
    split at h
    · rename_i hne
      cases hf : fillA (fun i => some (i * tsz P e, tsz P e)) z ps with
      | none => rw [hf] at h; cases h
      | some cells =>
        rw [hf] at h; cases h
        obtain ⟨v, z1, z2, z3⟩ := tz_some (P := P) (w := w) (S := S) (E := E) hz
        obtain ⟨p1, p2⟩ := parts_sound hr hok hp
        obtain ⟨arr, e1, e2, e3⟩ := fill_sound (w := w) (arr := v.cells) z2 p1 hf
        refine ⟨.agg arr, ?_, .agg e2⟩
        simp only [Instr.build, Sem.run_bind, z1, Result.andThen_ok, run_und (tk_arr hk), run_tsz' hne, Array.toList_map]
        rw [show (List.map (fun x : Nat × Operand => match x with | (i, x) => (i, a.eval x)) parts.toList) = parts.toList.map fun x => (x.1, a.eval x.2) from rfl, e1]
        simp
    · cases h
  · cases h

theorem box_sound (hr : Rel g S E F A a w) {cells : List C} {vs : List Value} {el : TypeId} {d : D} {H' : List (Option Root)} (hv : Rep w S E (.vs cells vs) []) (h : boxA A.H cells = some (d, H')) :
    ∃ E' F', Rel g S E' F' { A with H := H' } a (w.alloc (.cells vs.toArray el)) ∧ RepD (w.alloc (.cells vs.toArray el)) S E' d (.pointer (some ⟨w.heap.size, 0, none⟩)) := by
  unfold boxA at h
  split at h
  · cases h
    have hl := vs_len hv
    have := hr.newRoot (R := ⟨false, cells.length, [cells]⟩) (vs := vs) (extra := []) (el := el) (m := 1) (by simpa using hv) (by simp) (by simp) (by simp [hl]) (by simp)
    rw [List.append_nil] at this
    refine ⟨_, _, this, .c (.p ?_ ?_)⟩
    · have := this.lE; rw [this]; simp
    · intro pl hpl
      rw [← hr.lE, List.getElem?_append_right (Nat.le_refl _)] at hpl
      simp at hpl
      subst hpl
      exact ⟨w.heap.size, 0, rfl, by simp⟩
  · cases h

end
end Go.Dl
