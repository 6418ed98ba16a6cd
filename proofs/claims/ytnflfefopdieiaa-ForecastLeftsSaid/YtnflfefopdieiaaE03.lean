/- 'Dl', part M: zero values, boxes, aggregates, slices that are made; 'Dl', part N: slices that are made; 'Dl', part O: append; 'Dl', part P: append is what the function says; 'Dl', part Q: one operation as a function; runs of operations; 'Dl', part R: one operation as a function of the state; runs of operations. -/
import Derived.Test.YtnflfefopdieiaaE02
set_option linter.all false
namespace Go.Dl
open Go.RowKit
/-- A type's zero value. -/
def tz (P : Program) (t : TypeId) : Option (List C) :=
  match (P.info? t).bind (·.zero) with
  | some z => if z.cells.toList.all scB then some (z.cells.toList.map Y7) else none
  | none => none
def newRoot (H : List (Option Root)) (R : Root) : List (Option Root) := H ++ [some R]
def boxA (H : List (Option Root)) (cells : List C) : Option (D × List (Option Root)) :=
  if cells.all (C.st H) = true then some (.c (.p H.length 0 0), H ++ [some ⟨false, cells.length, [cells]⟩]) else none
def fillA (place : Nat → Option (Nat × Nat)) : List C → List (Nat × List C) → Option (List C)
  | cells, [] => some cells
  | cells, (i, cs) :: rest => match place i with
    | some (off, size) => if cs.length = size ∧ off + cs.length ≤ cells.length then fillA place (putCells cells off cs) rest else none
    | none => none
/-- The parts of a literal. -/
def partsA (ρ : Operand → Option D) (H : List (Option Root)) : List (Nat × Operand) → Option (List (Nat × List C))
  | [] => some []
  | (i, x) :: rest => match (ρ x).bind D.cells, partsA ρ H rest with
    | some cs, some l => if cs.all (C.st H) = true then some ((i, cs) :: l) else none
    | _, _ => none
def placeSt (P : Program) (l : List (TypeId × Nat)) (i : Nat) : Option (Nat × Nat) := (l[i]?).map fun x => (x.2, tsz P x.1)
def buildA (P : Program) (ρ : Operand → Option D) (H : List (Option Root)) (t : TypeId) (parts : List (Nat × Operand)) : Option D :=
  match tz P t, partsA ρ H parts, tk P t with
  | some z, some ps, some (.st l) => if l.all (fun x => tsz P x.1 != 0) = true then (fillA (placeSt P l) z ps).map .agg else none
  | some z, some ps, some (.arr _ e) => if tsz P e ≠ 0 then (fillA (fun i => some (i * tsz P e, tsz P e)) z ps).map .agg else none
  | _, _, _ => none
/-- Cells, so many at a time. -/
def chop (n : Nat) : Nat → List C → List (List C)
  | 0, _ => []
  | k + 1, xs => xs.take n :: chop n k (xs.drop n)
def reps {α : Type} : Nat → List α → List α
  | 0, _ => []
  | n + 1, xs => xs ++ reps n xs
def buildSliceA (P : Program) (ρ : Operand → Option D) (H : List (Option Root)) (t : TypeId) (len : Nat) (parts : List (Nat × Operand)) : Option (D × List (Option Root)) :=
  match tk P t with
  | some (.slice e) => match tz P e, partsA ρ H parts with
    | some z, some ps => if tsz P e ≠ 0 ∧ z.length = tsz P e ∧ len * tsz P e ≤ 16777216 then
        (match fillA (fun i => some (i * tsz P e, tsz P e)) (reps len z) ps with
        | some cs => if cs.all C.dat = true then some (.c (.h H.length 0 len), H ++ [some ⟨true, tsz P e, chop (tsz P e) len cs⟩]) else none
        | none => none) else none
    | _, _ => none
  | _ => none
section
variable {P : Program} {g : G} {S : Nat → Prop} {E : Env} {F : List (List Nat)} {A : St} {a : Act} {w : World}
theorem tz_some {t : TypeId} {z : List C} (h : tz P t = some z) : ∃ v, (zeroValue t).run P w = .ok v w ∧ Rep w S E (.vs z v.cells.toList) [] ∧ z.length = v.cells.size := by
  unfold tz at h
  cases hi : P.info? t with
  | none => rw [hi] at h; simp at h
  | some i =>
    rw [hi] at h
    cases hz : i.zero with
    | none => simp [hz] at h
    | some v =>
      simp only [Z8, hz] at h
      split at h
      · rename_i hall
        cases h
        exact ⟨v, by simp [zeroValue, run_typeInfo w hi, hz], constCs_rep hall, by simp⟩
      · cases h
theorem putCells_vs {row cells : List C} {vr vc : List Value} {c : Nat} (h1 : Rep w S E (.vs row vr) []) (h2 : Rep w S E (.vs cells vc) []) :
    Rep w S E (.vs (putCells row c cells) (vr.take c ++ (vc ++ vr.drop (c + vc.length)))) [] := by
  have happ : ∀ {xs ys : List C} {us ws : List Value}, Rep w S E (.vs xs us) [] → Rep w S E (.vs ys ws) [] → Rep w S E (.vs (xs ++ ys) (us ++ ws)) [] := by
    intro xs
    induction xs with
    | nil => intro ys us ws h1 h2; cases h1; exact h2
    | cons y xs ih =>
      intro ys us ws h1 h2
      generalize hfp : ([] : List Nat) = fp at h1
      cases h1 with
      | vcons k1 k2 =>
        obtain ⟨rfl, rfl⟩ := List.append_eq_nil_iff.1 hfp.symm
        exact .vcons (f1 := []) (f2 := []) k1 (ih k2 h2)
  unfold putCells
  rw [vs_len h2]
  exact happ (vs_take c h1) (happ h2 (vs_drop _ h1))
theorem foldl_set : ∀ (l : List Value) (k : Nat) (off : Nat) (cs : Array Value), off + k + l.length ≤ cs.size →
    (l.zipIdx k).foldl (fun cs (x : Value × Nat) => cs.setIfInBounds (off + x.2) x.1) cs = (cs.toList.take (off + k) ++ (l ++ cs.toList.drop (off + k + l.length))).toArray
  | [], k, off, cs, _ => by simp
  | v :: l, k, off, cs, h => by
    simp only [Z9] at h
    rw [List.zipIdx_cons, List.foldl_cons, foldl_set l (k + 1) off _ (by simp; omega)]
    congr 1
    simp only [Array.toList_setIfInBounds]
    rw [List.take_set, List.drop_set_of_lt (by omega)]
    rw [show off + (k + 1) = off + k + 1 by omega, List.take_succ_eq_append_getElem (by simp; omega), List.set_append_right _ _ (by simp [Nat.min_le_left])]
    simp only [List.length_take, Array.length_toList, Nat.min_eq_left (show off + k ≤ cs.size by omega), Nat.sub_self, Z5, List.append_assoc, Z23, Z12, Z9]
    rw [show off + k + 1 + l.length = off + k + (l.length + 1) by omega]
/-- Parts, as data and as values. -/
inductive PartsR (w : World) (S : Nat → Prop) (E : Env) : List (Nat × List C) → List (Nat × Value) → Prop
  | nil : PartsR w S E [] []
  | cons {i cs v ps vps} (h : Rep w S E (.vs cs v.cells.toList) []) (t : PartsR w S E ps vps) : PartsR w S E ((i, cs) :: ps) ((i, v) :: vps)
theorem fill_sound {place : Nat → Option (Nat × Nat)} : ∀ {ps : List (Nat × List C)} {vps : List (Nat × Value)} {cells cells' : List C} {arr : Array Value},
    Rep w S E (.vs cells arr.toList) [] → PartsR w S E ps vps → fillA place cells ps = some cells' →
    ∃ arr', Instr.fill place arr vps = some arr' ∧ Rep w S E (.vs cells' arr'.toList) [] ∧ cells'.length = cells.length
  | [], _, cells, cells', arr, h, hp, hf => by
    cases hp
    cases hf
    exact ⟨arr, rfl, h, rfl⟩
  | (i, cs) :: ps, _, cells, cells', arr, h, hp, hf => by
    cases hp with
    | cons hv h2 =>
      rename_i v vps
      simp only [fillA] at hf
      cases hpl : place i with
      | none => rw [hpl] at hf; cases hf
      | some os =>
        obtain ⟨off, size⟩ := os
        rw [hpl] at hf
        simp only at hf
        split at hf
        · rename_i hc
          have l1 := vs_len h
          have l2 := vs_len hv
          have := putCells_vs (c := off) h hv
          obtain ⟨arr', e1, e2, e3⟩ := fill_sound (arr := (arr.toList.take off ++ (v.cells.toList ++ arr.toList.drop (off + v.cells.toList.length))).toArray) (by simpa using this) h2 hf
          refine ⟨arr', ?_, e2, by rw [e3, putCells_len hc.2]⟩
          simp only [Instr.fill, hpl]
          have hs1 : v.cells.size = size := by rw [← hc.1]; simpa using l2.symm
          have hs2 : off + v.cells.size ≤ arr.size := by
            have := hc.2
            simp at l1 l2; omega
          rw [if_neg (by simp [hs1]; omega)]
          rw [← e1]
          congr 1
          have := foldl_set v.cells.toList 0 off arr (by simpa using hs2)
          simp only [Nat.add_zero] at this
          rw [← this, ← Array.foldl_toList]
          simp
        · cases hf
theorem parts_sound (hr : Rel g S E F A a w) : ∀ {parts : List (Nat × Operand)} {ps : List (Nat × List C)}, (∀ x ∈ parts, opdOK x.2 = true) → partsA A.ev A.H parts = some ps →
    PartsR w S E ps (parts.map fun x => (x.1, a.eval x.2)) ∧ (∀ x ∈ ps, x.2.all (C.st A.H) = true)
  | [], ps, _, h => by cases h; exact ⟨.nil, by simp⟩
  | (i, x) :: parts, ps, hok, h => by
    simp only [partsA] at h
    split at h
    · rename_i cs l h1 h2
      split at h
      · rename_i hst
        cases h
        obtain ⟨k1, k2⟩ := parts_sound hr (fun y hy => hok y (List.mem_cons_of_mem _ hy)) h2
        cases hx : A.ev x with
        | none => rw [hx] at h1; cases h1
        | some d =>
          rw [hx] at h1
          have hd := ev_rep hr (hok (i, x) (List.mem_cons_self ..)) hx
          refine ⟨.cons (cells_rep hd h1 hst hr) k1, ?_⟩
          intro y hy
          rcases List.mem_cons.1 hy with rfl | hy
          · exact hst
          · exact k2 y hy
      · cases h
    · cases h
theorem run_mapM_fields : ∀ (fs : List Field), (∀ f ∈ fs, tsz P f.type ≠ 0) → (fs.mapM (m := Sem) fun f => do pure (f.offset, ← sizeOf f.type)).run P w = .ok (fs.map fun f => (f.offset, tsz P f.type)) w
  | [], _ => by simp
  | f :: fs, h => by
    have h1 := h f (List.mem_cons_self ..)
    have ih := run_mapM_fields fs fun f hf => h f (List.mem_cons_of_mem _ hf)
    simp only [List.mapM_cons, Sem.run_bind, run_tsz' h1, Result.andThen_ok, Sem.run_pure, ih, Z24]
theorem build_sound (hr : Rel g S E F A a w) {t : TypeId} {parts : Array (Nat × Operand)} {d : D} (hok : ∀ x ∈ parts.toList, opdOK x.2 = true) (h : buildA P A.ev A.H t parts.toList = some d) :
    ∃ v, (Instr.build t (parts.map fun (i, x) => (i, a.eval x))).run P w = .ok v w ∧ RepD w S E d v := by
  unfold buildA at h
  split at h
  · rename_i z ps l hz hp hk
    split at h
    · rename_i hne
      cases hf : fillA (placeSt P l) z ps with
      | none => rw [hf] at h; cases h
      | some cells =>
        rw [hf] at h; cases h
        obtain ⟨v, z1, z2, z3⟩ := tz_some (P := P) (w := w) (S := S) (E := E) hz
        obtain ⟨p1, p2⟩ := parts_sound hr hok hp
        obtain ⟨arr, e1, e2, e3⟩ := fill_sound (w := w) (arr := v.cells) z2 p1 hf
        refine ⟨.agg arr, ?_, .agg e2⟩
        obtain ⟨td, hu, htd⟩ := tk_some hk
        cases td <;> simp [TK.of] at htd
        rename_i fs
        subst htd
        have hm : (fs.mapM (m := Sem) fun f => do pure (f.offset, ← sizeOf f.type)).run P w = .ok (fs.map fun f => (f.offset, tsz P f.type)) w := by
          have := run_mapM_fields (P := P) (w := w) fs.toList (by
            intro f hf
            have := List.all_eq_true.1 hne (f.type, f.offset) (List.mem_map.2 ⟨f, hf, rfl⟩)
            simpa using this)
          rw [Array.mapM_eq_mapM_toList]
          simp only [Sem.run_map, this, Result.andThen_ok]
          congr 1
          apply Array.toList_inj.1
          simp
        have hplace : (fun (x : Nat) => (fs.map fun f => (f.offset, tsz P f.type))[x]?) = placeSt P (fs.toList.map fun f => (f.type, f.offset)) := by
          funext i
          simp [placeSt, Option.map_map]
          rfl
        simp only [Instr.build, Sem.run_bind, z1, Result.andThen_ok, run_und hu, hm, hplace, Array.toList_map]
        rw [show (List.map (fun x : Nat × Operand => match x with | (i, x) => (i, a.eval x)) parts.toList) = parts.toList.map fun x => (x.1, a.eval x.2) from rfl, e1]
        simp
    · cases h
  · rename_i z ps n e hz hp hk
    split at h
    · rename_i hne
      cases hf : fillA (fun i => some (i * tsz P e, tsz P e)) z ps with
      | none => rw [hf] at h; cases h
      | some cells =>
        rw [hf] at h; cases h
        obtain ⟨v, z1, z2, z3⟩ := tz_some (P := P) (w := w) (S := S) (E := E) hz
        obtain ⟨p1, p2⟩ := parts_sound hr hok hp
        obtain ⟨arr, e1, e2, e3⟩ := fill_sound (w := w) (arr := v.cells) z2 p1 hf
        refine ⟨.agg arr, ?_, .agg e2⟩
        simp only [Instr.build, Sem.run_bind, z1, Result.andThen_ok, run_und (tk_arr hk), run_tsz' hne, Array.toList_map]
        rw [show (List.map (fun x : Nat × Operand => match x with | (i, x) => (i, a.eval x)) parts.toList) = parts.toList.map fun x => (x.1, a.eval x.2) from rfl, e1]
        simp
    · cases h
  · cases h
theorem box_sound (hr : Rel g S E F A a w) {cells : List C} {vs : List Value} {el : TypeId} {d : D} {H' : List (Option Root)} (hv : Rep w S E (.vs cells vs) []) (h : boxA A.H cells = some (d, H')) :
    ∃ E' F', Rel g S E' F' { A with H := H' } a (w.alloc (.cells vs.toArray el)) ∧ RepD (w.alloc (.cells vs.toArray el)) S E' d (.pointer (some ⟨w.heap.size, 0, none⟩)) := by
  unfold boxA at h
  split at h
  · cases h
    have hl := vs_len hv
    have := hr.newRoot (R := ⟨false, cells.length, [cells]⟩) (vs := vs) (extra := []) (el := el) (m := 1) (by simpa using hv) (by simp) (by simp) (by simp [hl]) (by simp)
    rw [List.append_nil] at this
    refine ⟨_, _, this, .c (.p ?_ ?_)⟩
    · have := this.lE; rw [this]; simp
    · intro pl hpl
      rw [← hr.lE, List.getElem?_append_right (Nat.le_refl _)] at hpl
      simp at hpl
      subst hpl
      exact ⟨w.heap.size, 0, rfl, by simp⟩
  · cases h
end
end Go.Dl

namespace Go.Dl
open Go.RowKit
/-- make: rows of zero values. -/
def makeA (P : Program) (H : List (Option Root)) (t : TypeId) (l c : Int) : Option (D × List (Option Root)) :=
  match tk P t with
  | some (.slice e) => match tz P e with
    | some z => if tsz P e ≠ 0 ∧ z.length = tsz P e ∧ 0 ≤ l ∧ l ≤ c ∧ P.bytesOf e * c ≤ 140737488355328 ∧ z.all C.dat = true ∧ c ≤ 9223372036854775807 then
        some (.c (.h H.length 0 l.toNat), H ++ [some ⟨true, tsz P e, List.replicate l.toNat z⟩]) else none
    | none => none
  | _ => none
section
variable {P : Program} {g : G} {S : Nat → Prop} {E : Env} {F : List (List Nat)} {A : St} {a : Act} {w : World}
theorem run_newRow (P : Program) (w : World) (e : TypeId) (cells : Array Value) : (newRow e cells).run P w = .ok ⟨w.heap.size, 0, none⟩ (w.alloc (.cells cells e)) := rfl
theorem map_range0 (f : Nat → Value) : (Array.range 0).map f = #[] := by
  rw [Array.map_eq_empty_iff]; rfl
theorem chop_spec (n : Nat) : ∀ (k : Nat) (cs : List C), cs.length = k * n → (chop n k cs).flatten = cs ∧ (∀ r ∈ chop n k cs, r.length = n) ∧ (chop n k cs).length = k
  | 0, cs, h => by
    have : cs = [] := List.eq_nil_of_length_eq_zero (by simpa using h)
    subst this
    simp [chop]
  | k + 1, cs, h => by
    rw [Nat.succ_mul] at h
    obtain ⟨h1, h2, h3⟩ := chop_spec n k (cs.drop n) (by rw [List.length_drop]; omega)
    refine ⟨by simp [chop, h1], ?_, by simp [chop, h3]⟩
    intro r hr
    rcases List.mem_cons.1 hr with rfl | hr
    · rw [List.length_take]; omega
    · exact h2 r hr
theorem reps_len {α : Type} : ∀ (n : Nat) (xs : List α), (reps n xs).length = n * xs.length
  | 0, _ => by simp [reps]
  | n + 1, xs => by simp [reps, reps_len n xs, Nat.succ_mul]; omega
theorem reps_get {α : Type} [Inhabited α] (xs : List α) (hx : 0 < xs.length) : ∀ (n i : Nat), i < n * xs.length → (reps n xs)[i]? = xs[i % xs.length]?
  | 0, i, h => by simp at h
  | n + 1, i, h => by
    rw [Nat.succ_mul] at h
    simp only [reps]
    by_cases hi : i < xs.length
    · rw [List.getElem?_append_left hi, Nat.mod_eq_of_lt hi]
    · rw [List.getElem?_append_right (by omega), reps_get xs hx n (i - xs.length) (by omega)]
      rw [Nat.mod_eq_sub_mod (a := i) (by omega)]
theorem range_reps (zero : Array Value) (hz : 0 < zero.size) (n : Nat) : ((Array.range (n * zero.size)).map (zero[· % zero.size]!)).toList = reps n zero.toList := by
  apply List.ext_getElem?
  intro i
  by_cases hi : i < n * zero.size
  · rw [reps_get zero.toList (by simpa using hz) n i (by simpa using hi)]
    have hm : i % zero.size < zero.size := Nat.mod_lt _ hz
    simp [hi, getElem!_pos, hm]
  · rw [List.getElem?_eq_none (by simp; omega), List.getElem?_eq_none (by rw [reps_len]; simp; omega)]
theorem vs_app : ∀ {xs ys : List C} {us ws : List Value}, Rep w S E (.vs xs us) [] → Rep w S E (.vs ys ws) [] → Rep w S E (.vs (xs ++ ys) (us ++ ws)) [] := by
  intro xs
  induction xs with
  | nil => intro ys us ws h1 h2; cases h1; exact h2
  | cons y xs ih =>
    intro ys us ws h1 h2
    generalize hfp : ([] : List Nat) = fp at h1
    cases h1 with
    | vcons k1 k2 =>
      obtain ⟨rfl, rfl⟩ := List.append_eq_nil_iff.1 hfp.symm
      exact .vcons (f1 := []) (f2 := []) k1 (ih k2 h2)
theorem reps_vs {z : List C} {zv : List Value} (h : Rep w S E (.vs z zv) []) : ∀ n, Rep w S E (.vs (reps n z) (reps n zv)) []
  | 0 => .vnil
  | n + 1 => vs_app h (reps_vs h n)
theorem replicate_flat (z : List C) : ∀ n, (List.replicate n z).flatten = reps n z
  | 0 => rfl
  | n + 1 => by simp [List.replicate_succ, reps, replicate_flat z n]
theorem buildSlice_sound (hr : Rel g S E F A a w) {t : TypeId} {len : Nat} {parts : Array (Nat × Operand)} {d : D} {H' : List (Option Root)} (hok : ∀ x ∈ parts.toList, opdOK x.2 = true)
    (h : buildSliceA P A.ev A.H t len parts.toList = some (d, H')) :
    ∃ v w' E' F', (Instr.buildSlice t len (parts.map fun (i, x) => (i, a.eval x))).run P w = .ok v w' ∧ Rel g S E' F' { A with H := H' } a w' ∧ RepD w' S E' d v := by
  unfold buildSliceA at h
  split at h
  · rename_i e hk
    split at h
    · rename_i z ps hz hp
      split at h
      · rename_i hc
        obtain ⟨c1, c2, c3⟩ := hc
        split at h
        · rename_i cs hf
          split at h
          · rename_i hdat
            cases h
            obtain ⟨v, z1, z2, z3⟩ := tz_some (P := P) (w := w) (S := S) (E := E) hz
            obtain ⟨p1, p2⟩ := parts_sound hr hok hp
            have hzs : v.cells.size = tsz P e := by omega
            have hz0 : 0 < v.cells.size := by omega
            have hrr : Rep w S E (.vs (reps len z) ((Array.range (len * tsz P e)).map (v.cells[· % v.cells.size]!)).toList) [] := by
              rw [← hzs, range_reps v.cells hz0]
              exact reps_vs z2 len
            obtain ⟨arr, e1, e2, e3⟩ := fill_sound (w := w) hrr p1 hf
            have hcl : cs.length = len * tsz P e := by rw [e3, reps_len, c2]
            obtain ⟨q1, q2, q3⟩ := chop_spec (tsz P e) len cs hcl
            have hal := vs_len e2
            have hrun : (Instr.buildSlice t len (parts.map fun (i, x) => (i, a.eval x))).run P w = .ok (.slice (some ⟨w.heap.size, 0, none⟩) len len) (w.alloc (.cells arr e)) := by
              have hlim : ¬ (len * tsz P e > 2 ^ 24) := by omega
              simp only [Instr.buildSlice, Sem.run_bind, run_und (tk_slice hk), Result.andThen_ok, run_tsz' c1, Sem.run_ite, if_neg hlim, Sem.run_pure]
              by_cases hl0 : len = 0
              · subst hl0
                simp only [Nat.zero_mul, if_true, Array.toList_map]
                simp only [Nat.zero_mul] at e1
                rw [show (List.map (fun x : Nat × Operand => match x with | (i, x) => (i, a.eval x)) parts.toList) = parts.toList.map fun x => (x.1, a.eval x.2) from rfl]
                rw [show Array.map (fun x => (#[] : Array Value)[x % (#[] : Array Value).size]!) (Array.range 0) = Array.map (fun x => v.cells[x % v.cells.size]!) (Array.range 0) by simp, e1]
                simp [run_newRow]
              · have : len * tsz P e ≠ 0 := Nat.mul_ne_zero hl0 c1
                simp only [if_neg this, z1, Result.andThen_ok, Array.toList_map]
                rw [show (List.map (fun x : Nat × Operand => match x with | (i, x) => (i, a.eval x)) parts.toList) = parts.toList.map fun x => (x.1, a.eval x.2) from rfl, e1]
                simp [run_newRow]
            have hnew := hr.newRoot (R := ⟨true, tsz P e, chop (tsz P e) len cs⟩) (vs := arr.toList) (extra := []) (el := e) (m := len) (by rw [q1]; exact e2) (by intro _; rw [q1]; exact hdat) q2 (by simp at hal; simp; omega) (by simp [q3])
            rw [List.append_nil] at hnew
            refine ⟨_, _, _, _, hrun, hnew, .c (.h ?_ ?_)⟩
            · have := hnew.lE; rw [this]; simp
            · intro pl hpl
              rw [← hr.lE, List.getElem?_append_right (Nat.le_refl _)] at hpl
              simp at hpl
              subst hpl
              exact ⟨by simp [q3], ⟨w.heap.size, 0, none⟩, len, rfl, Nat.le_refl _, by simp, .inr (by simp)⟩
          · cases h
        · cases h
      · cases h
    · cases h
  · cases h
theorem make_sound (hr : Rel g S E F A a w) {t : TypeId} {l c : Int} {k k' : IntKind} {d : D} {H' : List (Option Root)} (h : makeA P A.H t l c = some (d, H')) :
    ∃ v w' E' F', (Instr.makeSlice t (.int k l) (.int k' c)).run P w = .ok v w' ∧ Rel g S E' F' { A with H := H' } a w' ∧ RepD w' S E' d v := by
  unfold makeA at h
  split at h
  · rename_i e hk
    split at h
    · rename_i z hz
      split at h
      · rename_i hc
        obtain ⟨c1, c2, c3, c4, c5, c6, c7⟩ := hc
        cases h
        obtain ⟨i, hi⟩ := tsz_info c1
        obtain ⟨v, z1, z2, z3⟩ := tz_some (P := P) (w := w) (S := S) (E := E) hz
        have hzs : v.cells.size = tsz P e := by omega
        have hz0 : 0 < v.cells.size := by omega
        have hby : P.bytesOf e = i.bytes := by simp [Program.bytesOf, hi]
        rw [hby] at c5
        have w1 : IntKind.i64.wrap l = l := wrap_i64 l (by omega) (by omega)
        have w2 : IntKind.i64.wrap c = c := wrap_i64 c (by omega) (by omega)
        obtain ⟨ln, rfl⟩ := Int.eq_ofNat_of_zero_le c3
        obtain ⟨cn, rfl⟩ := Int.eq_ofNat_of_zero_le (show 0 ≤ c by omega)
        have hbig : ¬ ((i.bytes : Int) * (cn : Int) > 281474976710656) := by
          intro h; omega
        have hrun : (Instr.makeSlice t (.int k ln) (.int k' cn)).run P w = .ok (.slice (some ⟨w.heap.size, 0, none⟩) ln cn) (w.alloc (.cells ((Array.range (cn * tsz P e)).map (v.cells[· % v.cells.size]!)) e)) := by
          have hroom : (askRoom (cn * i.bytes)).run P w = .ok () w := by
            unfold askRoom; split
            · simp [mark, Sem.run]
            · rfl
          simp only [Instr.makeSlice, Sem.run_bind, run_und (tk_slice hk), Result.andThen_ok, asInt, asIntOf, Sem.run_pure, run_typeInfo w hi, w1, w2]
          have hcond : (decide ((cn : Int) < 0) || decide ((i.bytes : Int) * (cn : Int) > 2 ^ 48) || decide ((ln : Int) < 0) || decide ((ln : Int) > (cn : Int))) = false := by
            simp; omega
          simp only [hcond, Z7, if_false, Sem.run_bind, Int.toNat_natCast, hroom, Result.andThen_ok, run_tsz' c1, Sem.run_ite, Sem.run_pure]
          by_cases hl0 : cn * tsz P e = 0
          · rw [hl0]
            simp [run_newRow, map_range0]
          · simp only [if_neg hl0, z1, Result.andThen_ok]
            simp [run_newRow]
        have hsplit : ((Array.range (cn * tsz P e)).map (v.cells[· % v.cells.size]!)) = (reps ln v.cells.toList ++ reps (cn - ln) v.cells.toList).toArray := by
          apply Array.toList_inj.1
          rw [← hzs, range_reps v.cells hz0]
          have : ∀ (n m : Nat) (xs : List Value), reps (n + m) xs = reps n xs ++ reps m xs := by
            intro n m xs
            induction n with
            | zero => simp [reps]
            | succ n ih => rw [show n + 1 + m = (n + m) + 1 by omega]; simp [reps, ih]
          rw [← this, show ln + (cn - ln) = cn by omega]
        rw [hsplit] at hrun
        have hnew := hr.newRoot (R := ⟨true, tsz P e, List.replicate ln z⟩) (vs := reps ln v.cells.toList) (extra := reps (cn - ln) v.cells.toList) (el := e) (m := cn) (by rw [replicate_flat]; exact reps_vs z2 ln)
          (by
            intro _
            rw [replicate_flat]
            have : ∀ n, (reps n z).all C.dat = true := by
              intro n
              induction n with
              | zero => rfl
              | succ n ih => rw [reps, List.all_append, c6, ih]; rfl
            exact this ln)
          (by intro r hr'; rw [List.eq_of_mem_replicate hr', c2])
          (by
            rw [reps_len, reps_len, ← Nat.add_mul, show ln + (cn - ln) = cn by omega]
            simp only [Array.length_toList, hzs]
            exact Nat.le_refl _) (by simp; omega)
        refine ⟨_, _, _, _, hrun, hnew, .c (.h ?_ ?_)⟩
        · have := hnew.lE; rw [this]; simp
        · intro pl hpl
          rw [← hr.lE, List.getElem?_append_right (Nat.le_refl _)] at hpl
          simp at hpl
          subst hpl
          exact ⟨by simp, ⟨w.heap.size, 0, none⟩, cn, rfl, by omega, by simp, .inr (by simp)⟩
      · cases h
    · cases h
  · cases h
end
end Go.Dl

namespace Go.Dl
open Go.RowKit
def D.kill (r : Nat) (d : D) : D := if d.no r then d else .top
def C.kill (r : Nat) (c : C) : C := if c.no r then c else .x
def Root.kill (r : Nat) (R : Root) : Root := if R.dat then R else { R with rows := R.rows.map fun row => row.map (C.kill r) }
def killH (r : Nat) (H : List (Option Root)) : List (Option Root) := H.map fun o => o.map (Root.kill r)
def St.kill (r : Nat) (A : St) : St := ⟨A.sl.map (D.kill r), killH r A.H⟩
/-- No builder among the cells. -/
def C.nb : C → Bool
  | .b _ => false
  | _ => true
def rowsNB (rows : List (List C)) : Bool := rows.all fun row => row.all C.nb
theorem nb_map {α : Type} {f : α → List C} {l : List α} (h : ∀ x, (f x).all C.nb = true) : rowsNB (l.map f) = true := by
  simp only [rowsNB, List.all_map, List.all_eq_true, Function.comp]; intro x _ ; exact List.all_eq_true.1 (h x)
theorem nb_nil : rowsNB [] = true := rfl
theorem nb_cons {r : List C} {rs : List (List C)} : rowsNB (r :: rs) = (r.all C.nb && rowsNB rs) := rfl
theorem nb_app {a b : List (List C)} : rowsNB (a ++ b) = (rowsNB a && rowsNB b) := by simp [rowsNB]
theorem nb_flat {rows : List (List C)} (h : rowsNB rows = true) : rows.flatten.all C.nb = true := by
  rw [rowsNB, List.all_eq_true] at h
  rw [List.all_eq_true]
  intro c hc
  obtain ⟨row, h1, h2⟩ := List.mem_flatten.1 hc
  exact List.all_eq_true.1 (h row h1) c h2
theorem nb_sub {rows : List (List C)} (h : rowsNB rows = true) (l n : Nat) : rowsNB ((rows.drop l).take n) = true := by
  rw [rowsNB, List.all_eq_true] at *
  exact fun r hr => h r (List.mem_of_mem_drop (List.mem_of_mem_take hr))
theorem nb_cp {cs : List C} (h : cs.all C.cp = true) : cs.all C.nb = true := by
  rw [List.all_eq_true] at *
  intro c hc
  have := h c hc
  cases c <;> first | rfl | simp [C.cp] at this
/-- The rows of what is appended. -/
def srcRows (H : List (Option Root)) : D → Option (Nat × List (List C))
  | .c (.h r lo len) => match H[r]? with
    | some (some R) => if R.dat = true ∧ lo + len ≤ R.rows.length ∧ (((R.rows.drop lo).take len).all fun row => row.all C.cp) = true then some (R.es, (R.rows.drop lo).take len) else none
    | _ => none
  | .c (.s false es rows) => if rowsNB rows = true then some (es, rows) else none
  | .c (.v (.string s)) => some (1, s.data.toList.map fun b => [.v (.int .u8 b.toNat)])
  | _ => none
def srcOther (r : Nat) : D → Bool
  | .c (.h r' _ _) => r' != r
  | _ => true
def appendA (P : Program) (A : St) (t : TypeId) (d x : D) : Option (D × St) :=
  match tk P t with
  | some (.slice e) => match d, tz P e, srcRows A.H x with
    | .c (.h r lo len), some z, some (es, src) => match A.H[r]? with
      | some (some R) => if tsz P e = R.es ∧ es = R.es ∧ R.es ≠ 0 ∧ R.dat = true ∧ rowsNB R.rows = true ∧ z.length = R.es ∧ P.bytesOf e ≠ 0 ∧ (len + src.length) * P.bytesOf e ≤ 140737488355328 ∧ srcOther r x = true then
          some (.c (.h r 0 (len + src.length)), ⟨A.sl.map (D.kill r), (killH r A.H).set r (some { R with rows := (R.rows.drop lo).take len ++ src })⟩) else none
      | _ => none
    | _, _, _ => none
  | _ => none
section
variable {P : Program} {g : G} {S : Nat → Prop} {E : Env} {F : List (List Nat)} {A : St} {a : Act} {w : World}
theorem kill_rep {r : Nat} {c : C} {v : Value} {fp : List Nat} (h : Rep w S E (.k false c v) fp) : Rep w S E (.k false (c.kill r) v) fp := by
  unfold C.kill
  split
  · exact h
  · rename_i hn
    have : fp = [] := by
      cases h <;> first | rfl | (simp [C.no] at hn)
    subst this
    exact .x
theorem kill_l {r b : Nat} : ∀ {cs : List C} {off : Nat} {fp : List Nat}, Rep w S E (.l false cs b off) fp → Rep w S E (.l false (cs.map (C.kill r)) b off) fp := by
  intro cs
  induction cs with
  | nil => intro off fp h; cases h; exact .lnil
  | cons c cs ih =>
    intro off fp h
    cases h with
    | lcons hv h1 h2 => exact .lcons hv (kill_rep h1) (ih h2)
    | lb hv hz h0 h1 h2 => exact .lb hv hz h0 h1 (ih h2)
theorem kill_no (r : Nat) (c : C) : C.no r (c.kill r) = true := by
  unfold C.kill
  split
  · assumption
  · rfl
theorem kill_nos (r : Nat) : ∀ (cs : List C), C.nos r (cs.map (C.kill r)) = true
  | [] => rfl
  | c :: cs => by simp [C.nos, kill_no, kill_nos r cs]
theorem killD_no (r : Nat) (d : D) : D.no r (d.kill r) = true := by
  unfold D.kill
  split
  · assumption
  · rfl
theorem Rel.kill (hr : Rel g S E F A a w) (r : Nat) : Rel g S E F (A.kill r) a w := by
  refine { hr with len := by simp [St.kill, hr.len], sl := ?_, lE := by simp [St.kill, killH, hr.lE], lF := by simp [St.kill, killH, hr.lF], root := ?_, dead := ?_, fix := ?_ }
  · intro t d h
    simp only [St.kill, List.getElem?_map, Option.map_eq_some_iff] at h
    obtain ⟨d0, h1, rfl⟩ := h
    unfold D.kill
    split
    · exact hr.sl t d0 h1
    · exact .top
  · intro i R h
    simp only [St.kill, killH, List.getElem?_map, Option.map_eq_some_iff] at h
    obtain ⟨o, h1, h2⟩ := h
    obtain ⟨R0, rfl, rfl⟩ := h2
    obtain ⟨p, f, k1, k2, k3⟩ := hr.root i R0 h1
    refine ⟨p, f, k1, k2, ?_⟩
    unfold Root.kill
    split
    · exact k3
    · rename_i hd
      obtain ⟨g1, g2, g3, g4, g5⟩ := k3
      refine ⟨g1, by simp [g2], g3, ?_, ?_⟩
      · intro row hrow
        obtain ⟨row0, h3, rfl⟩ := List.mem_map.1 hrow
        simpa using g4 row0 h3
      · cases hat : p.at? with
        | none => rw [hat] at g5; obtain ⟨e1, e2, e3⟩ := g5; exact ⟨by simp [e1], e2, e3⟩
        | some bo =>
          obtain ⟨b, off⟩ := bo
          rw [hat] at g5
          obtain ⟨fr, e1, e2, e3⟩ := g5
          have hd' : R0.dat = false := by simpa using hd
          refine ⟨fr, e1, e2, ?_⟩
          rw [hd'] at e3
          simp only [hd']
          rw [← List.map_flatten]
          exact kill_l e3
  · intro i h
    simp only [St.kill, killH, List.getElem?_map, Option.map_eq_some_iff] at h
    obtain ⟨o, h1, h2⟩ := h
    cases o with
    | none => exact hr.dead i h1
    | some R => cases h2
  · intro i q hq
    obtain ⟨h1, h2⟩ := hr.fix i q hq
    refine ⟨by simpa [St.kill, killH] using h1, fun R0 h => ?_⟩
    simp only [St.kill, killH, List.getElem?_map, Option.map_eq_some_iff] at h
    obtain ⟨o, k1, k2⟩ := h
    obtain ⟨R1, rfl, rfl⟩ := k2
    obtain ⟨m1, m2⟩ := h2 R1 k1
    refine ⟨?_, m2⟩
    unfold Root.kill
    split
    · rename_i hd; rw [m1] at hd; cases hd
    · exact m1
theorem kill_free (A : St) (r : Nat) : Free (A.kill r) r := by
  refine ⟨?_, ?_⟩
  · intro t d h
    simp only [St.kill, List.getElem?_map, Option.map_eq_some_iff] at h
    obtain ⟨d0, _, rfl⟩ := h
    exact killD_no r d0
  · intro i R _ h
    simp only [St.kill, killH, List.getElem?_map, Option.map_eq_some_iff] at h
    obtain ⟨o, _, h2⟩ := h
    obtain ⟨R0, _, rfl⟩ := h2
    unfold Root.kill
    split
    · rename_i hd; simp [hd]
    · rw [← List.map_flatten, kill_nos]; simp
/-- Cells in memory, as values; the same values elsewhere are the same cells. -/
theorem Rep.vals {dat : Bool} {b off : Nat} : ∀ {cs : List C} {fp : List Nat}, Rep w S E (.l dat cs b off) fp → cs.all C.nb = true → ∃ vs : List Value, vs.length = cs.length ∧
    (∀ (j : Nat) (v : Value), vs[j]? = some v → w.cell? ⟨b, off + j, none⟩ = some v) ∧
    ∀ (w' : World) (b' off' : Nat), (∀ (j : Nat) (v : Value), vs[j]? = some v → w'.cell? ⟨b', off' + j, none⟩ = some v) → (∀ b, S b ∨ b ∈ fp → w'.heap[b]? = w.heap[b]?) → Rep w' S E (.l dat cs b' off') fp := by
  intro cs
  induction cs generalizing off with
  | nil => intro fp h _; cases h; exact ⟨[], rfl, by simp, fun _ _ _ _ _ => .lnil⟩
  | cons c cs ih =>
    intro fp h hnb
    simp only [Z16, Bool.and_eq_true] at hnb
    cases h with
    | lb => simp [C.nb] at hnb
    | lcons hv hc hr =>
      obtain ⟨vs, h1, h2, h3⟩ := ih hr hnb.2
      rename_i v f1 f2
      refine ⟨v :: vs, by simp [h1], ?_, ?_⟩
      · intro j u hj
        cases j with
        | zero => simp at hj; subst hj; exact hv
        | succ j => rw [show off + (j + 1) = off + 1 + j by omega]; exact h2 j u (by simpa using hj)
      · intro w' b' off' k1 k2
        refine .lcons (k1 0 v rfl) (hc.mono (fun _ h => h) (.refl _ _) ?_) (h3 w' b' (off' + 1) ?_ ?_)
        · intro b hb
          rcases hb with h | h | h
          · exact k2 b (.inl h)
          · exact k2 b (.inr (List.mem_append_left _ h))
          · cases h
        · intro j u hj
          rw [show off' + 1 + j = off' + (j + 1) by omega]
          exact k1 (j + 1) u (by simpa using hj)
        · intro b hb
          exact k2 b (hb.imp id fun h => List.mem_append_right _ h)
theorem cells_cp {dat : Bool} {b off : Nat} : ∀ {cs : List C} {fp : List Nat}, Rep w S E (.l dat cs b off) fp → cs.all C.cp = true → fp = [] := by
  intro cs
  induction cs generalizing off with
  | nil => intro fp h _; cases h; rfl
  | cons c cs ih =>
    intro fp h hc
    simp only [Z16, Bool.and_eq_true] at hc
    cases h with
    | lcons hv h1 h2 => rw [cp_fp h1 hc.1, ih h2 hc.2]; rfl
    | lb => simp [C.cp] at hc
/-- What is appended, as values. -/
theorem src_sound (hr : Rel g S E F A a w) {x : D} {vx : Value} {es : Nat} {src : List (List C)} (hx : RepD w S E x vx) (h : srcRows A.H x = some (es, src)) (hes : es ≠ 0) :
    ∃ news : List Value, (∀ r ∈ src, r.length = es) ∧ (Builtin.lenOf vx).run P w = .ok src.length w ∧ (Builtin.firstCells es src.length vx).run P w = .ok news.toArray w ∧ news.length = src.length * es ∧
      (∀ v ∈ news, v.oneCell' = true) ∧
      ∀ (w' : World) (b' off' : Nat), (∀ (j : Nat) (v : Value), news[j]? = some v → w'.cell? ⟨b', off' + j, none⟩ = some v) → (∀ b, S b → w'.heap[b]? = w.heap[b]?) → Rep w' S E (.l true src.flatten b' off') [] := by
  have fromMem : ∀ (b off cap : Nat) (src : List (List C)), (∀ r ∈ src, r.length = es) → rowsNB src = true → Rep w S E (.l true src.flatten b off) [] →
      ∃ news : List Value, (∀ r ∈ src, r.length = es) ∧ (Builtin.lenOf (.slice (some ⟨b, off, none⟩) src.length cap)).run P w = .ok src.length w ∧
        (Builtin.firstCells es src.length (.slice (some ⟨b, off, none⟩) src.length cap)).run P w = .ok news.toArray w ∧ news.length = src.length * es ∧ (∀ v ∈ news, v.oneCell' = true) ∧
      ∀ (w' : World) (b' off' : Nat), (∀ (j : Nat) (v : Value), news[j]? = some v → w'.cell? ⟨b', off' + j, none⟩ = some v) → (∀ b, S b → w'.heap[b]? = w.heap[b]?) → Rep w' S E (.l true src.flatten b' off') [] := by
    intro b off cap src hl hnb hrep
    obtain ⟨vs, h1, h2, h3⟩ := hrep.vals (nb_flat hnb)
    rw [flatten_len hl] at h1
    refine ⟨vs, hl, by simp [Builtin.lenOf], ?_, h1, ?_, fun w' b' off' k1 k2 => h3 w' b' off' k1 (fun b hb => k2 b (hb.elim id (fun h => by cases h)))⟩
    · exact run_firstCells_some w es src.length ⟨b, off, none⟩ src.length cap vs h1 (fun j v hj => by rw [addr_add]; exact h2 j v hj)
    · intro v hv
      obtain ⟨j, hj⟩ := List.getElem?_of_mem hv
      have hj' := lt_len hj
      obtain ⟨u, fp', k1, k2', _, _⟩ := hrep.at j (src.flatten[j]'(by rw [flatten_len hl]; omega)) (List.getElem?_eq_getElem _)
      have := h2 j v hj
      rw [this] at k1
      cases k1
      have k2 := k2' (fun T hb => by
        have := List.all_eq_true.1 (nb_flat hnb) _ (List.getElem_mem (l := src.flatten) (n := j) (by rw [flatten_len hl]; omega))
        rw [hb] at this; cases this)
      refine k2.one ?_ ?_ ?_
      · intro hh; rw [hh] at k2; cases k2
      · intro r lo len hh; rw [hh] at k2; cases k2
      · intro r e k hh; rw [hh] at k2; cases k2
  have nilCase : ∀ (ad : Option Addr) (cap : Nat), ∃ news : List Value, (∀ r ∈ ([] : List (List C)), r.length = es) ∧ (Builtin.lenOf (.slice ad 0 cap)).run P w = .ok ([] : List (List C)).length w ∧
        (Builtin.firstCells es ([] : List (List C)).length (.slice ad 0 cap)).run P w = .ok news.toArray w ∧ news.length = ([] : List (List C)).length * es ∧ (∀ v ∈ news, v.oneCell' = true) ∧
      ∀ (w' : World) (b' off' : Nat), (∀ (j : Nat) (v : Value), news[j]? = some v → w'.cell? ⟨b', off' + j, none⟩ = some v) → (∀ b, S b → w'.heap[b]? = w.heap[b]?) → Rep w' S E (.l true ([] : List (List C)).flatten b' off') [] := by
    intro ad cap
    refine ⟨[], by simp, by simp [Builtin.lenOf], ?_, by simp, by simp, fun _ _ _ _ _ => .lnil⟩
    cases ad <;> simp [Builtin.firstCells, loadCells, loadCellsFrom]
  unfold srcRows at h
  split at h
  · rename_i r lo len
    split at h
    · rename_i R hR
      split at h
      · rename_i hc
        obtain ⟨c1, c2, c3⟩ := hc
        cases h
        obtain ⟨p, f, h1, h2, h3, h4⟩ := handle_live hr hR hx
        obtain ⟨g1, g2, g3, g4, g5⟩ := h3
        obtain ⟨k1, k2⟩ := h4
        have hlen : ((R.rows.drop lo).take len).length = len := by rw [List.length_take, List.length_drop]; omega
        cases hat : p.at? with
        | none =>
          rw [hat] at k2 g5
          obtain ⟨ad, rfl⟩ := k2
          obtain ⟨e1, _, _⟩ := g5
          have : len = 0 := by rw [e1] at g2; simp at g2; omega
          subst this
          simp only [Z20]
          exact nilCase ad 0
        | some bo =>
          obtain ⟨b, off⟩ := bo
          rw [hat] at k2 g5
          obtain ⟨ad, cap, rfl, q2, q3, q4⟩ := k2
          obtain ⟨fr, _, _, hrep⟩ := g5
          by_cases hl0 : len = 0
          · subst hl0
            simp only [Z20]
            exact nilCase (some ad) cap
          · have had : ad = ⟨b, off + lo * p.es, none⟩ := by
              rcases q4 with q4 | q4
              · omega
              · exact q4
            subst had
            rw [c1] at hrep
            obtain ⟨f1, f2, f3, hff, hr2⟩ := flatten_sub g4 hrep lo len (by omega)
            have hf2 : f2 = [] := by
              refine cells_cp hr2 ?_
              rw [List.all_eq_true]
              intro c hcm
              obtain ⟨row, hrow, hcr⟩ := List.mem_flatten.1 hcm
              exact List.all_eq_true.1 (List.all_eq_true.1 c3 row hrow) c hcr
            subst hf2
            have hnb : rowsNB ((R.rows.drop lo).take len) = true := by
              rw [rowsNB, List.all_eq_true]; exact fun row hrow => nb_cp (List.all_eq_true.1 c3 row hrow)
            have := fromMem b (off + lo * R.es) cap ((R.rows.drop lo).take len) (fun r hr => g4 r (List.mem_of_mem_drop (List.mem_of_mem_take hr))) hnb hr2
            rw [hlen] at this ⊢
            rw [g1]
            exact this
      · cases h
    · cases h
  · rename_i es' rows
    split at h
    · rename_i hnb
      cases h
      cases hx with
      | c h => cases h with
        | nilI => exact nilCase _ _
        | imm hS hcap hl hrep => exact fromMem _ _ _ _ hl hnb hrep
    · cases h
  · rename_i s
    cases h
    obtain ⟨rfl, hs⟩ := str_inv hx
    have hsz : (s.data.toList.map fun b => [C.v (.int .u8 b.toNat)]).length = s.size := by simp
    refine ⟨s.data.toList.map fun b => .int .u8 b.toNat, ?_, ?_, ?_, ?_, ?_, ?_⟩
    · intro r hr
      obtain ⟨b, _, rfl⟩ := List.mem_map.1 hr
      rfl
    · rw [hsz]; simp [Builtin.lenOf]
    · rw [hsz]
      simp only [Builtin.firstCells, Sem.run_pure]
      congr 1
      apply Array.toList_inj.1
      have : (s.extract 0 s.size).data = s.data := by
        rw [ByteArray.extract_zero_size]
      rw [Array.toList_map, this]
    · simp
    · intro v hv
      obtain ⟨b, _, rfl⟩ := List.mem_map.1 hv
      rfl
    · intro w' b' off' k1 k2
      have hfl : (s.data.toList.map fun b => [C.v (.int .u8 b.toNat)]).flatten = s.data.toList.map fun b => C.v (.int .u8 b.toNat) := by
        induction s.data.toList with
        | nil => rfl
        | cons x xs ih => simp at ih ⊢; exact ih
      rw [hfl]
      refine rep_new (vs := s.data.toList.map fun b => .int .u8 b.toNat) ?_ ?_ k1
      · clear k1 hfl hsz hs hx
        induction s.data.toList with
        | nil => exact .vnil
        | cons x xs ih =>
          refine .vcons (f1 := []) (f2 := []) (.v ?_) ih
          have := x.toNat_lt
          simp [Sc, inR]; omega
      · intro _
        rw [List.all_eq_true]
        intro c hc
        obtain ⟨b, _, rfl⟩ := List.mem_map.1 hc
        rfl
  · cases h
end
end Go.Dl

namespace Go.Dl
open Go.RowKit
section
variable {P : Program} {g : G} {S : Nat → Prop} {E : Env} {F : List (List Nat)} {A : St} {a : Act} {w : World}
theorem nodup_at {F : List (List Nat)} {r : Nat} {f : List Nat} (hn : F.flatten.Nodup) (h : F[r]? = some f) : f.Nodup := by
  obtain ⟨xs', ys', q1, _⟩ := flatten_set (f' := []) h
  rw [q1] at hn
  exact (List.nodup_append.1 (List.nodup_append.1 hn).2.1).1
/-- The room is there: what is behind the row's end is written. -/
theorem append_room {r : Nat} (hr : Rel g S E F A a w) (hfree : Free A r) {lo len cap b off : Nat} {R : Root} {p : Pl} {f : List Nat} {src : List (List C)} {news : List Value} (hR : A.H[r]? = some (some R)) (hd : R.dat = true)
    (hE : E[r]? = some (some p)) (hF : F[r]? = some f) (hat : p.at? = some (b, off)) (hroot : RootAt w S E R p f) (hlo : lo + len ≤ p.n) (hcap : lo + cap ≤ p.m) (hfit : len + src.length ≤ cap)
    (hl : ∀ r ∈ src, r.length = R.es) (hnl : news.length = src.length * R.es) (hone : ∀ v ∈ news, v.oneCell' = true)
    (hrep : ∀ (w' : World) (b' off' : Nat), (∀ (j : Nat) (v : Value), news[j]? = some v → w'.cell? ⟨b', off' + j, none⟩ = some v) → (∀ b, S b → w'.heap[b]? = w.heap[b]?) → Rep w' S E (.l true src.flatten b' off') []) :
    ∃ E' F', (storeCells ⟨b, off + (lo + len) * R.es, none⟩ news).run P w = .ok () (w.setCells b (off + (lo + len) * R.es) news) ∧
      Rel g S E' F' { A with H := A.H.set r (some { R with rows := (R.rows.drop lo).take len ++ src }) } a (w.setCells b (off + (lo + len) * R.es) news) ∧
      E'[r]? = some (some ⟨some (b, off + lo * R.es), R.es, len + src.length, cap⟩) := by
  obtain ⟨g1, g2, g3, g4, g5⟩ := hroot
  rw [hat] at g5
  obtain ⟨fr, rfl, hown, hrow⟩ := g5
  have hbS : ¬ S b := hr.fS b (flat_get hF b (List.mem_cons_self ..))
  have hnd := nodup_at hr.nodup hF
  have hbfr : b ∉ fr := (List.nodup_cons.1 hnd).1
  obtain ⟨arr, el, z, k1, k2, k3⟩ := hown
  have hm1 : (lo + cap) * R.es ≤ p.m * R.es := Nat.mul_le_mul_right _ hcap
  have hm2 : (lo + (len + src.length)) * R.es ≤ (lo + cap) * R.es := Nat.mul_le_mul_right _ (by omega)
  have hm3 : (lo + (len + src.length)) * R.es = (lo + len) * R.es + src.length * R.es := by rw [← Nat.add_assoc, Nat.add_mul]
  have hcell : ∀ j, j < news.length → (w.cell? ⟨b, off + (lo + len) * R.es + j, none⟩).isSome = true := by
    intro j hj
    simp only [World.cell?, k1]
    have : off + (lo + len) * R.es + j < arr.size := by omega
    simp [this]
  have hst := run_storeCells_cells (P := P) b (off + (lo + len) * R.es) news 0 w (fun j hj => by rw [Nat.add_zero]; exact hcell j hj)
    (fun j hj => by rw [Nat.add_zero]; exact k3 _ (by omega)) hone
  rw [Nat.add_zero] at hst
  have hheap : ∀ b', b' ≠ b → (w.setCells b (off + (lo + len) * R.es) news).heap[b']? = w.heap[b']? := fun b' h => heap_setCells b news _ w b' h
  obtain ⟨z1, z2, z3, z4⟩ := size_setCells b news (off + (lo + len) * R.es) w
  rw [hd] at hrow
  obtain ⟨f1, f2, f3, hff, hkeep⟩ := flatten_sub g4 hrow lo len (by omega)
  have hkl : ∀ r ∈ (R.rows.drop lo).take len, r.length = R.es := fun r hr => g4 r (List.mem_of_mem_drop (List.mem_of_mem_take hr))
  have hklen : ((R.rows.drop lo).take len).length = len := by rw [List.length_take, List.length_drop]; omega
  have hnew : Rep (w.setCells b (off + (lo + len) * R.es) news) S E (.l true ((R.rows.drop lo).take len ++ src).flatten b (off + lo * R.es)) (f2 ++ []) := by
    rw [List.flatten_append]
    refine Rep.join (hkeep.congr (fun _ _ _ h => shape_setCells b news _ w h) ?_ ?_) ?_
    · intro j hj
      rw [flatten_len hkl, hklen] at hj
      have : (lo + len) * R.es = lo * R.es + len * R.es := Nat.add_mul ..
      exact World.cell?_setCells_out b news _ w _ (fun _ _ => .inl (show off + lo * R.es + j < off + (lo + len) * R.es by omega))
    · intro b' hb'
      refine hheap b' (fun h => ?_)
      subst h
      rcases hb' with h | h
      · exact hbS h
      · exact hbfr (by rw [hff]; exact List.mem_append_right _ (List.mem_append_left _ h))
    · rw [flatten_len hkl, hklen]
      refine hrep _ _ _ ?_ (fun b' hb' => hheap b' (fun h => by subst h; exact hbS hb'))
      intro j v hj
      have := World.cell?_setCells_in b news (off + (lo + len) * R.es) w hcell j (lt_len hj)
      rw [show off + lo * R.es + len * R.es + j = off + (lo + len) * R.es + j by rw [Nat.add_mul]; omega, this]
      rw [List.getElem?_eq_getElem (lt_len hj)] at hj
      exact hj
  rw [List.append_nil] at hnew
  have hE' : EnvLe E (E.set r (some ⟨some (b, off + lo * R.es), R.es, len + src.length, cap⟩)) (fun _ => true) := envLe_set hE (.inl rfl)
  have hres := hr.setRoot (w' := w.setCells b (off + (lo + len) * R.es) news) (R' := { R with rows := (R.rows.drop lo).take len ++ src }) (p' := ⟨some (b, off + lo * R.es), R.es, len + src.length, cap⟩) (f' := b :: f2) hR hE hF
    (fun b' hb' => hheap b' (fun h => by subst h; exact hbS hb'))
    (fun b' _ hb' => hheap b' (fun h => by subst h; exact hb' (List.mem_cons_self ..)))
    (fun b' hb1 hb2 => hheap b' (fun h => by
      subst h
      rcases (hr.fsz b' (flat_get hF b' (List.mem_cons_self ..))).2 with h | h
      · exact hb2 h
      · omega))
    (by rw [z1]; exact Nat.le_refl _) z2 z3 z4 ?_ ?_ ?_ (.inr hfree) rfl (fun h => by rw [hd] at h; cases h)
  · exact ⟨_, _, hst, hres, by rw [List.getElem?_set_self (lt_len hE)]⟩
  · refine ⟨rfl, by rw [List.length_append, hklen], hfit, ?_, f2, rfl, ?_, ?_⟩
    · intro r' hr'
      rcases List.mem_append.1 hr' with h | h
      · exact hkl r' h
      · exact hl r' h
    · refine own_setCells b _ _ w ⟨arr, el, z, k1, ?_, k3⟩
      show off + lo * R.es + cap * R.es ≤ arr.size
      rw [Nat.add_mul] at hm1; omega
    · rw [hd]
      exact hnew.mono (fun _ h => h) ⟨hE'.1, fun i hi h q hq => by simp [It.no] at h⟩ (fun _ _ => rfl)
  · rw [hff] at hnd
    have n1 := List.nodup_cons.1 hnd
    refine List.nodup_cons.2 ⟨fun h => n1.1 (List.mem_append_right _ (List.mem_append_left _ h)), (List.nodup_append.1 (List.nodup_append.1 n1.2).2.1).1⟩
  · intro b' hb'
    have hmem : b' ∈ b :: fr := by
      rcases List.mem_cons.1 hb' with h | h
      · rw [h]; exact List.mem_cons_self ..
      · rw [hff]; exact List.mem_cons_of_mem _ (List.mem_append_right _ (List.mem_append_left _ h))
    exact ⟨.inl hmem, by rw [z1]; exact (hr.fsz b' (flat_get hF b' hmem)).1⟩
/-- A row moves into a new block, with more behind it. -/
theorem append_move {r : Nat} (hr : Rel g S E F A a w) (hfree : Free A r) {lo len : Nat} {R : Root} {p : Pl} {f : List Nat} {src : List (List C)} {news olds rest : List Value} {el : TypeId} {m : Nat} (hR : A.H[r]? = some (some R)) (hd : R.dat = true)
    (hE : E[r]? = some (some p)) (hF : F[r]? = some f) (hkl : ∀ r ∈ (R.rows.drop lo).take len, r.length = R.es) (hklen : ((R.rows.drop lo).take len).length = len) {f2 : List Nat} (hf2 : ∀ x ∈ f2, x ∈ f) (hf2n : f2.Nodup)
    (hol : olds.length = len * R.es) (hold : ∀ (w' : World) (b' off' : Nat), (∀ (j : Nat) (v : Value), olds[j]? = some v → w'.cell? ⟨b', off' + j, none⟩ = some v) → (∀ b, S b ∨ b ∈ f2 → w'.heap[b]? = w.heap[b]?) → Rep w' S E (.l true ((R.rows.drop lo).take len).flatten b' off') f2)
    (hl : ∀ r ∈ src, r.length = R.es) (hnl : news.length = src.length * R.es) (hm : len + src.length ≤ m) (hrl : m * R.es ≤ olds.length + news.length + rest.length)
    (hrep : ∀ (w' : World) (b' off' : Nat), (∀ (j : Nat) (v : Value), news[j]? = some v → w'.cell? ⟨b', off' + j, none⟩ = some v) → (∀ b, S b → w'.heap[b]? = w.heap[b]?) → Rep w' S E (.l true src.flatten b' off') []) :
    ∃ E' F', Rel g S E' F' { A with H := A.H.set r (some { R with rows := (R.rows.drop lo).take len ++ src }) } a (w.alloc (.cells (olds ++ news ++ rest).toArray el)) ∧
      E'[r]? = some (some ⟨some (w.heap.size, 0), R.es, len + src.length, m⟩) := by
  have hheap : ∀ b, b < w.heap.size → (w.alloc (.cells (olds ++ news ++ rest).toArray el)).heap[b]? = w.heap[b]? := fun b hb => heap_alloc_lt w _ hb
  have hnew : (w.alloc (.cells (olds ++ news ++ rest).toArray el)).heap[w.heap.size]? = some (.cells (olds ++ news ++ rest).toArray el) := heap_alloc_new w _
  have hSlt : ∀ b, S b → b < w.heap.size := fun b h => (hr.Ssz b h).1
  have hflt : ∀ b, b ∈ f → b < w.heap.size := fun b h => (hr.fsz b (flat_get hF b h)).1
  have hcell : ∀ (j : Nat) (v : Value), (olds ++ news)[j]? = some v → (w.alloc (.cells (olds ++ news ++ rest).toArray el)).cell? ⟨w.heap.size, j, none⟩ = some v := by
    intro j v hj
    simp only [World.cell?, hnew]
    rw [List.getElem?_toArray, List.getElem?_append_left (lt_len hj), hj]
    simp
  have hE' : EnvLe E (E.set r (some ⟨some (w.heap.size, 0), R.es, len + src.length, m⟩)) (fun _ => true) := envLe_set hE (.inl rfl)
  have hres := hr.setRoot (w' := w.alloc (.cells (olds ++ news ++ rest).toArray el)) (R' := { R with rows := (R.rows.drop lo).take len ++ src }) (p' := ⟨some (w.heap.size, 0), R.es, len + src.length, m⟩) (f' := w.heap.size :: f2) hR hE hF
    (fun b' hb' => hheap b' (hSlt b' hb'))
    (fun b' hb' _ => hheap b' (hr.fsz b' hb').1)
    (fun b' hb1 hb2 => hheap b' (Nat.lt_of_lt_of_le hb1 hr.size))
    (by simp) rfl rfl (.rf _) ?_ ?_ ?_ (.inr hfree) rfl (fun h => by rw [hd] at h; cases h)
  · exact ⟨_, _, hres, by rw [List.getElem?_set_self (lt_len hE)]⟩
  · refine ⟨rfl, by rw [List.length_append, hklen], hm, ?_, f2, rfl, ?_, ?_⟩
    · intro r' hr'
      rcases List.mem_append.1 hr' with h | h
      · exact hkl r' h
      · exact hl r' h
    · refine ⟨_, el, (0, 0), hnew, ?_, fun o ho => ?_⟩
      · simp at hrl ⊢; omega
      · simp only [World.frozen?, hnew]
        simp
    · rw [hd]
      have : Rep (w.alloc (.cells (olds ++ news ++ rest).toArray el)) S E (.l true ((R.rows.drop lo).take len ++ src).flatten w.heap.size 0) (f2 ++ []) := by
        rw [List.flatten_append]
        refine Rep.join (hold _ _ _ ?_ ?_) ?_
        · intro j v hj
          rw [Nat.zero_add]
          exact hcell j v (by rw [List.getElem?_append_left (lt_len hj)]; exact hj)
        · intro b hb
          exact hheap b (hb.elim (hSlt b) (fun h => hflt b (hf2 b h)))
        · rw [flatten_len hkl, hklen]
          refine hrep _ _ _ ?_ (fun b hb => hheap b (hSlt b hb))
          intro j v hj
          rw [Nat.zero_add]
          refine hcell _ v ?_
          rw [List.getElem?_append_right (by omega), hol, Nat.add_sub_cancel_left]; exact hj
      rw [List.append_nil] at this
      exact this.mono (fun _ h => h) ⟨hE'.1, fun i hi h q hq => by simp [It.no] at h⟩ (fun _ _ => rfl)
  · exact List.nodup_cons.2 ⟨fun h => Nat.lt_irrefl _ (hflt _ (hf2 _ h)), hf2n⟩
  · intro b' hb'
    rcases List.mem_cons.1 hb' with h | h
    · subst h; exact ⟨.inr (Nat.le_refl _), by simp⟩
    · exact ⟨.inl (hf2 b' h), by simp; exact Nat.lt_succ_of_lt (hflt b' (hf2 b' h))⟩
theorem zeroCells_len (z : Array Value) (n : Nat) : (Builtin.zeroCells z n).size = n * z.size := by simp [Builtin.zeroCells]
theorem append_sound (hr : Rel g S E F A a w) {t xt ty : TypeId} {d x d' : D} {v vx : Value} {A' : St} {xd : TypeDesc} (hxt : P.underlying xt = some xd) (hxd : xd = .string ∨ ∃ e', xd = .slice e') (hd : RepD w S E d v) (hx : RepD w S E x vx)
    (h : appendA P A t d x = some (d', A')) :
    ∃ v' w' E' F', (Builtin.append_ #[t, xt] ty #[v, vx]).run P w = .ok v' w' ∧ Rel g S E' F' A' a w' ∧ RepD w' S E' d' v' := by
  unfold appendA at h
  split at h
  · rename_i e hk
    split at h
    · rename_i r lo len z es src hz hsrc
      split at h
      · rename_i R hR
        split at h
        · rename_i hc
          obtain ⟨c1, c2, c3, c4, cnb, c5, c6, c7, c8⟩ := hc
          cases h
          subst c2
          obtain ⟨p, f, h1, h2, h3, h4⟩ := handle_live hr hR hd
          obtain ⟨news, s1, s2, s3, s4, s5, s6⟩ := src_sound (P := P) hr hx hsrc c3
          have hr1 := hr.kill r
          have hfree := kill_free A r
          have hR1 : (A.kill r).H[r]? = some (some R) := by
            simp only [St.kill, killH, List.getElem?_map, hR, Z4, Root.kill, c4, if_true]
          have hroot := h3
          obtain ⟨g1, g2, g3, g4, g5⟩ := h3
          obtain ⟨k1, k2⟩ := h4
          have hzs : tsz P e ≠ 0 := by omega
          obtain ⟨i, hi⟩ := tsz_info hzs
          have hby : i.bytes = P.bytesOf e := by simp [Program.bytesOf, hi]
          have hsz : (sizeOf e).run P w = .ok R.es w := by rw [run_tsz' hzs, c1]
          have hlo : lo + len ≤ R.rows.length := by omega
          have hkl : ∀ r ∈ (R.rows.drop lo).take len, r.length = R.es := fun r hr => g4 r (List.mem_of_mem_drop (List.mem_of_mem_take hr))
          have hklen : ((R.rows.drop lo).take len).length = len := by rw [List.length_take, List.length_drop]; omega
          -- the value; the room
          have hval : ∃ base cap, v = .slice base len cap ∧ len ≤ cap := by
            cases hat : p.at? with
            | none =>
              rw [hat] at k2 g5
              obtain ⟨ad, rfl⟩ := k2
              obtain ⟨q1, _, _⟩ := g5
              have : len = 0 := by rw [q1] at hlo; simp at hlo; omega
              subst this; exact ⟨_, _, rfl, Nat.le_refl _⟩
            | some bo => rw [hat] at k2; obtain ⟨ad, cap, rfl, q2, _⟩ := k2; exact ⟨_, _, rfl, q2⟩
          obtain ⟨base, cap, rfl, hlc⟩ := hval
          by_cases hfit : len + src.length ≤ cap
          · -- in place
            have hrun : ∀ w', (∀ ad, base = some ad → (storeCells (ad.add (len * R.es)) news).run P w = .ok () w') → (base = none → w' = w) →
                (Builtin.append_ #[t, xt] ty #[.slice base len cap, vx]).run P w = .ok (.slice base (len + src.length) cap) w' := by
              intro w' hs hn
              rcases hxd with rfl | ⟨e', rfl⟩ <;>
              · simp only [Builtin.append_, Z22, Z1, Z2, Sem.run_bind, run_und (tk_slice hk), Result.andThen_ok, hsz, run_und hxt, Sem.run_pure,
                  Bool.false_eq_true, if_false, s2, Sem.run_ite, if_pos hfit, Bool.not_false, if_true, s3]
                cases base with
                | none => simp [hn rfl]
                | some ad => simp [hs ad rfl]
            by_cases hn0 : len + src.length = 0
            · -- nothing at all
              have hl0 : len = 0 := by omega
              have hs0 : src.length = 0 := by omega
              have hsrc0 : src = [] := List.eq_nil_of_length_eq_zero hs0
              have hnews0 : news = [] := List.eq_nil_of_length_eq_zero (by rw [s4, hs0, Nat.zero_mul])
              subst hl0 hsrc0 hnews0
              have hrun' := hrun w (fun ad _ => by simp [storeCells]) (fun _ => rfl)
              cases hat : p.at? with
              | none =>
                rw [hat] at k2 g5
                obtain ⟨ad, hv⟩ := k2
                obtain ⟨q1, q2, q3⟩ := g5
                have hres := hr1.setRoot (w' := w) (R' := { R with rows := (R.rows.drop lo).take 0 ++ [] }) (p' := p) (f' := f) hR1 h1 h2 (fun _ _ => rfl) (fun _ _ _ => rfl) (fun _ _ _ => rfl) (Nat.le_refl _) rfl rfl (.rf _)
                  ⟨g1, by rw [g2, q1]; simp, g3, by simp, by rw [hat]; exact ⟨by simp, q2, q3⟩⟩ (nodup_at hr.nodup h2) (fun b hb => ⟨.inl hb, (hr.fsz b (flat_get h2 b hb)).1⟩) (.inl p.le_refl) rfl (fun _ => p.le_refl)
                refine ⟨_, _, _, _, hrun', hres, .c (.h (by simp; exact lt_len h1) ?_)⟩
                intro pl hpl
                rw [List.getElem?_set_self (lt_len h1)] at hpl
                cases hpl
                refine ⟨by omega, ?_⟩
                rw [hat]
                exact ⟨ad, by simpa using hv⟩
              | some bo =>
                obtain ⟨b, off⟩ := bo
                rw [hat] at k2 g5
                obtain ⟨ad, cap', hv, q2, q3, q4⟩ := k2
                cases hv
                obtain ⟨fr, e1, e2, e3⟩ := g5
                have hres := hr1.setRoot (w' := w) (R' := { R with rows := (R.rows.drop lo).take 0 ++ [] }) (p' := if cap = 0 then ⟨none, R.es, 0, 0⟩ else ⟨some (b, off + lo * R.es), R.es, 0, cap⟩) (f' := if cap = 0 then [] else [b]) hR1 h1 h2 (fun _ _ => rfl) (fun _ _ _ => rfl) (fun _ _ _ => rfl) (Nat.le_refl _) rfl rfl (.rf _)
                  (by
                    by_cases hcap0 : cap = 0
                    · simp only [hcap0, if_true]
                      exact ⟨rfl, by simp, Nat.le_refl _, by simp, by simp, rfl, rfl⟩
                    · simp only [if_neg hcap0]
                      refine ⟨rfl, by simp, Nat.zero_le _, by simp, [], rfl, ?_, by simpa using (Rep.lnil (w := w) (S := S))⟩
                      obtain ⟨arr, el, zz, m1, m2, m3⟩ := e2
                      refine ⟨arr, el, zz, m1, ?_, m3⟩
                      show off + lo * R.es + cap * R.es ≤ arr.size
                      have := Nat.mul_le_mul_right R.es q3
                      rw [Nat.add_mul] at this; omega)
                  (by split <;> simp) (by
                    intro b' hb'
                    split at hb'
                    · cases hb'
                    · simp at hb'
                      subst hb'
                      exact ⟨.inl (by rw [e1]; exact List.mem_cons_self ..), (hr.fsz b' (flat_get h2 b' (by rw [e1]; exact List.mem_cons_self ..))).1⟩) (.inr hfree) rfl (fun h => by rw [c4] at h; cases h)
                refine ⟨_, _, _, _, hrun', hres, .c (.h (by simp; exact lt_len h1) ?_)⟩
                intro pl hpl
                rw [List.getElem?_set_self (lt_len h1)] at hpl
                cases hpl
                by_cases hcap0 : cap = 0
                · subst hcap0
                  simp only [if_true]
                  exact ⟨by simp, some ad, by simp⟩
                · simp only [if_neg hcap0]
                  refine ⟨by simp, ad, cap, by simp, by omega, by simp, .inr ?_⟩
                  rcases q4 with q4 | q4
                  · omega
                  · rw [q4, g1]; simp
            · -- there is something: the block is known
              have hcap0 : cap ≠ 0 := by omega
              cases hat : p.at? with
              | none =>
                rw [hat] at k2
                obtain ⟨ad, hv⟩ := k2
                cases hv
                omega
              | some bo =>
                obtain ⟨b, off⟩ := bo
                rw [hat] at k2
                obtain ⟨ad, cap', hv, q2, q3, q4⟩ := k2
                cases hv
                have had : ad = ⟨b, off + lo * R.es, none⟩ := by
                  rcases q4 with q4 | q4
                  · omega
                  · rw [q4, g1]
                subst had
                obtain ⟨E', F', w1, w2, w3⟩ := append_room (P := P) hr1 hfree hR1 c4 h1 h2 hat hroot k1 q3 hfit s1 s4 s5 s6
                have hrun' := hrun (w.setCells b (off + (lo + len) * R.es) news) (fun ad had => by
                  cases had
                  rw [addr_add, show off + lo * R.es + len * R.es = off + (lo + len) * R.es by rw [Nat.add_mul]; omega]
                  exact w1) (fun h => by cases h)
                refine ⟨_, _, _, _, hrun', w2, .c (.h (lt_len w3) ?_)⟩
                intro pl hpl
                rw [w3] at hpl
                cases hpl
                exact ⟨by simp, _, _, rfl, hfit, by simp, .inr (by simp)⟩
          · -- it grows
            have hlt : cap < len + src.length := by omega
            have hgrow : ¬ (Builtin.nextslicecap (len + src.length) cap * i.bytes > 2 ^ 48) := by
              have := growslice_fits (bytes := i.bytes) hlt (by rw [hby]; omega)
              omega
            have hbz : ¬ (((len + src.length : Nat) : Int) > IntKind.i64.max ∧ (False ∨ i.bytes = 0)) := by
              intro hh
              rcases hh.2 with hh | hh
              · exact hh
              · exact c6 (by rw [← hby]; exact hh)
            obtain ⟨zv, z1, z2, z3⟩ := tz_some (P := P) (w := { w with drawn := w.drawn + 1 }) (S := S) (E := E) hz
            -- the old cells
            have holds : ∃ (olds : List Value) (f2 : List Nat), (Builtin.firstCells R.es len (.slice base len cap)).run P { w with drawn := w.drawn + 1 } = .ok olds.toArray { w with drawn := w.drawn + 1 } ∧ olds.length = len * R.es ∧ (∀ x ∈ f2, x ∈ f) ∧ f2.Nodup ∧
                ∀ (w' : World) (b' off' : Nat), (∀ (j : Nat) (v : Value), olds[j]? = some v → w'.cell? ⟨b', off' + j, none⟩ = some v) → (∀ b, S b ∨ b ∈ f2 → w'.heap[b]? = w.heap[b]?) → Rep w' S E (.l true ((R.rows.drop lo).take len).flatten b' off') f2 := by
              by_cases hl0 : len = 0
              · subst hl0
                refine ⟨[], [], ?_, by simp, by simp, by simp, fun _ _ _ _ _ => by simpa using (Rep.lnil)⟩
                cases base <;> simp [Builtin.firstCells, loadCells, loadCellsFrom]
              · cases hat : p.at? with
                | none =>
                  rw [hat] at k2
                  obtain ⟨ad, hv⟩ := k2
                  cases hv
                  omega
                | some bo =>
                  obtain ⟨b, off⟩ := bo
                  rw [hat] at k2 g5
                  obtain ⟨ad, cap', hv, q2, q3, q4⟩ := k2
                  cases hv
                  have had : ad = ⟨b, off + lo * R.es, none⟩ := by
                    rcases q4 with q4 | q4
                    · omega
                    · rw [q4, g1]
                  subst had
                  obtain ⟨fr, rfl, e2, e3⟩ := g5
                  rw [c4] at e3
                  obtain ⟨f1, f2, f3, hff, hkeep⟩ := flatten_sub g4 e3 lo len (by omega)
                  obtain ⟨vs, m1, m2, m3⟩ := hkeep.vals (nb_flat (nb_sub cnb lo len))
                  have hnd := nodup_at hr.nodup h2
                  rw [hff] at hnd
                  rw [flatten_len hkl, hklen] at m1
                  refine ⟨vs, f2, ?_, m1, ?_, (List.nodup_append.1 (List.nodup_append.1 (List.nodup_cons.1 hnd).2).2.1).1, m3⟩
                  · exact run_firstCells_some _ R.es len ⟨b, off + lo * R.es, none⟩ len cap vs m1 (fun j v hj => by rw [addr_add]; exact m2 j v hj)
                  · intro x hx
                    rw [hff]
                    exact List.mem_cons_of_mem _ (List.mem_append_right _ (List.mem_append_left _ hx))
            obtain ⟨olds, f2, o1, o2, o3, o4, o5⟩ := holds
            obtain ⟨news', t1, t2, t3, t4, t5, t6⟩ := src_sound (P := P) (hr.drawn (w.drawn + 1) (Nat.le_succ _)) (x := x) (vx := vx) (hx.mono (fun _ h => h) (.refl _ _) (fun _ _ => rfl)) hsrc c3
            have hneed := Nat.le_add_right (len + src.length) (w.tape w.drawn (.appendCap (len + src.length) cap e) % (2 ^ 63 - (len + src.length)))
            generalize hcapdef : (len + src.length) + w.tape w.drawn (.appendCap (len + src.length) cap e) % (2 ^ 63 - (len + src.length)) = newCap at hneed
            have hzz : zv.cells.size = R.es := by omega
            obtain ⟨E', F', w2, w3⟩ := append_move (hr1.drawn (w.drawn + 1) (Nat.le_succ _)) hfree (el := e) (m := newCap) (rest := (Builtin.zeroCells zv.cells (newCap - (len + src.length))).toList) hR1 c4 h1 h2 hkl hklen o3 o4 o2 o5 t1 t4 hneed
              (by
                have hzl : (Builtin.zeroCells zv.cells (newCap - (len + src.length))).toList.length = (newCap - (len + src.length)) * R.es := by
                  rw [← hzz, ← zeroCells_len]; simp
                rw [o2, t4, hzl, ← Nat.add_mul, ← Nat.add_mul]
                exact Nat.mul_le_mul_right _ (by omega)) t6
            refine ⟨.slice (some ⟨w.heap.size, 0, none⟩) (len + src.length) newCap, _, E', F', ?_, w2, .c (.h (lt_len w3) ?_)⟩
            · have hroom : ∀ n (w0 : World), (askRoom n).run P w0 = .ok () w0 := by
                intro n w0
                unfold askRoom; split
                · simp [mark, Sem.run]
                · rfl
              have hchoose : (choose (.appendCap (len + src.length) cap e)).run P w = .ok newCap { w with drawn := w.drawn + 1 } := by
                simp [choose, Sem.run, Question.forced, Question.cut, hcapdef]
              rcases hxd with rfl | ⟨e', rfl⟩ <;>
              · simp only [Builtin.append_, Z22, Z1, Z2, Sem.run_bind, run_und (tk_slice hk), Result.andThen_ok, hsz, run_und hxt, Sem.run_pure,
                  Bool.false_eq_true, if_false, s2, Sem.run_ite, if_neg hfit, run_typeInfo w hi]
                rw [if_neg hbz]
                simp only [Result.andThen_ok, if_neg hgrow, hchoose, run_typeInfo _ hi, hroom, o1, Bool.not_false, if_true, t3, z1, run_newRow]
                have hcat : (olds.toArray ++ news'.toArray ++ Builtin.zeroCells zv.cells (newCap - (len + src.length))) = (olds ++ news' ++ (Builtin.zeroCells zv.cells (newCap - (len + src.length))).toList).toArray := by
                  apply Array.toList_inj.1
                  simp
                rw [hcat]
            · intro pl hpl
              rw [w3] at hpl
              cases hpl
              exact ⟨by simp, _, _, rfl, hneed, by simp, .inr (by simp)⟩
        · cases h
      · cases h
    · cases h
  · cases h
end
end Go.Dl

namespace Go.Dl
open Go.RowKit
def rowByte : List C → UInt8
  | [.v (.int _ n)] => UInt8.ofNat n.toNat
  | _ => 0
def isByteRow : List C → Bool
  | [.v (.int .u8 _)] => true
  | _ => false
def byteRow (b : UInt8) : List C := [.v (.int .u8 b.toNat)]
/-- The rows of a slice. -/
def rowsOf (H : List (Option Root)) : D → Option (List (List C))
  | .c (.h r lo len) => match H[r]? with
    | some (some R) => if R.es = 1 then some ((R.rows.drop lo).take len) else none
    | _ => none
  | .c (.s false 1 rows) => some rows
  | _ => none
/-- Bytes as a text. -/
def bytesStr (P : Program) (H : List (Option Root)) (s t : TypeId) (d : D) : Option D :=
  match tk P t, tk P s with
  | some .str, some (.slice e) => match tk P e, rowsOf H d with
    | some (.int .u8), some rows => if rows.all isByteRow = true ∧ rows.length ≤ maxStr then some (.c (.v (.string ⟨(rows.map rowByte).toArray⟩))) else none
    | _, _ => none
  | _, _ => none
/-- A text as bytes. -/
def strBytes (P : Program) (H : List (Option Root)) (s t : TypeId) (d : D) : Option (D × List (Option Root)) :=
  match tk P t, tk P s with
  | some (.slice e), some .str => match tk P e, d with
    | some (.int .u8), .c (.v (.string x)) => some (.c (.h H.length 0 x.data.toList.length), H ++ [some ⟨true, 1, x.data.toList.map byteRow⟩])
    | _, _ => none
  | _, _ => none
section
variable {P : Program} {g : G} {S : Nat → Prop} {E : Env} {F : List (List Nat)} {A : St} {a : Act} {w : World}
theorem byteRow_inv {row : List C} (h : isByteRow row = true) : ∃ n, row = [.v (.int .u8 n)] := by
  unfold isByteRow at h
  split at h
  · exact ⟨_, rfl⟩
  · cases h
theorem bytesStr_sound (hr : Rel g S E F A a w) {s t : TypeId} {d d' : D} {v : Value} (hd : RepD w S E d v) (h : bytesStr P A.H s t d = some d') :
    ∃ v', (convert s t v).run P w = .ok v' w ∧ RepD w S E d' v' := by
  unfold bytesStr at h
  split at h
  · rename_i e hk hs
    split at h
    · rename_i rows he hrows
      split at h
      · rename_i hc
        obtain ⟨c1, c2⟩ := hc
        cases h
        refine ⟨.string ⟨(rows.map rowByte).toArray⟩, ?_, .c (.v ?_)⟩
        · -- the cells
          have hb : ∃ ad cap, v = .slice ad rows.length cap ∧ ((ad = none ∧ rows = []) ∨ ∃ a' , ad = some a' ∧ ∀ (j : Nat) (row : List C), rows[j]? = some row → w.cell? (a'.add j) = some (.int .u8 (match row with | [.v (.int _ n)] => n | _ => 0))) := by
            have fromRep : ∀ (b off : Nat) (dat : Bool) (rows : List (List C)) (fp : List Nat), (∀ r ∈ rows, r.length = 1) → rows.all isByteRow = true → Rep w S E (.l dat rows.flatten b off) fp →
                ∀ (j : Nat) (row : List C), rows[j]? = some row → w.cell? ((⟨b, off, none⟩ : Addr).add j) = some (.int .u8 (match row with | [.v (.int _ n)] => n | _ => 0)) := by
              intro b off dat rows fp hl hall hrep j row hj
              obtain ⟨n, rfl⟩ := byteRow_inv (List.all_eq_true.1 hall row (List.mem_of_getElem? hj))
              obtain ⟨xs, ys, e1, e2, _⟩ := flatten_split hl j _ hj
              rw [e1] at hrep
              obtain ⟨f1, f2, _, _, h2⟩ := hrep.append
              cases h2 with
              | lcons hv hcc _ =>
                rw [Nat.mul_one] at e2
                rw [addr_add, ← e2, hv]
                cases hcc; rfl
            unfold rowsOf at hrows
            split at hrows
            · rename_i r lo len
              split at hrows
              · rename_i R hR
                split at hrows
                · rename_i hes
                  cases hrows
                  obtain ⟨p, f, h1, h2, h3, h4⟩ := handle_live hr hR hd
                  obtain ⟨g1, g2, g3, g4, g5⟩ := h3
                  obtain ⟨k1, k2⟩ := h4
                  have hlen : ((R.rows.drop lo).take len).length = len := by rw [List.length_take, List.length_drop]; omega
                  cases hat : p.at? with
                  | none =>
                    rw [hat] at k2 g5
                    obtain ⟨ad, rfl⟩ := k2
                    obtain ⟨e1, _, _⟩ := g5
                    have hl0 : len = 0 := by rw [e1] at g2; simp at g2; omega
                    subst hl0
                    cases ad with
                    | none => exact ⟨none, 0, by simp, .inl ⟨rfl, by simp⟩⟩
                    | some ad => exact ⟨some ad, 0, by simp, .inr ⟨ad, rfl, by simp⟩⟩
                  | some bo =>
                    obtain ⟨b, off⟩ := bo
                    rw [hat] at k2 g5
                    obtain ⟨ad, cap, rfl, q2, q3, q4⟩ := k2
                    obtain ⟨fr, _, _, hrep⟩ := g5
                    refine ⟨some ad, cap, by rw [hlen], .inr ⟨ad, rfl, ?_⟩⟩
                    intro j row hj
                    have hjl := lt_len hj
                    have had : ad = ⟨b, off + lo * R.es, none⟩ := by
                      rcases q4 with q4 | q4
                      · omega
                      · rw [q4, g1]
                    subst had
                    obtain ⟨f1, f2, f3, _, hr2⟩ := flatten_sub g4 hrep lo len (by omega)
                    exact fromRep b (off + lo * R.es) R.dat _ f2 (fun r hr => by rw [← hes]; exact g4 r (List.mem_of_mem_drop (List.mem_of_mem_take hr))) c1 hr2 j row hj
                · cases hrows
              · cases hrows
            · cases hrows
              cases hd with
              | c h => cases h with
                | nilI =>
                  rename_i ad cap
                  cases ad with
                  | none => exact ⟨none, cap, rfl, .inl ⟨rfl, rfl⟩⟩
                  | some ad => exact ⟨some ad, cap, rfl, .inr ⟨ad, rfl, by simp⟩⟩
                | imm hS hcap hl hrep => exact ⟨_, _, rfl, .inr ⟨_, rfl, fromRep _ _ true _ _ hl c1 hrep⟩⟩
            · cases hrows
          obtain ⟨ad, cap, rfl, hcase⟩ := hb
          have hnum : (rows.map fun row => UInt8.ofNat (match row with | [.v (.int _ n)] => n | _ => (0 : Int)).toNat) = rows.map rowByte := by
            refine List.map_congr_left fun row hrow => ?_
            obtain ⟨n, rfl⟩ := byteRow_inv (List.all_eq_true.1 c1 row hrow)
            rfl
          rcases hcase with ⟨rfl, rfl⟩ | ⟨a', rfl, hcell⟩
          · rw [run_convert_bytes_nil w s e (tk_slice hs) (tk_int he) _ _ t (tk_str hk)]; rfl
          · have hload : (loadCells a' rows.length).run P w = .ok ((rows.map fun row => (match row with | [.v (.int _ n)] => n | _ => (0 : Int))).map (Value.int .u8)).toArray w := by
              have := run_loadCells_list (P := P) w a' ((rows.map fun row => (match row with | [.v (.int _ n)] => n | _ => (0 : Int))).map (Value.int .u8)) (by
                intro j v hj
                rw [List.map_map, List.getElem?_map, Option.map_eq_some_iff] at hj
                obtain ⟨row, h1, h2⟩ := hj
                rw [← h2]
                exact hcell j row h1)
              simpa using this
            rw [run_convert_bytes_string w s t e _ rows.length cap (tk_slice hs) (tk_int he) (tk_str hk), run_bytesToString w _ rows.length cap _ hload, foldl_push_bytes, List.map_map]
            rw [show ((fun n : Int => UInt8.ofNat n.toNat) ∘ fun row : List C => (match row with | [.v (.int _ n)] => n | _ => (0 : Int))) = fun row => UInt8.ofNat (match row with | [.v (.int _ n)] => n | _ => (0 : Int)).toNat from rfl, hnum]
            simp
        · show ((rows.map rowByte).toArray).size ≤ maxStr
          simpa using c2
      · cases h
    · cases h
  · cases h
theorem byteRows_flat : ∀ (l : List UInt8), (l.map byteRow).flatten = l.map fun b => C.v (.int .u8 b.toNat)
  | [] => rfl
  | b :: l => by simp [byteRow, byteRows_flat l]
theorem byteRows_vs : ∀ (l : List UInt8), Rep w S E (.vs (l.map fun b => C.v (.int .u8 b.toNat)) (l.map fun b => Value.int .u8 b.toNat)) []
  | [] => .vnil
  | b :: l => by
    refine .vcons (f1 := []) (f2 := []) (.v ?_) (byteRows_vs l)
    have := b.toNat_lt
    simp [Sc, inR]; omega
theorem strBytes_sound (hr : Rel g S E F A a w) {s t : TypeId} {d d' : D} {v : Value} {H' : List (Option Root)} (hd : RepD w S E d v) (h : strBytes P A.H s t d = some (d', H')) :
    ∃ v' w' E' F', (convert s t v).run P w = .ok v' w' ∧ Rel g S E' F' { A with H := H' } a w' ∧ RepD w' S E' d' v' := by
  unfold strBytes at h
  split at h
  · rename_i e hk hs
    split at h
    · rename_i x he
      cases h
      obtain ⟨rfl, hx⟩ := str_inv hd
      have hrun := Lib.run_convert_string_bytes (P := P) w s t e x (tk_str hs) (tk_slice hk) (tk_int he)
      have hge := grownCap_ge w x.size 0 e
      generalize hcap : grownCap w x.size 0 e = cap at hrun hge
      have hcells : Lib.bytesCells w e x = ((x.data.toList.map fun (b : UInt8) => Value.int .u8 b.toNat) ++ List.replicate (cap - x.size) (Value.int .u8 0)).toArray := by
        unfold Lib.bytesCells
        rw [hcap]
        apply Array.toList_inj.1
        simp
      have hsize : x.data.toList.length = x.size := by simp
      have hnew := hr.newRoot' (w' := Lib.bytesWorld w e x) (R := ⟨true, 1, x.data.toList.map byteRow⟩) (vs := x.data.toList.map fun (b : UInt8) => Value.int .u8 b.toNat) (extra := List.replicate (cap - x.size) (Value.int .u8 0)) (el := e)
        (z := ((Lib.bytesCells w e x).size, (Lib.bytesCells w e x).size + 1)) (m := cap) (by simp only [byteRows_flat]; exact byteRows_vs _)
        (by
          intro _
          simp only [byteRows_flat]
          rw [List.all_eq_true]
          intro c hc
          obtain ⟨b, _, rfl⟩ := List.mem_map.1 hc
          rfl)
        (by
          intro r hr
          obtain ⟨b, _, rfl⟩ := List.mem_map.1 hr
          rfl)
        (by simp; omega) (by simp; omega) (fun b hb => Lib.bytesWorld_at_old w e x b hb) (by rw [← hcells]; exact Lib.bytesWorld_at_new w e x)
        (fun o ho => by
          simp only [World.frozen?, Lib.bytesWorld_at_new]
          rw [hcells]
          simp at ho ⊢
          omega) (Lib.bytesWorld_size w e x) (by unfold Lib.bytesWorld World.freeze; split <;> rfl) (by unfold Lib.bytesWorld World.freeze; split <;> rfl) (by unfold Lib.bytesWorld World.freeze; split <;> exact ⟨rfl, Nat.le_succ _⟩)
      refine ⟨_, _, _, _, hrun, hnew, .c (.h ?_ ?_)⟩
      · have := hnew.lE; rw [this]; simp
      · intro pl hpl
        rw [← hr.lE, List.getElem?_append_right (Nat.le_refl _)] at hpl
        simp at hpl
        subst hpl
        exact ⟨by simp, ⟨w.heap.size, 0, none⟩, cap, by rw [hsize], by rw [hsize]; exact hge, by simp, .inr (by simp)⟩
    · cases h
  · cases h
end
end Go.Dl

namespace Go.Dl
open Go.RowKit
def St.with (A : St) (dst : Option Tmp) (r : D × List (Option Root)) : St := St.put { A with H := r.2 } dst r.1
def tkApp (P : Program) (t : TypeId) : Bool :=
  match tk P t with
  | some (.slice _) => true
  | some .str => true
  | _ => false
/-- One operation as a function of the state. -/
def Y6 (P : Program) (A : St) (dst : Option Tmp) : Op → Option St
  | .store t x v => match A.ev x, (A.ev v).bind D.cells with
    | some d, some cells => if tsz P t = cells.length ∧ tsz P t ≠ 0 then (storeA A.H cells d).map fun H => St.put { A with H := H } dst .top else none
    | _, _ => none
  | .alloc t => ((tz P t).bind (boxA A.H)).map (A.with dst)
  | .box _ x => (((A.ev x).bind D.cells).bind (boxA A.H)).map (A.with dst)
  | .build t parts => (buildA P A.ev A.H t parts.toList).map (A.put dst)
  | .buildSlice t len parts => (buildSliceA P A.ev A.H t len parts.toList).map (A.with dst)
  | .makeSlice t l c => match (A.ev l).bind D.int, (A.ev c).bind D.int with
    | some l, some c => (makeA P A.H t l c).map (A.with dst)
    | _, _ => none
  | .convert s t x => match (A.ev x).bind (qconv P s t) with
    | some d => some (A.put dst d)
    | none => match (A.ev x).bind (bytesStr P A.H s t) with
      | some d => some (A.put dst d)
      | none => ((A.ev x).bind (strBytes P A.H s t)).map (A.with dst)
  | .call c => match c.callee with
    | .builtin .append => match c.args.toList, c.argTypes.toList with
      | [s, x], [t, xt] => if tkApp P xt then (match A.ev s, A.ev x with
        | some d, some dx => (appendA P A t d dx).map fun r => r.2.put dst r.1
        | _, _ => none) else none
      | _, _ => none
    | _ => (qbuiltin P A.ev A.H c).map (A.put dst)
  | op => (qev P A.ev A.H op).map (A.put dst)
theorem step_x {P : Program} {o : Oper} {A A' : St} {R : St → Prop} (hop : o.op.operands.toList.all opdOK = true) (h : Y6 P A o.dst o.op = some A') (hR : R A') : Step P o A R := by
  have quiet : ∀ d, qev P A.ev A.H o.op = some d → A.put o.dst d = A' → Step P o A R := fun d h1 h2 => step_quiet hop h1 (by rw [h2]; exact hR)
  have hev : ∀ {g : G} {S : Nat → Prop} {E : Env} {F : List (List Nat)} {a : Act} {w : World}, Rel g S E F A a w → ∀ {x : Operand} {d : D}, x ∈ o.op.operands.toList → A.ev x = some d → RepD w S E d (a.eval x) := by
    intro g S E F a w hr x d hx he
    exact ev_rep hr (List.all_eq_true.1 hop x hx) he
  unfold Y6 at h
  split at h
  · rename_i t x v ho
    split at h
    · rename_i d cells h1 h2
      split at h
      · rename_i hc
        cases hs : storeA A.H cells d with
        | none => rw [hs] at h; cases h
        | some H' =>
          rw [hs] at h; cases h
          intro g a w ⟨S, E, F, hr⟩ next Q hn
          cases hv : A.ev v with
          | none => rw [hv] at h2; cases h2
          | some dv =>
            rw [hv] at h2
            obtain ⟨w', k1, F', k2⟩ := storeA_sound (P := P) (t := t) hr (hev hr (by simp [ho, Op.operands]) h1) (hev hr (by simp [ho, Op.operands]) hv) h2 hc.1 hc.2 hs
            unfold Oper.wp
            have : (execOp a.eval o).run P w = .ok .skip w' := by simp [execOp, ho, k1]
            rw [this]
            exact hn _ _ _ hR ⟨S, E, F', k2.put .top⟩
      · cases h
    · cases h
  · rename_i t ho
    intro g a w ⟨S, E, F, hr⟩ next Q hn
    cases hz : tz P t with
    | none => rw [hz] at h; cases h
    | some z =>
      rw [hz] at h
      cases hb : boxA A.H z with
      | none => simp [hb] at h
      | some r =>
        obtain ⟨d, H'⟩ := r
        simp [hb] at h
        subst h
        obtain ⟨v, z1, z2, z3⟩ := tz_some (P := P) (w := w) (S := S) (E := E) hz
        obtain ⟨E', F', k1, k2⟩ := box_sound (el := t) hr z2 hb
        unfold Oper.wp
        have : (execOp a.eval o).run P w = .ok (.value (.pointer (some ⟨w.heap.size, 0, none⟩))) (w.alloc (.cells v.cells.toList.toArray t)) := by
          simp [execOp, ho, Instr.alloc, z1, newVar, run_newRow]
        rw [this]
        exact hn _ _ _ hR ⟨S, E', F', k1.put k2⟩
  · rename_i t x ho
    intro g a w ⟨S, E, F, hr⟩ next Q hn
    cases hx : A.ev x with
    | none => simp [hx] at h
    | some dx =>
      cases hc : dx.cells with
      | none => simp [hx, hc] at h
      | some cells =>
        cases hb : boxA A.H cells with
        | none => simp [hx, hc, hb] at h
        | some r =>
          obtain ⟨d, H'⟩ := r
          simp [hx, hc, hb] at h
          subst h
          have hst : cells.all (C.st A.H) = true := by
            unfold boxA at hb
            split at hb
            · assumption
            · cases hb
          have hv := cells_rep (hev hr (by simp [ho, Op.operands]) hx) hc hst hr
          obtain ⟨E', F', k1, k2⟩ := box_sound (el := t) hr hv hb
          unfold Oper.wp
          have : (execOp a.eval o).run P w = .ok (.value (.pointer (some ⟨w.heap.size, 0, none⟩))) (w.alloc (.cells (a.eval x).cells.toList.toArray t)) := by
            simp [execOp, ho, Instr.box, newVar, run_newRow]
          rw [this]
          exact hn _ _ _ hR ⟨S, E', F', k1.put k2⟩
  · rename_i t parts ho
    cases hb : buildA P A.ev A.H t parts.toList with
    | none => rw [hb] at h; cases h
    | some d =>
      rw [hb] at h; cases h
      intro g a w ⟨S, E, F, hr⟩ next Q hn
      obtain ⟨v, k1, k2⟩ := build_sound (P := P) hr (by
        intro x hx
        refine List.all_eq_true.1 hop x.2 ?_
        rw [ho]
        simp only [Op.operands, List.mem_map]
        exact ⟨x, hx, rfl⟩) hb
      unfold Oper.wp
      have : (execOp a.eval o).run P w = .ok (.value v) w := by simp [execOp, ho, k1]
      rw [this]
      exact hn _ _ _ hR ⟨S, E, F, hr.put k2⟩
  · rename_i t len parts ho
    cases hb : buildSliceA P A.ev A.H t len parts.toList with
    | none => rw [hb] at h; cases h
    | some r =>
      obtain ⟨d, H'⟩ := r
      rw [hb] at h; cases h
      intro g a w ⟨S, E, F, hr⟩ next Q hn
      obtain ⟨v, w', E', F', k1, k2, k3⟩ := buildSlice_sound (P := P) hr (by
        intro x hx
        refine List.all_eq_true.1 hop x.2 ?_
        rw [ho]
        simp only [Op.operands, List.mem_map]
        exact ⟨x, hx, rfl⟩) hb
      unfold Oper.wp
      have : (execOp a.eval o).run P w = .ok (.value v) w' := by simp [execOp, ho, k1]
      rw [this]
      exact hn _ _ _ hR ⟨S, E', F', k2.put k3⟩
  · rename_i t l c ho
    split at h
    · rename_i nl nc h1 h2
      cases hb : makeA P A.H t nl nc with
      | none => rw [hb] at h; cases h
      | some r =>
        obtain ⟨d, H'⟩ := r
        rw [hb] at h; cases h
        intro g a w ⟨S, E, F, hr⟩ next Q hn
        cases hl : A.ev l with
        | none => rw [hl] at h1; cases h1
        | some dl =>
          cases hcv : A.ev c with
          | none => rw [hcv] at h2; cases h2
          | some dc =>
            rw [hl] at h1
            rw [hcv] at h2
            obtain ⟨kl, e1, _⟩ := int_inv (hev hr (x := l) (by simp [ho, Op.operands]) hl) h1
            obtain ⟨kc, e2, _⟩ := int_inv (hev hr (x := c) (by simp [ho, Op.operands]) hcv) h2
            obtain ⟨v, w', E', F', k1, k2, k3⟩ := make_sound (P := P) (k := kl) (k' := kc) hr hb
            unfold Oper.wp
            have : (execOp a.eval o).run P w = .ok (.value v) w' := by simp [execOp, ho, e1, e2, k1]
            rw [this]
            exact hn _ _ _ hR ⟨S, E', F', k2.put k3⟩
    · cases h
  · rename_i s t x ho
    split at h
    · rename_i d hq
      cases h
      exact quiet d (by rw [ho]; exact hq) rfl
    · split at h
      · rename_i d hq
        cases h
        intro g a w ⟨S, E, F, hr⟩ next Q hn
        cases hx : A.ev x with
        | none => rw [hx] at hq; cases hq
        | some dx =>
          rw [hx] at hq
          obtain ⟨v', k1, k2⟩ := bytesStr_sound (P := P) hr (hev hr (by simp [ho, Op.operands]) hx) hq
          unfold Oper.wp
          have : (execOp a.eval o).run P w = .ok (.value v') w := by simp [execOp, ho, k1]
          rw [this]
          exact hn _ _ _ hR ⟨S, E, F, hr.put k2⟩
      · intro g a w ⟨S, E, F, hr⟩ next Q hn
        cases hx : A.ev x with
        | none => simp [hx] at h
        | some dx =>
          cases hq : strBytes P A.H s t dx with
          | none => simp [hx, hq] at h
          | some r =>
            obtain ⟨d, H'⟩ := r
            simp [hx, hq] at h
            subst h
            obtain ⟨v', w', E', F', k1, k2, k3⟩ := strBytes_sound (P := P) hr (hev hr (by simp [ho, Op.operands]) hx) hq
            unfold Oper.wp
            have : (execOp a.eval o).run P w = .ok (.value v') w' := by simp [execOp, ho, k1]
            rw [this]
            exact hn _ _ _ hR ⟨S, E', F', k2.put k3⟩
  · rename_i c ho
    split at h
    · rename_i hc
      split at h
      · rename_i s x t xt hargs htys
        split at h
        · rename_i hap
          split at h
          · rename_i d dx h1 h2
            cases hq : appendA P A t d dx with
            | none => rw [hq] at h; cases h
            | some r =>
              obtain ⟨d', A1⟩ := r
              rw [hq] at h; cases h
              intro g a w ⟨S, E, F, hr⟩ next Q hn
              have ha : c.args = #[s, x] := by apply Array.toList_inj.1; simpa using hargs
              have ht : c.argTypes = #[t, xt] := by apply Array.toList_inj.1; simpa using htys
              have hxd : ∃ xd, P.underlying xt = some xd ∧ (xd = .string ∨ ∃ e', xd = .slice e') := by
                unfold tkApp at hap
                split at hap
                · rename_i e hk; exact ⟨_, tk_slice hk, .inr ⟨e, rfl⟩⟩
                · rename_i hk; exact ⟨_, tk_str hk, .inl rfl⟩
                · cases hap
              obtain ⟨xd, u1, u2⟩ := hxd
              obtain ⟨v', w', E', F', k1, k2, k3⟩ := append_sound (P := P) (ty := o.type) hr u1 u2 (hev hr (x := s) (by simp [ho, Op.operands, Call.operands, hc, ha]) h1) (hev hr (x := x) (by simp [ho, Op.operands, Call.operands, hc, ha]) h2) hq
              unfold Oper.wp
              have : (execOp a.eval o).run P w = .ok (.value v') w' := by simp [execOp, ho, resolve, invoke, builtin, hc, ha, ht, k1]
              rw [this]
              exact hn _ _ _ hR ⟨S, E', F', k2.put k3⟩
          · cases h
        · cases h
      · cases h
    · cases hq : qbuiltin P A.ev A.H c with
      | none => rw [hq] at h; cases h
      | some d => rw [hq] at h; cases h; exact quiet d (by rw [ho]; exact hq) rfl
  · rename_i h1 h2 h3 h4 h5 h6 h7 h8
    cases hq : qev P A.ev A.H o.op with
    | none => rw [hq] at h; cases h
    | some d => rw [hq] at h; cases h; exact quiet d hq rfl
def opsOK (ops : Array Oper) : Bool := ops.toList.all fun o => o.op.operands.toList.all opdOK
end Go.Dl
