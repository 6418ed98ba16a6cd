/- 'Dl', part L: operations that write or make memory: store, alloc, box. -/
import Derived.Test.YtdhlelineoggkaaDlK
namespace Go.Dl
open Go.RowKit

def D.cells : D → Option (List C)
  | .c y => some [y]
  | .agg xs => some xs
  | _ => none

/-- Cells that may be stored. -/
def C.st (H : List (Option Root)) : C → Bool
  | .x => false
  | .h r _ _ => liveR H r
  | .p r _ _ => liveR H r
  | _ => true

def putCells (row : List C) (c : Nat) (cells : List C) : List C := row.take c ++ (cells ++ row.drop (c + cells.length))

/-- A store at a place of a root. -/
def storeA (H : List (Option Root)) (cells : List C) : D → Option (List (Option Root))
  | .c (.p r e c) => match H[r]? with
    | some (some R) => match R.rows[e]? with
      | some row => if c + cells.length ≤ row.length ∧ (R.dat = true → cells.all C.dat = true) ∧ cells.all (C.st H) = true
          then some (H.set r (some { R with rows := R.rows.set e (putCells row c cells) })) else none
      | none => none
    | _ => none
  | _ => none

section
variable {P : Program} {g : G} {S : Nat → Prop} {E : Env} {F : List (List Nat)} {A : St} {a : Act} {w : World}

theorem set_same {α : Type} {l : List α} {i : Nat} {x : α} (h : l[i]? = some x) : l.set i x = l := by
  apply List.ext_getElem?
  intro j
  rw [List.getElem?_set]
  split
  · rename_i hij; subst hij; rw [if_pos (lt_len h), h]
  · rfl

theorem heap_setCells (b : Nat) : ∀ (vs : List Value) (o : Nat) (w : World) (k : Nat), k ≠ b → (w.setCells b o vs).heap[k]? = w.heap[k]?
  | [], _, _, _, _ => rfl
  | v :: r, o, w, k, h => by
    rw [World.setCells, heap_setCells b r (o + 1) _ k h]
    exact Below.heap_setCell _ _ _ _ h

theorem size_setCells (b : Nat) : ∀ (vs : List Value) (o : Nat) (w : World), (w.setCells b o vs).heap.size = w.heap.size ∧ (w.setCells b o vs).os = w.os ∧ (w.setCells b o vs).tape = w.tape ∧ OutLe w (w.setCells b o vs)
  | [], _, _ => ⟨rfl, rfl, rfl, .rf _⟩
  | v :: r, o, w => by
    rw [World.setCells]
    obtain ⟨h1, h2, h3, h4⟩ := size_setCells b r (o + 1) (w.setCell ⟨b, o, none⟩ v)
    exact ⟨by rw [h1]; simp, h2, h3, h4.trans ⟨rfl, Nat.le_refl _⟩⟩

theorem own_setCell {w : World} {b n : Nat} {a : Addr} {v : Value} (h : OwnBlock w b n) : OwnBlock (w.setCell a v) b n := by
  obtain ⟨arr, el, z, h1, h2, h3⟩ := h
  by_cases hb : b = a.block
  · subst hb
    have hlt : a.block < w.heap.size := by
      rcases Nat.lt_or_ge a.block w.heap.size with h | h
      · exact h
      · rw [Array.getElem?_eq_none h] at h1; cases h1
    refine ⟨if a.spot.isSome then arr else arr.setIfInBounds a.off v, el, z, ?_, ?_, ?_⟩
    · have h' : w.heap[a.block] = .cells arr el z := by simpa [Array.getElem?_eq_getElem hlt] using h1
      show (w.heap.modify a.block _)[a.block]? = _
      rw [Array.getElem?_eq_getElem (by simpa using hlt), Array.getElem_modify_self, h']
    · split
      · exact h2
      · simpa using h2
    · intro o ho
      rw [World.frozen?_setCell]
      exact h3 o (by split at ho <;> simpa using ho)
  · exact ⟨arr, el, z, by rw [Below.heap_setCell _ _ _ _ hb]; exact h1, h2, fun o ho => by rw [World.frozen?_setCell]; exact h3 o ho⟩

theorem own_setCells (b' : Nat) : ∀ (vs : List Value) (o : Nat) (w : World) {b n : Nat}, OwnBlock w b n → OwnBlock (w.setCells b' o vs) b n
  | [], _, _, _, _, h => h
  | _ :: r, o, _, _, _, h => own_setCells b' r (o + 1) _ (own_setCell h)

theorem vs_one {cs : List C} {vs : List Value} (h : Rep w S E (.vs cs vs) []) (hs : cs.all (C.st A.H) = true) (hr : Rel g S E F A a w) : ∀ v ∈ vs, v.oneCell' = true := by
  induction cs generalizing vs with
  | nil => cases h; simp
  | cons c cs ih =>
    generalize hfp : ([] : List Nat) = fp at h
    cases h with
    | vcons h1 h2 =>
      obtain ⟨rfl, rfl⟩ := List.append_eq_nil_iff.1 hfp.symm
      simp only [List.all_cons, Bool.and_eq_true] at hs
      intro v hv
      rcases List.mem_cons.1 hv with rfl | hv
      · refine h1.one ?_ ?_ ?_
        · rintro rfl; simp [C.st] at hs
        · rintro r lo len rfl
          obtain ⟨R, p, f, _, h3, _⟩ := live_root hr hs.1
          exact ⟨p, h3⟩
        · rintro r e k rfl
          obtain ⟨R, p, f, _, h3, _⟩ := live_root hr hs.1
          exact ⟨p, h3⟩
      · exact ih h2 hs.2 v hv

theorem putCells_len {row cells : List C} {c : Nat} (h : c + cells.length ≤ row.length) : (putCells row c cells).length = row.length := by
  simp [putCells]; omega

theorem vs_len {cs : List C} {vs : List Value} (h : Rep w S E (.vs cs vs) []) : cs.length = vs.length := (vs_get h).1

/-- Cells in memory, some of them written. -/
theorem Rep.write {dat : Bool} {b off : Nat} {xs old ys cells : List C} {vs : List Value} {fp : List Nat} (h : Rep w S E (.l dat (xs ++ (old ++ ys)) b off) fp) (hlen : cells.length = old.length)
    (hv : Rep w S E (.vs cells vs) []) (hd : dat = true → cells.all C.dat = true) (hb : ∀ b', S b' ∨ b' ∈ fp → b' ≠ b) (hc : ∀ j, j < old.length → (w.cell? ⟨b, off + xs.length + j, none⟩).isSome = true) :
    ∃ f1 f2 f3, fp = f1 ++ (f2 ++ f3) ∧ Rep (w.setCells b (off + xs.length) vs) S E (.l dat (xs ++ (cells ++ ys)) b off) (f1 ++ f3) := by
  obtain ⟨f1, f23, rfl, h1, h2⟩ := h.append
  obtain ⟨f2, f3, rfl, h3, h4⟩ := h2.append
  have hvl := vs_len hv
  refine ⟨f1, f2, f3, rfl, ?_⟩
  have hheap : ∀ b', b' ≠ b → (w.setCells b (off + xs.length) vs).heap[b']? = w.heap[b']? := fun b' h => heap_setCells b vs _ w b' h
  refine Rep.join (h1.congr ?_ ?_) ?_
  · intro j hj
    exact World.cell?_setCells_out b vs _ w _ (fun _ _ => .inl (show off + j < off + xs.length by omega))
  · intro b' hb'
    exact hheap b' (hb b' (hb'.imp id fun h => List.mem_append_left _ h))
  · rw [show f3 = [] ++ f3 from rfl]
    refine Rep.join ?_ ?_
    · refine rep_new (hv.mono (fun _ h => h) (.refl _ _) ?_) hd ?_
      · intro b' hb'
        rcases hb' with h | h | h
        · exact hheap b' (hb b' (.inl h))
        · cases h
        · cases h
      · intro j v hj
        have := World.cell?_setCells_in b vs (off + xs.length) w (fun j hj => hc j (by omega)) j (lt_len hj)
        rw [this]
        rw [List.getElem?_eq_getElem (lt_len hj)] at hj
        exact hj
    · rw [hlen]
      refine h4.congr ?_ ?_
      · intro j hj
        exact World.cell?_setCells_out b vs _ w _ (fun _ _ => .inr (show off + xs.length + vs.length ≤ off + xs.length + old.length + j by omega))
      · intro b' hb'
        exact hheap b' (hb b' (hb'.imp id fun h => List.mem_append_right _ (List.mem_append_right _ h)))

theorem cells_rep {d : D} {v : Value} {cells : List C} (hd : RepD w S E d v) (h : d.cells = some cells) (hx : cells.all (C.st A.H) = true) (hr : Rel g S E F A a w) :
    Rep w S E (.vs cells v.cells.toList) [] := by
  cases hd with
  | top => cases h
  | c h1 =>
    cases h
    have h2 : Rep w S E (.vs [_] [v]) [] := .vcons (f1 := []) (f2 := []) h1 .vnil
    have := vs_one h2 hx hr v (by simp)
    have e : v.cells = #[v] := by cases v <;> first | rfl | simp [Value.oneCell'] at this
    rw [e]; exact h2
  | agg h1 => cases h; exact h1
  | q _ _ => cases h
  | t _ _ => cases h

theorem rep_some {dat : Bool} {b off : Nat} {cs : List C} {fp : List Nat} (h : Rep w S E (.l dat cs b off) fp) : ∀ j, j < cs.length → (w.cell? ⟨b, off + j, none⟩).isSome = true := by
  intro j hj
  obtain ⟨v, fp', h1, _, _⟩ := h.at j cs[j] (List.getElem?_eq_getElem hj)
  rw [h1]; rfl

theorem storeA_sound (hr : Rel g S E F A a w) {t : TypeId} {d dx : D} {v x : Value} {cells : List C} {H' : List (Option Root)} (hd : RepD w S E d v) (hx : RepD w S E dx x)
    (hc : dx.cells = some cells) (hz : tsz P t = cells.length) (hz0 : tsz P t ≠ 0) (h : storeA A.H cells d = some H') :
    ∃ w', (Instr.storeAt t v x).run P w = .ok () w' ∧ ∃ F', Rel g S E F' { A with H := H' } a w' := by
  unfold storeA at h
  split at h
  · rename_i r e c
    split at h
    · rename_i R hR
      split at h
      · rename_i row hrow
        split at h
        · rename_i hcond
          obtain ⟨c1, c2, c3⟩ := hcond
          cases h
          obtain ⟨R', p, f, b, off, h1, h2, h3, h4, h5, rfl⟩ := ptr_live hr (by simp [liveR, hR]) hd
          rw [hR] at h1
          obtain rfl : R = R' := by simpa using h1
          obtain ⟨g1, g2, g3, g4, g5⟩ := h4
          rw [h5] at g5
          obtain ⟨fr, rfl, hown, hrep⟩ := g5
          have hcr := cells_rep hx hc c3 hr
          have hvl := vs_len hcr
          have hone := vs_one hcr c3 hr
          obtain ⟨xs, ys, e1, e2, e3, e4⟩ := flatten_split g4 e row hrow
          have hbS : ¬ S b := hr.fS b (flat_get h3 b (List.mem_cons_self ..))
          have hnd : (b :: fr).Nodup := by
            obtain ⟨xs', ys', q1, _⟩ := flatten_set (f' := []) h3
            have := hr.nodup
            rw [q1] at this
            exact (List.nodup_append.1 (List.nodup_append.1 this).2.1).1
          have hbfr : b ∉ fr := (List.nodup_cons.1 hnd).1
          have hrep' := hrep
          have hsplit : R.rows.flatten = (xs ++ row.take c) ++ ((row.drop c).take cells.length ++ (row.drop (c + cells.length) ++ ys)) := by
            rw [e1, List.append_assoc]
            congr 1
            rw [← List.append_assoc, ← List.append_assoc]
            congr 1
            rw [List.append_assoc, show row.drop (c + cells.length) = (row.drop c).drop cells.length by rw [List.drop_drop], List.take_append_drop, List.take_append_drop]
          rw [hsplit] at hrep'
          have hlo : ((row.drop c).take cells.length).length = cells.length := by rw [List.length_take, List.length_drop]; omega
          have hxl : (xs ++ row.take c).length = e * p.es + c := by rw [List.length_append, e2, List.length_take, Nat.min_eq_left (by omega), g1]
          have hcs : ∀ j, j < ((row.drop c).take cells.length).length → (w.cell? ⟨b, off + (xs ++ row.take c).length + j, none⟩).isSome = true := by
            obtain ⟨_, _, _, _, k2⟩ := hrep'.append
            obtain ⟨_, _, _, k3, _⟩ := k2.append
            exact rep_some k3
          obtain ⟨f1, f2, f3, q1, q2⟩ := hrep'.write (cells := cells) (vs := x.cells.toList) hlo.symm hcr c2 (by
            intro b' hb' heq
            subst heq
            exact hb'.elim hbS hbfr) hcs
          have hsz : (sizeOf t).run P w = .ok (tsz P t) w := run_tsz' hz0 w
          have hfz : ∀ j, j < x.cells.toList.length → w.frozen? ⟨b, off + e * p.es + c + 0 + j, none⟩ = false := by
            intro j hj
            obtain ⟨arr, el, z, k1, k2, k3⟩ := hown
            have hs := hcs j (by omega)
            rw [hxl] at hs
            rw [Option.isSome_iff_exists] at hs
            obtain ⟨u, hu⟩ := hs
            simp only [World.cell?, k1] at hu
            have hlt : off + (e * p.es + c) + j < arr.size := by
              rcases Nat.lt_or_ge (off + (e * p.es + c) + j) arr.size with h | h
              · exact h
              · simp [Array.getElem?_eq_none h] at hu
            have := k3 _ hlt
            rwa [show off + e * p.es + c + 0 + j = off + (e * p.es + c) + j by omega]
          have hrun : (Instr.storeAt t (.pointer (some ⟨b, off + e * p.es + c, none⟩)) x).run P w = .ok () (w.setCells b (off + e * p.es + c) x.cells.toList) := by
            have hst := run_storeCells_cells (P := P) b (off + e * p.es + c) x.cells.toList 0 w
              (fun j hj => by
                have := hcs j (by omega)
                rw [hxl] at this
                rwa [show off + e * p.es + c + 0 + j = off + (e * p.es + c) + j by omega]) hfz hone
            rw [Nat.add_zero] at hst
            have hsize : x.cells.size = tsz P t := by rw [hz, hvl]; simp
            simp only [Instr.storeAt, Instr.sureAddr, storeVar, Sem.run_bind, Sem.run_pure, Result.andThen_ok, hsz, hsize, ne_eq, not_true_eq_false, if_false, hst]
          refine ⟨_, hrun, ?_⟩
          have hE' : E.set r (some p) = E := set_same h2
          obtain ⟨z1, z2, z3, z4⟩ := size_setCells b x.cells.toList (off + e * p.es + c) w
          have hres := hr.setRoot (w' := w.setCells b (off + e * p.es + c) x.cells.toList) (R' := { R with rows := R.rows.set e (putCells row c cells) }) (p' := p) (f' := b :: (f1 ++ f3)) hR h2 h3
            (fun b' hb' => heap_setCells b _ _ w b' (fun h => by subst h; exact hbS hb'))
            (fun b' _ hb' => heap_setCells b _ _ w b' (fun h => by subst h; exact hb' (List.mem_cons_self ..)))
            (fun b' hb1 hb2 => heap_setCells b _ _ w b' (fun h => by
              subst h
              rcases (hr.fsz b' (flat_get h3 b' (List.mem_cons_self ..))).2 with h | h
              · exact hb2 h
              · omega))
            (by rw [z1]; exact Nat.le_refl _) z2 z3 z4 ?_ ?_ ?_ (.inl p.le_refl) rfl (fun _ => p.le_refl)
          · rw [hE'] at hres
            exact ⟨_, hres⟩
          · rw [hE']
            refine ⟨g1, by simp [g2], g3, ?_, ?_⟩
            · intro r' hr'
              rcases List.mem_or_eq_of_mem_set hr' with h | h
              · exact g4 r' h
              · subst h; rw [putCells_len c1]; exact g4 row (List.mem_of_getElem? hrow)
            · rw [h5]
              refine ⟨f1 ++ f3, rfl, own_setCells b _ _ w hown, ?_⟩
              have : (R.rows.set e (putCells row c cells)).flatten = (xs ++ row.take c) ++ (cells ++ (row.drop (c + cells.length) ++ ys)) := by
                rw [List.set_eq_take_append_cons_drop, if_pos (lt_len hrow), List.flatten_append, List.flatten_cons, ← e3, ← e4]
                simp [putCells]
              rw [hxl, show off + (e * p.es + c) = off + e * p.es + c by omega] at q2
              show Rep _ S E (.l R.dat (R.rows.set e (putCells row c cells)).flatten b off) (f1 ++ f3)
              rw [this]
              exact q2
          · rw [q1] at hnd
            have n1 := List.nodup_cons.1 hnd
            have n2 := List.nodup_append.1 n1.2
            have n3 := List.nodup_append.1 n2.2.1
            refine List.nodup_cons.2 ⟨fun h => n1.1 ?_, List.nodup_append.2 ⟨n2.1, n3.2.1, fun x hx y hy => n2.2.2 x hx y (List.mem_append_right _ hy)⟩⟩
            rcases List.mem_append.1 h with h | h
            · exact List.mem_append_left _ h
            · exact List.mem_append_right _ (List.mem_append_right _ h)
          · intro b' hb'
            have hmem : b' ∈ b :: fr := by
              rcases List.mem_cons.1 hb' with h | h
              · rw [h]; exact List.mem_cons_self ..
              · rw [q1]
                refine List.mem_cons_of_mem _ ?_
                rcases List.mem_append.1 h with h | h
                · exact List.mem_append_left _ h
                · exact List.mem_append_right _ (List.mem_append_right _ h)
            exact ⟨.inl hmem, by rw [z1]; exact (hr.fsz b' (flat_get h3 b' hmem)).1⟩
        · cases h
      · cases h
    · cases h
  · cases h

end
end Go.Dl
