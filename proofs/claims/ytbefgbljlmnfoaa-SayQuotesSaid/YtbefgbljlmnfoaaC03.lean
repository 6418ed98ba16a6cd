/- 'Dl', part K: a root changes, a root goes; stores; 'Dl', part L: operations that write or make memory: store, alloc, box; 'Dl', part M: zero values, boxes, aggregates, slices that are made; 'Dl', part N: slices that are made; 'Dl', part O: append. -/
import Derived.Test.YtbefgbljlmnfoaaC02
namespace Go.Dl
open Go.RowKit

section
variable {P : Program} {g : G} {S : Nat → Prop} {E : Env} {F : List (List Nat)} {A : St} {a : Act} {w : World}

theorem flatten_set {F : List (List Nat)} {r : Nat} {f f' : List Nat} (h : F[r]? = some f) : ∃ xs ys, F.flatten = xs ++ (f ++ ys) ∧ (F.set r f').flatten = xs ++ (f' ++ ys) := by
  refine ⟨(F.take r).flatten, (F.drop (r + 1)).flatten, ?_, ?_⟩
  · conv => lhs; rw [← List.take_append_drop r F]
    rw [List.flatten_append]
    congr 1
    rw [List.drop_eq_getElem_cons (lt_len h), List.flatten_cons]
    congr 1
    rw [List.getElem?_eq_getElem (lt_len h)] at h
    exact Option.some.inj h
  · rw [List.set_eq_take_append_cons_drop, if_pos (lt_len h), List.flatten_append, List.flatten_cons]

theorem envLe_set {r : Nat} {p p' : Pl} {ok : Nat → Bool} (h : E[r]? = some (some p)) (hp : ok r = true ∨ p.le p') : EnvLe E (E.set r (some p')) ok := by
  refine ⟨by simp, fun i hi hok q hq => ?_⟩
  rw [List.getElem?_set] at hq
  split at hq
  · rename_i hri
    subst hri
    rw [if_pos hi] at hq
    cases hq
    rcases hp with hp | hp
    · rw [hp] at hok; cases hok
    · exact ⟨p, h, hp⟩
  · exact ⟨q, hq, q.le_refl⟩

theorem envLe_drop {r : Nat} {ok : Nat → Bool} : EnvLe E (E.set r none) ok := by
  refine ⟨by simp, fun i hi hok q hq => ?_⟩
  rw [List.getElem?_set] at hq
  split at hq
  · split at hq <;> cases hq
  · exact ⟨q, hq, q.le_refl⟩

/-- No slot and no other root speaks of a root. -/
def Free (A : St) (r : Nat) : Prop :=
  (∀ (t : Nat) (d : D), A.sl[t]? = some d → D.no r d = true) ∧ ∀ (i : Nat) (R : Root), i ≠ r → A.H[i]? = some (some R) → (R.dat || C.nos r R.rows.flatten) = true

theorem Rel.setRoot {w' : World} (hr : Rel g S E F A a w) {r : Nat} {R R' : Root} {p p' : Pl} {f f' : List Nat} (hR : A.H[r]? = some (some R)) (hE : E[r]? = some (some p)) (hF : F[r]? = some f)
    (hS : ∀ b, S b → w'.heap[b]? = w.heap[b]?) (hO : ∀ b, b ∈ F.flatten → b ∉ f → w'.heap[b]? = w.heap[b]?) (hP : ∀ b, b < g.w0.heap.size → b ∉ g.own → w'.heap[b]? = w.heap[b]?)
    (hz : w.heap.size ≤ w'.heap.size) (ho : w'.os = w.os) (ht : w'.tape = w.tape) (hu : OutLe w w')
    (hR' : RootAt w' S (E.set r (some p')) R' p' f') (hf1 : f'.Nodup) (hf2 : ∀ b ∈ f', (b ∈ f ∨ w.heap.size ≤ b) ∧ b < w'.heap.size) (hfree : p.le p' ∨ Free A r) (hdd : R'.dat = R.dat) (hle : R.dat = false → p.le p') :
    Rel g S (E.set r (some p')) (F.set r f') { A with H := A.H.set r (some R') } a w' := by
  have hSlt : ∀ b, S b → b < w.heap.size := fun b h => (hr.Ssz b h).1
  have hFlt : ∀ b, b ∈ F.flatten → b < w.heap.size := fun b h => (hr.fsz b h).1
  obtain ⟨xs, ys, e1, e2⟩ := flatten_set (f' := f') hF
  have hnd := hr.nodup
  rw [e1] at hnd
  have hnd2 := List.nodup_append.1 hnd
  have hnd3 := List.nodup_append.1 hnd2.2.1
  have hmem : ∀ b, b ∈ (F.set r f').flatten → (b ∈ F.flatten ∧ b ∉ f) ∨ b ∈ f' := by
    intro b hb
    rw [e2, List.mem_append, List.mem_append] at hb
    rcases hb with h | h | h
    · exact .inl ⟨by rw [e1]; exact List.mem_append_left _ h, fun hf => hnd2.2.2 b h b (List.mem_append_left _ hf) rfl⟩
    · exact .inr h
    · exact .inl ⟨by rw [e1]; exact List.mem_append_right _ (List.mem_append_right _ h), fun hf => hnd3.2.2 b hf b h rfl⟩
  refine { len := hr.len, sl := ?_, defers := hr.defers, lE := by simp [hr.lE], lF := by simp [hr.lF], root := ?_, dead := ?_, nodup := ?_, fS := ?_, fsz := ?_, Ssz := ?_, S0 := hr.S0, prot := ?_, size := Nat.le_trans hr.size hz, os := ho.trans hr.os, tape := ht.trans hr.tape, output := hu.trans hr.output, fix := ?_ }
  · intro t d h
    refine (hr.sl t d h).mono (fun _ h => h) (envLe_set hE ?_) hS
    exact hfree.elim .inr fun h' => .inl (h'.1 t d h)
  · intro i R0 h
    rw [List.getElem?_set] at h
    split at h
    · rename_i hri
      subst hri
      rw [if_pos (lt_len hR)] at h
      cases h
      exact ⟨p', f', by rw [List.getElem?_set_self (lt_len hE)], by rw [List.getElem?_set_self (lt_len hF)], hR'⟩
    · rename_i hri
      obtain ⟨q, fq, h1, h2, h3⟩ := hr.root i R0 h
      refine ⟨q, fq, by rw [List.getElem?_set_ne hri]; exact h1, by rw [List.getElem?_set_ne hri]; exact h2, h3.mono (fun _ h => h) (envLe_set hE ?_) ?_⟩
      · exact hfree.elim .inr fun h' => .inl (h'.2 i R0 (Ne.symm hri) h)
      · intro b hb
        rcases hb with hb | hb
        · exact hS b hb
        · refine hO b (flat_get h2 b hb) fun hbf => ?_
          obtain ⟨xs', ys', e1', e2'⟩ := flatten_set (f' := []) hF
          have hi : (F.set r [])[i]? = some fq := by rw [List.getElem?_set_ne hri]; exact h2
          have hb' := flat_get hi b hb
          rw [e2'] at hb'
          have hn := hr.nodup
          rw [e1'] at hn
          have n2 := List.nodup_append.1 hn
          have n3 := List.nodup_append.1 n2.2.1
          rw [List.mem_append] at hb'
          rcases hb' with hb' | hb'
          · exact n2.2.2 b hb' b (List.mem_append_left _ hbf) rfl
          · exact n3.2.2 b hbf b (by simpa using hb') rfl
  · intro i h
    rw [List.getElem?_set] at h
    split at h
    · rename_i hri
      split at h <;> cases h
    · rename_i hri
      obtain ⟨h1, h2⟩ := hr.dead i h
      exact ⟨by rw [List.getElem?_set_ne hri]; exact h1, by rw [List.getElem?_set_ne hri]; exact h2⟩
  · rw [e2, List.nodup_append]
    refine ⟨hnd2.1, List.nodup_append.2 ⟨hf1, hnd3.2.1, ?_⟩, ?_⟩
    · intro x hx y hy hxy
      subst hxy
      rcases (hf2 x hx).1 with h | h
      · exact hnd3.2.2 x h x hy rfl
      · have := hFlt x (by rw [e1]; exact List.mem_append_right _ (List.mem_append_right _ hy)); omega
    · intro x hx y hy hxy
      subst hxy
      rw [List.mem_append] at hy
      rcases hy with hy | hy
      · rcases (hf2 x hy).1 with h | h
        · exact hnd2.2.2 x hx x (List.mem_append_left _ h) rfl
        · have := hFlt x (by rw [e1]; exact List.mem_append_left _ hx); omega
      · exact hnd2.2.2 x hx x (List.mem_append_right _ hy) rfl
  · intro b hb
    rcases hmem b hb with h | h
    · exact hr.fS b h.1
    · rcases (hf2 b h).1 with h | h
      · exact hr.fS b (flat_get hF b h)
      · intro hs; have := hSlt b hs; omega
  · intro b hb
    rcases hmem b hb with h | h
    · exact ⟨Nat.lt_of_lt_of_le (hr.fsz b h.1).1 hz, (hr.fsz b h.1).2⟩
    · refine ⟨(hf2 b h).2, ?_⟩
      rcases (hf2 b h).1 with h | h
      · exact (hr.fsz b (flat_get hF b h)).2
      · exact .inr (Nat.le_trans hr.size h)
  · intro b hb
    exact ⟨Nat.lt_of_lt_of_le (hr.Ssz b hb).1 hz, (hr.Ssz b hb).2⟩
  · intro b h1 h2
    exact (hP b h1 h2).trans (hr.prot b h1 h2)
  · intro i q hq
    obtain ⟨h1, h2⟩ := hr.fix i q hq
    refine ⟨by simpa using h1, fun R0 h => ?_⟩
    rw [List.getElem?_set] at h
    split at h
    · rename_i hri
      subst hri
      rw [if_pos (lt_len hR)] at h
      cases h
      obtain ⟨k1, k2⟩ := h2 R hR
      refine ⟨hdd.trans k1, fun p1 hp1 => ?_⟩
      rw [List.getElem?_set_self (lt_len hE)] at hp1
      cases hp1
      exact (k2 p hE).trans (hle k1)
    · rename_i hri
      obtain ⟨k1, k2⟩ := h2 R0 h
      exact ⟨k1, fun p1 hp1 => k2 p1 (by rwa [List.getElem?_set_ne hri] at hp1)⟩

/-- A root goes out of sight. -/
theorem Rel.dropRoot (hr : Rel g S E F A a w) (r : Nat) : Rel g S (E.set r none) (F.set r []) { A with H := A.H.set r none } a w := by
  have hsub : ∀ b, b ∈ (F.set r []).flatten → b ∈ F.flatten := by
    intro b hb
    obtain ⟨f, h1, h2⟩ := List.mem_flatten.1 hb
    rcases List.mem_or_eq_of_mem_set h1 with h | h
    · exact List.mem_flatten.2 ⟨f, h, h2⟩
    · subst h; cases h2
  refine { len := hr.len, sl := ?_, defers := hr.defers, lE := by simp [hr.lE], lF := by simp [hr.lF], root := ?_, dead := ?_, nodup := ?_, fS := fun b h => hr.fS b (hsub b h), fsz := fun b h => hr.fsz b (hsub b h), Ssz := hr.Ssz, S0 := hr.S0, prot := hr.prot, size := hr.size, os := hr.os, tape := hr.tape, output := hr.output, fix := ?_ }
  · intro t d h
    exact (hr.sl t d h).mono (fun _ h => h) envLe_drop (fun _ _ => rfl)
  · intro i R0 h
    rw [List.getElem?_set] at h
    split at h
    · split at h <;> cases h
    · rename_i hri
      obtain ⟨q, fq, h1, h2, h3⟩ := hr.root i R0 h
      exact ⟨q, fq, by rw [List.getElem?_set_ne hri]; exact h1, by rw [List.getElem?_set_ne hri]; exact h2, h3.mono (fun _ h => h) envLe_drop (fun _ _ => rfl)⟩
  · intro i h
    rw [List.getElem?_set] at h
    split at h
    · rename_i hri
      subst hri
      split at h
      · rename_i hlt
        exact ⟨by rw [List.getElem?_set_self (by rw [hr.lE]; exact hlt)], by rw [List.getElem?_set_self (by rw [hr.lF]; exact hlt)]⟩
      · cases h
    · rename_i hri
      obtain ⟨h1, h2⟩ := hr.dead i h
      exact ⟨by rw [List.getElem?_set_ne hri]; exact h1, by rw [List.getElem?_set_ne hri]; exact h2⟩
  · by_cases hlt : r < F.length
    · obtain ⟨xs, ys, e1, e2⟩ := flatten_set (f' := []) (List.getElem?_eq_getElem hlt)
      have hn := hr.nodup
      rw [e1] at hn
      rw [e2, List.nil_append]
      have n2 := List.nodup_append.1 hn
      have n3 := List.nodup_append.1 n2.2.1
      exact List.nodup_append.2 ⟨n2.1, n3.2.1, fun x hx y hy => n2.2.2 x hx y (List.mem_append_right _ hy)⟩
    · rw [List.set_eq_of_length_le (by omega)]; exact hr.nodup
  · intro i q hq
    obtain ⟨h1, h2⟩ := hr.fix i q hq
    refine ⟨by simpa using h1, fun R0 h => ?_⟩
    rw [List.getElem?_set] at h
    split at h
    · split at h <;> cases h
    · rename_i hri
      obtain ⟨k1, k2⟩ := h2 R0 h
      exact ⟨k1, fun p1 hp1 => k2 p1 (by rwa [List.getElem?_set_ne hri] at hp1)⟩

theorem Rep.congr {w w' : World} {S : Nat → Prop} {E : Env} {dat : Bool} {b : Nat} (hsh : ∀ arr T z, w.heap[b]? = some (.cells arr T z) → ∃ arr', w'.heap[b]? = some (.cells arr' T z) ∧ arr'.size = arr.size) : ∀ {cs : List C} {off : Nat} {fp : List Nat}, Rep w S E (.l dat cs b off) fp →
    (∀ j, j < cs.length → w'.cell? ⟨b, off + j, none⟩ = w.cell? ⟨b, off + j, none⟩) → (∀ b', S b' ∨ b' ∈ fp → w'.heap[b']? = w.heap[b']?) → Rep w' S E (.l dat cs b off) fp := by
  intro cs
  induction cs with
  | nil => intro off fp h _ _; cases h; exact .lnil
  | cons c cs ih =>
    intro off fp h hc hb
    cases h with
    | lcons hv h1 h2 =>
      refine .lcons ?_ (h1.mono (fun _ h => h) (.refl _ _) ?_) (ih h2 ?_ ?_)
      · rw [show off = off + 0 from rfl, hc 0 (by simp)]; exact hv
      · intro b' hb'
        rcases hb' with h | h | h
        · exact hb b' (.inl h)
        · exact hb b' (.inr (List.mem_append_left _ h))
        · cases h
      · intro j hj
        rw [show off + 1 + j = off + (j + 1) by omega]
        exact hc (j + 1) (by simp; omega)
      · intro b' hb'
        exact hb b' (hb'.imp id fun h => List.mem_append_right _ h)
    | lb hv hz h0 h1 h2 =>
      rename_i T v arr
      obtain ⟨arr', k1, k2⟩ := hsh _ _ _ hv
      have k3 := hc 0 (by simp)
      rw [show w.cell? ⟨b, 0 + 0, none⟩ = some v by simp [World.cell?, hv, h0]] at k3
      refine .lb k1 (k2.trans hz) (by simpa [World.cell?, k1] using k3) h1 (ih h2 ?_ ?_)
      · intro j hj
        rw [show 1 + j = 0 + (j + 1) by omega]
        exact hc (j + 1) (by simp; omega)
      · exact hb

end
end Go.Dl

namespace Go.Dl
open Go.RowKit

def D.cells : D → Option (List C)
  | .c y => some [y]
  | .agg xs => some xs
  | _ => none

/-- Cells that may be stored. -/
def C.st (H : List (Option Root)) : C → Bool
  | .x => false
  | .h r _ _ => liveR H r
  | .p r _ _ => liveR H r
  | _ => true

def putCells (row : List C) (c : Nat) (cells : List C) : List C := row.take c ++ (cells ++ row.drop (c + cells.length))

/-- A store at a place of a root. -/
def storeA (H : List (Option Root)) (cells : List C) : D → Option (List (Option Root))
  | .c (.p r e c) => match H[r]? with
    | some (some R) => match R.rows[e]? with
      | some row => if c + cells.length ≤ row.length ∧ (R.dat = true → cells.all C.dat = true) ∧ cells.all (C.st H) = true
          then some (H.set r (some { R with rows := R.rows.set e (putCells row c cells) })) else none
      | none => none
    | _ => none
  | _ => none

section
variable {P : Program} {g : G} {S : Nat → Prop} {E : Env} {F : List (List Nat)} {A : St} {a : Act} {w : World}

theorem set_same {α : Type} {l : List α} {i : Nat} {x : α} (h : l[i]? = some x) : l.set i x = l := by
  apply List.ext_getElem?
  intro j
  rw [List.getElem?_set]
  split
  · rename_i hij; subst hij; rw [if_pos (lt_len h), h]
  · rfl

theorem heap_setCells (b : Nat) : ∀ (vs : List Value) (o : Nat) (w : World) (k : Nat), k ≠ b → (w.setCells b o vs).heap[k]? = w.heap[k]?
  | [], _, _, _, _ => rfl
  | v :: r, o, w, k, h => by
    rw [World.setCells, heap_setCells b r (o + 1) _ k h]
    exact Below.heap_setCell _ _ _ _ h

theorem size_setCells (b : Nat) : ∀ (vs : List Value) (o : Nat) (w : World), (w.setCells b o vs).heap.size = w.heap.size ∧ (w.setCells b o vs).os = w.os ∧ (w.setCells b o vs).tape = w.tape ∧ OutLe w (w.setCells b o vs)
  | [], _, _ => ⟨rfl, rfl, rfl, .rf _⟩
  | v :: r, o, w => by
    rw [World.setCells]
    obtain ⟨h1, h2, h3, h4⟩ := size_setCells b r (o + 1) (w.setCell ⟨b, o, none⟩ v)
    exact ⟨by rw [h1]; simp, h2, h3, h4.trans ⟨rfl, Nat.le_refl _⟩⟩

theorem own_setCell {w : World} {b n : Nat} {a : Addr} {v : Value} (h : OwnBlock w b n) : OwnBlock (w.setCell a v) b n := by
  obtain ⟨arr, el, z, h1, h2, h3⟩ := h
  by_cases hb : b = a.block
  · subst hb
    have hlt : a.block < w.heap.size := by
      rcases Nat.lt_or_ge a.block w.heap.size with h | h
      · exact h
      · rw [Array.getElem?_eq_none h] at h1; cases h1
    refine ⟨if a.spot.isSome then arr else arr.setIfInBounds a.off v, el, z, ?_, ?_, ?_⟩
    · have h' : w.heap[a.block] = .cells arr el z := by simpa [Array.getElem?_eq_getElem hlt] using h1
      show (w.heap.modify a.block _)[a.block]? = _
      rw [Array.getElem?_eq_getElem (by simpa using hlt), Array.getElem_modify_self, h']
    · split
      · exact h2
      · simpa using h2
    · intro o ho
      rw [World.frozen?_setCell]
      exact h3 o (by split at ho <;> simpa using ho)
  · exact ⟨arr, el, z, by rw [Below.heap_setCell _ _ _ _ hb]; exact h1, h2, fun o ho => by rw [World.frozen?_setCell]; exact h3 o ho⟩

theorem own_setCells (b' : Nat) : ∀ (vs : List Value) (o : Nat) (w : World) {b n : Nat}, OwnBlock w b n → OwnBlock (w.setCells b' o vs) b n
  | [], _, _, _, _, h => h
  | _ :: r, o, _, _, _, h => own_setCells b' r (o + 1) _ (own_setCell h)

theorem shape_setCell {w : World} {b : Nat} {a : Addr} {v : Value} {arr : Array Value} {T : TypeId} {z : Nat × Nat} (h : w.heap[b]? = some (.cells arr T z)) :
    ∃ arr', (w.setCell a v).heap[b]? = some (.cells arr' T z) ∧ arr'.size = arr.size := by
  by_cases hb : b = a.block
  · subst hb
    have hlt : a.block < w.heap.size := by
      rcases Nat.lt_or_ge a.block w.heap.size with h' | h'
      · exact h'
      · rw [Array.getElem?_eq_none h'] at h; cases h
    refine ⟨if a.spot.isSome then arr else arr.setIfInBounds a.off v, ?_, ?_⟩
    · have h' : w.heap[a.block] = .cells arr T z := by simpa [Array.getElem?_eq_getElem hlt] using h
      show (w.heap.modify a.block _)[a.block]? = _
      rw [Array.getElem?_eq_getElem (by simpa using hlt), Array.getElem_modify_self, h']
    · split
      · rfl
      · simp
  · exact ⟨arr, by rw [Below.heap_setCell _ _ _ _ hb]; exact h, rfl⟩

theorem shape_setCells (b' : Nat) : ∀ (vs : List Value) (o : Nat) (w : World) {b : Nat} {arr : Array Value} {T : TypeId} {z : Nat × Nat}, w.heap[b]? = some (.cells arr T z) →
    ∃ arr', (w.setCells b' o vs).heap[b]? = some (.cells arr' T z) ∧ arr'.size = arr.size
  | [], _, _, _, _, _, _, h => ⟨_, h, rfl⟩
  | v :: r, o, w, b, arr, T, z, h => by
    obtain ⟨a1, h1, h2⟩ := shape_setCell (a := ⟨b', o, none⟩) (v := v) h
    obtain ⟨a2, h3, h4⟩ := shape_setCells b' r (o + 1) _ h1
    exact ⟨a2, h3, h4.trans h2⟩

theorem vs_one {cs : List C} {vs : List Value} (h : Rep w S E (.vs cs vs) []) (hs : cs.all (C.st A.H) = true) (hr : Rel g S E F A a w) : ∀ v ∈ vs, v.oneCell' = true := by
  induction cs generalizing vs with
  | nil => cases h; simp
  | cons c cs ih =>
    generalize hfp : ([] : List Nat) = fp at h
    cases h with
    | vcons h1 h2 =>
      obtain ⟨rfl, rfl⟩ := List.append_eq_nil_iff.1 hfp.symm
      simp only [List.all_cons, Bool.and_eq_true] at hs
      intro v hv
      rcases List.mem_cons.1 hv with rfl | hv
      · refine h1.one ?_ ?_ ?_
        · rintro rfl; simp [C.st] at hs
        · rintro r lo len rfl
          obtain ⟨R, p, f, _, h3, _⟩ := live_root hr hs.1
          exact ⟨p, h3⟩
        · rintro r e k rfl
          obtain ⟨R, p, f, _, h3, _⟩ := live_root hr hs.1
          exact ⟨p, h3⟩
      · exact ih h2 hs.2 v hv

theorem putCells_len {row cells : List C} {c : Nat} (h : c + cells.length ≤ row.length) : (putCells row c cells).length = row.length := by
  simp [putCells]; omega

theorem vs_len {cs : List C} {vs : List Value} (h : Rep w S E (.vs cs vs) []) : cs.length = vs.length := (vs_get h).1

/-- Cells in memory, some of them written. -/
theorem Rep.write {dat : Bool} {b off : Nat} {xs old ys cells : List C} {vs : List Value} {fp : List Nat} (h : Rep w S E (.l dat (xs ++ (old ++ ys)) b off) fp) (hlen : cells.length = old.length)
    (hv : Rep w S E (.vs cells vs) []) (hd : dat = true → cells.all C.dat = true) (hb : ∀ b', S b' ∨ b' ∈ fp → b' ≠ b) (hc : ∀ j, j < old.length → (w.cell? ⟨b, off + xs.length + j, none⟩).isSome = true) :
    ∃ f1 f2 f3, fp = f1 ++ (f2 ++ f3) ∧ Rep (w.setCells b (off + xs.length) vs) S E (.l dat (xs ++ (cells ++ ys)) b off) (f1 ++ f3) := by
  obtain ⟨f1, f23, rfl, h1, h2⟩ := h.append
  obtain ⟨f2, f3, rfl, h3, h4⟩ := h2.append
  have hvl := vs_len hv
  refine ⟨f1, f2, f3, rfl, ?_⟩
  have hheap : ∀ b', b' ≠ b → (w.setCells b (off + xs.length) vs).heap[b']? = w.heap[b']? := fun b' h => heap_setCells b vs _ w b' h
  have hsh : ∀ arr T z, w.heap[b]? = some (.cells arr T z) → ∃ arr', (w.setCells b (off + xs.length) vs).heap[b]? = some (.cells arr' T z) ∧ arr'.size = arr.size := fun _ _ _ h => shape_setCells b vs _ w h
  refine Rep.join (h1.congr hsh ?_ ?_) ?_
  · intro j hj
    exact World.cell?_setCells_out b vs _ w _ (fun _ _ => .inl (show off + j < off + xs.length by omega))
  · intro b' hb'
    exact hheap b' (hb b' (hb'.imp id fun h => List.mem_append_left _ h))
  · rw [show f3 = [] ++ f3 from rfl]
    refine Rep.join ?_ ?_
    · refine rep_new (hv.mono (fun _ h => h) (.refl _ _) ?_) hd ?_
      · intro b' hb'
        rcases hb' with h | h | h
        · exact hheap b' (hb b' (.inl h))
        · cases h
        · cases h
      · intro j v hj
        have := World.cell?_setCells_in b vs (off + xs.length) w (fun j hj => hc j (by omega)) j (lt_len hj)
        rw [this]
        rw [List.getElem?_eq_getElem (lt_len hj)] at hj
        exact hj
    · rw [hlen]
      refine h4.congr hsh ?_ ?_
      · intro j hj
        exact World.cell?_setCells_out b vs _ w _ (fun _ _ => .inr (show off + xs.length + vs.length ≤ off + xs.length + old.length + j by omega))
      · intro b' hb'
        exact hheap b' (hb b' (hb'.imp id fun h => List.mem_append_right _ (List.mem_append_right _ h)))

theorem cells_rep {d : D} {v : Value} {cells : List C} (hd : RepD w S E d v) (h : d.cells = some cells) (hx : cells.all (C.st A.H) = true) (hr : Rel g S E F A a w) :
    Rep w S E (.vs cells v.cells.toList) [] := by
  cases hd with
  | top => cases h
  | c h1 =>
    cases h
    have h2 : Rep w S E (.vs [_] [v]) [] := .vcons (f1 := []) (f2 := []) h1 .vnil
    have := vs_one h2 hx hr v (by simp)
    have e : v.cells = #[v] := by cases v <;> first | rfl | simp [Value.oneCell'] at this
    rw [e]; exact h2
  | agg h1 => cases h; exact h1
  | q _ _ => cases h
  | t _ _ => cases h

theorem rep_some {dat : Bool} {b off : Nat} {cs : List C} {fp : List Nat} (h : Rep w S E (.l dat cs b off) fp) : ∀ j, j < cs.length → (w.cell? ⟨b, off + j, none⟩).isSome = true := by
  intro j hj
  obtain ⟨v, fp', h1, _, _⟩ := h.at j cs[j] (List.getElem?_eq_getElem hj)
  rw [h1]; rfl

theorem storeA_sound (hr : Rel g S E F A a w) {t : TypeId} {d dx : D} {v x : Value} {cells : List C} {H' : List (Option Root)} (hd : RepD w S E d v) (hx : RepD w S E dx x)
    (hc : dx.cells = some cells) (hz : tsz P t = cells.length) (hz0 : tsz P t ≠ 0) (h : storeA A.H cells d = some H') :
    ∃ w', (Instr.storeAt t v x).run P w = .ok () w' ∧ ∃ F', Rel g S E F' { A with H := H' } a w' := by
  unfold storeA at h
  split at h
  · rename_i r e c
    split at h
    · rename_i R hR
      split at h
      · rename_i row hrow
        split at h
        · rename_i hcond
          obtain ⟨c1, c2, c3⟩ := hcond
          cases h
          obtain ⟨R', p, f, b, off, h1, h2, h3, h4, h5, rfl⟩ := ptr_live hr (by simp [liveR, hR]) hd
          rw [hR] at h1
          obtain rfl : R = R' := by simpa using h1
          obtain ⟨g1, g2, g3, g4, g5⟩ := h4
          rw [h5] at g5
          obtain ⟨fr, rfl, hown, hrep⟩ := g5
          have hcr := cells_rep hx hc c3 hr
          have hvl := vs_len hcr
          have hone := vs_one hcr c3 hr
          obtain ⟨xs, ys, e1, e2, e3, e4⟩ := flatten_split g4 e row hrow
          have hbS : ¬ S b := hr.fS b (flat_get h3 b (List.mem_cons_self ..))
          have hnd : (b :: fr).Nodup := by
            obtain ⟨xs', ys', q1, _⟩ := flatten_set (f' := []) h3
            have := hr.nodup
            rw [q1] at this
            exact (List.nodup_append.1 (List.nodup_append.1 this).2.1).1
          have hbfr : b ∉ fr := (List.nodup_cons.1 hnd).1
          have hrep' := hrep
          have hsplit : R.rows.flatten = (xs ++ row.take c) ++ ((row.drop c).take cells.length ++ (row.drop (c + cells.length) ++ ys)) := by
            rw [e1, List.append_assoc]
            congr 1
            rw [← List.append_assoc, ← List.append_assoc]
            congr 1
            rw [List.append_assoc, show row.drop (c + cells.length) = (row.drop c).drop cells.length by rw [List.drop_drop], List.take_append_drop, List.take_append_drop]
          rw [hsplit] at hrep'
          have hlo : ((row.drop c).take cells.length).length = cells.length := by rw [List.length_take, List.length_drop]; omega
          have hxl : (xs ++ row.take c).length = e * p.es + c := by rw [List.length_append, e2, List.length_take, Nat.min_eq_left (by omega), g1]
          have hcs : ∀ j, j < ((row.drop c).take cells.length).length → (w.cell? ⟨b, off + (xs ++ row.take c).length + j, none⟩).isSome = true := by
            obtain ⟨_, _, _, _, k2⟩ := hrep'.append
            obtain ⟨_, _, _, k3, _⟩ := k2.append
            exact rep_some k3
          obtain ⟨f1, f2, f3, q1, q2⟩ := hrep'.write (cells := cells) (vs := x.cells.toList) hlo.symm hcr c2 (by
            intro b' hb' heq
            subst heq
            exact hb'.elim hbS hbfr) hcs
          have hsz : (sizeOf t).run P w = .ok (tsz P t) w := run_tsz' hz0 w
          have hfz : ∀ j, j < x.cells.toList.length → w.frozen? ⟨b, off + e * p.es + c + 0 + j, none⟩ = false := by
            intro j hj
            obtain ⟨arr, el, z, k1, k2, k3⟩ := hown
            have hs := hcs j (by omega)
            rw [hxl] at hs
            rw [Option.isSome_iff_exists] at hs
            obtain ⟨u, hu⟩ := hs
            simp only [World.cell?, k1] at hu
            have hlt : off + (e * p.es + c) + j < arr.size := by
              rcases Nat.lt_or_ge (off + (e * p.es + c) + j) arr.size with h | h
              · exact h
              · simp [Array.getElem?_eq_none h] at hu
            have := k3 _ hlt
            rwa [show off + e * p.es + c + 0 + j = off + (e * p.es + c) + j by omega]
          have hrun : (Instr.storeAt t (.pointer (some ⟨b, off + e * p.es + c, none⟩)) x).run P w = .ok () (w.setCells b (off + e * p.es + c) x.cells.toList) := by
            have hst := run_storeCells_cells (P := P) b (off + e * p.es + c) x.cells.toList 0 w
              (fun j hj => by
                have := hcs j (by omega)
                rw [hxl] at this
                rwa [show off + e * p.es + c + 0 + j = off + (e * p.es + c) + j by omega]) hfz hone
            rw [Nat.add_zero] at hst
            have hsize : x.cells.size = tsz P t := by rw [hz, hvl]; simp
            simp only [Instr.storeAt, Instr.sureAddr, storeVar, Sem.run_bind, Sem.run_pure, Result.andThen_ok, hsz, hsize, ne_eq, not_true_eq_false, if_false, hst]
          refine ⟨_, hrun, ?_⟩
          have hE' : E.set r (some p) = E := set_same h2
          obtain ⟨z1, z2, z3, z4⟩ := size_setCells b x.cells.toList (off + e * p.es + c) w
          have hres := hr.setRoot (w' := w.setCells b (off + e * p.es + c) x.cells.toList) (R' := { R with rows := R.rows.set e (putCells row c cells) }) (p' := p) (f' := b :: (f1 ++ f3)) hR h2 h3
            (fun b' hb' => heap_setCells b _ _ w b' (fun h => by subst h; exact hbS hb'))
            (fun b' _ hb' => heap_setCells b _ _ w b' (fun h => by subst h; exact hb' (List.mem_cons_self ..)))
            (fun b' hb1 hb2 => heap_setCells b _ _ w b' (fun h => by
              subst h
              rcases (hr.fsz b' (flat_get h3 b' (List.mem_cons_self ..))).2 with h | h
              · exact hb2 h
              · omega))
            (by rw [z1]; exact Nat.le_refl _) z2 z3 z4 ?_ ?_ ?_ (.inl p.le_refl) rfl (fun _ => p.le_refl)
          · rw [hE'] at hres
            exact ⟨_, hres⟩
          · rw [hE']
            refine ⟨g1, by simp [g2], g3, ?_, ?_⟩
            · intro r' hr'
              rcases List.mem_or_eq_of_mem_set hr' with h | h
              · exact g4 r' h
              · subst h; rw [putCells_len c1]; exact g4 row (List.mem_of_getElem? hrow)
            · rw [h5]
              refine ⟨f1 ++ f3, rfl, own_setCells b _ _ w hown, ?_⟩
              have : (R.rows.set e (putCells row c cells)).flatten = (xs ++ row.take c) ++ (cells ++ (row.drop (c + cells.length) ++ ys)) := by
                rw [List.set_eq_take_append_cons_drop, if_pos (lt_len hrow), List.flatten_append, List.flatten_cons, ← e3, ← e4]
                simp [putCells]
              rw [hxl, show off + (e * p.es + c) = off + e * p.es + c by omega] at q2
              show Rep _ S E (.l R.dat (R.rows.set e (putCells row c cells)).flatten b off) (f1 ++ f3)
              rw [this]
              exact q2
          · rw [q1] at hnd
            have n1 := List.nodup_cons.1 hnd
            have n2 := List.nodup_append.1 n1.2
            have n3 := List.nodup_append.1 n2.2.1
            refine List.nodup_cons.2 ⟨fun h => n1.1 ?_, List.nodup_append.2 ⟨n2.1, n3.2.1, fun x hx y hy => n2.2.2 x hx y (List.mem_append_right _ hy)⟩⟩
            rcases List.mem_append.1 h with h | h
            · exact List.mem_append_left _ h
            · exact List.mem_append_right _ (List.mem_append_right _ h)
          · intro b' hb'
            have hmem : b' ∈ b :: fr := by
              rcases List.mem_cons.1 hb' with h | h
              · rw [h]; exact List.mem_cons_self ..
              · rw [q1]
                refine List.mem_cons_of_mem _ ?_
                rcases List.mem_append.1 h with h | h
                · exact List.mem_append_left _ h
                · exact List.mem_append_right _ (List.mem_append_right _ h)
            exact ⟨.inl hmem, by rw [z1]; exact (hr.fsz b' (flat_get h3 b' hmem)).1⟩
        · cases h
      · cases h
    · cases h
  · cases h

end
end Go.Dl

namespace Go.Dl
open Go.RowKit

/-- A type's zero value. -/
def tz (P : Program) (t : TypeId) : Option (List C) :=
  match (P.info? t).bind (·.zero) with
  | some z => if z.cells.toList.all scB then some (z.cells.toList.map constC) else none
  | none => none

def newRoot (H : List (Option Root)) (R : Root) : List (Option Root) := H ++ [some R]

def boxA (H : List (Option Root)) (cells : List C) : Option (D × List (Option Root)) :=
  if cells.all (C.st H) = true then some (.c (.p H.length 0 0), H ++ [some ⟨false, cells.length, [cells]⟩]) else none

def fillA (place : Nat → Option (Nat × Nat)) : List C → List (Nat × List C) → Option (List C)
  | cells, [] => some cells
  | cells, (i, cs) :: rest => match place i with
    | some (off, size) => if cs.length = size ∧ off + cs.length ≤ cells.length then fillA place (putCells cells off cs) rest else none
    | none => none

/-- The parts of a literal. -/
def partsA (ρ : Operand → Option D) (H : List (Option Root)) : List (Nat × Operand) → Option (List (Nat × List C))
  | [] => some []
  | (i, x) :: rest => match (ρ x).bind D.cells, partsA ρ H rest with
    | some cs, some l => if cs.all (C.st H) = true then some ((i, cs) :: l) else none
    | _, _ => none

def placeSt (P : Program) (l : List (TypeId × Nat)) (i : Nat) : Option (Nat × Nat) := (l[i]?).map fun x => (x.2, tsz P x.1)

def buildA (P : Program) (ρ : Operand → Option D) (H : List (Option Root)) (t : TypeId) (parts : List (Nat × Operand)) : Option D :=
  match tz P t, partsA ρ H parts, tk P t with
  | some z, some ps, some (.st l) => if l.all (fun x => tsz P x.1 != 0) = true then (fillA (placeSt P l) z ps).map .agg else none
  | some z, some ps, some (.arr _ e) => if tsz P e ≠ 0 then (fillA (fun i => some (i * tsz P e, tsz P e)) z ps).map .agg else none
  | _, _, _ => none

/-- Cells, so many at a time. -/
def chop (n : Nat) : Nat → List C → List (List C)
  | 0, _ => []
  | k + 1, xs => xs.take n :: chop n k (xs.drop n)

def reps {α : Type} : Nat → List α → List α
  | 0, _ => []
  | n + 1, xs => xs ++ reps n xs

def buildSliceA (P : Program) (ρ : Operand → Option D) (H : List (Option Root)) (t : TypeId) (len : Nat) (parts : List (Nat × Operand)) : Option (D × List (Option Root)) :=
  match tk P t with
  | some (.slice e) => match tz P e, partsA ρ H parts with
    | some z, some ps => if tsz P e ≠ 0 ∧ z.length = tsz P e ∧ len * tsz P e ≤ 16777216 then
        (match fillA (fun i => some (i * tsz P e, tsz P e)) (reps len z) ps with
        | some cs => if cs.all C.dat = true then some (.c (.h H.length 0 len), H ++ [some ⟨true, tsz P e, chop (tsz P e) len cs⟩]) else none
        | none => none) else none
    | _, _ => none
  | _ => none

section
variable {P : Program} {g : G} {S : Nat → Prop} {E : Env} {F : List (List Nat)} {A : St} {a : Act} {w : World}

theorem tz_some {t : TypeId} {z : List C} (h : tz P t = some z) : ∃ v, (zeroValue t).run P w = .ok v w ∧ Rep w S E (.vs z v.cells.toList) [] ∧ z.length = v.cells.size := by
  unfold tz at h
  cases hi : P.info? t with
  | none => rw [hi] at h; simp at h
  | some i =>
    rw [hi] at h
    cases hz : i.zero with
    | none => simp [hz] at h
    | some v =>
      simp only [Option.bind_some, hz] at h
      split at h
      · rename_i hall
        cases h
        exact ⟨v, by simp [zeroValue, run_typeInfo w hi, hz], constCs_rep hall, by simp⟩
      · cases h

theorem putCells_vs {row cells : List C} {vr vc : List Value} {c : Nat} (h1 : Rep w S E (.vs row vr) []) (h2 : Rep w S E (.vs cells vc) []) :
    Rep w S E (.vs (putCells row c cells) (vr.take c ++ (vc ++ vr.drop (c + vc.length)))) [] := by
  have happ : ∀ {xs ys : List C} {us ws : List Value}, Rep w S E (.vs xs us) [] → Rep w S E (.vs ys ws) [] → Rep w S E (.vs (xs ++ ys) (us ++ ws)) [] := by
    intro xs
    induction xs with
    | nil => intro ys us ws h1 h2; cases h1; exact h2
    | cons y xs ih =>
      intro ys us ws h1 h2
      generalize hfp : ([] : List Nat) = fp at h1
      cases h1 with
      | vcons k1 k2 =>
        obtain ⟨rfl, rfl⟩ := List.append_eq_nil_iff.1 hfp.symm
        exact .vcons (f1 := []) (f2 := []) k1 (ih k2 h2)
  unfold putCells
  rw [vs_len h2]
  exact happ (vs_take c h1) (happ h2 (vs_drop _ h1))

theorem foldl_set : ∀ (l : List Value) (k : Nat) (off : Nat) (cs : Array Value), off + k + l.length ≤ cs.size →
    (l.zipIdx k).foldl (fun cs (x : Value × Nat) => cs.setIfInBounds (off + x.2) x.1) cs = (cs.toList.take (off + k) ++ (l ++ cs.toList.drop (off + k + l.length))).toArray
  | [], k, off, cs, _ => by simp
  | v :: l, k, off, cs, h => by
    simp only [List.length_cons] at h
    rw [List.zipIdx_cons, List.foldl_cons, foldl_set l (k + 1) off _ (by simp; omega)]
    congr 1
    simp only [Array.toList_setIfInBounds]
    rw [List.take_set, List.drop_set_of_lt (by omega)]
    rw [show off + (k + 1) = off + k + 1 by omega, List.take_succ_eq_append_getElem (by simp; omega), List.set_append_right _ _ (by simp [Nat.min_le_left])]
    simp only [List.length_take, Array.length_toList, Nat.min_eq_left (show off + k ≤ cs.size by omega), Nat.sub_self, List.set_cons_zero, List.append_assoc, List.cons_append, List.nil_append, List.length_cons]
    rw [show off + k + 1 + l.length = off + k + (l.length + 1) by omega]

/-- Parts, as data and as values. -/
inductive PartsR (w : World) (S : Nat → Prop) (E : Env) : List (Nat × List C) → List (Nat × Value) → Prop
  | nil : PartsR w S E [] []
  | cons {i cs v ps vps} (h : Rep w S E (.vs cs v.cells.toList) []) (t : PartsR w S E ps vps) : PartsR w S E ((i, cs) :: ps) ((i, v) :: vps)

theorem fill_sound {place : Nat → Option (Nat × Nat)} : ∀ {ps : List (Nat × List C)} {vps : List (Nat × Value)} {cells cells' : List C} {arr : Array Value},
    Rep w S E (.vs cells arr.toList) [] → PartsR w S E ps vps → fillA place cells ps = some cells' →
    ∃ arr', Instr.fill place arr vps = some arr' ∧ Rep w S E (.vs cells' arr'.toList) [] ∧ cells'.length = cells.length
  | [], _, cells, cells', arr, h, hp, hf => by
    cases hp
    cases hf
    exact ⟨arr, rfl, h, rfl⟩
  | (i, cs) :: ps, _, cells, cells', arr, h, hp, hf => by
    cases hp with
    | cons hv h2 =>
      rename_i v vps
      simp only [fillA] at hf
      cases hpl : place i with
      | none => rw [hpl] at hf; cases hf
      | some os =>
        obtain ⟨off, size⟩ := os
        rw [hpl] at hf
        simp only at hf
        split at hf
        · rename_i hc
          have l1 := vs_len h
          have l2 := vs_len hv
          have := putCells_vs (c := off) h hv
          obtain ⟨arr', e1, e2, e3⟩ := fill_sound (arr := (arr.toList.take off ++ (v.cells.toList ++ arr.toList.drop (off + v.cells.toList.length))).toArray) (by simpa using this) h2 hf
          refine ⟨arr', ?_, e2, by rw [e3, putCells_len hc.2]⟩
          simp only [Instr.fill, hpl]
          have hs1 : v.cells.size = size := by rw [← hc.1]; simpa using l2.symm
          have hs2 : off + v.cells.size ≤ arr.size := by
            have := hc.2
            simp at l1 l2; omega
          rw [if_neg (by simp [hs1]; omega)]
          rw [← e1]
          congr 1
          have := foldl_set v.cells.toList 0 off arr (by simpa using hs2)
          simp only [Nat.add_zero] at this
          rw [← this, ← Array.foldl_toList]
          simp
        · cases hf

theorem parts_sound (hr : Rel g S E F A a w) : ∀ {parts : List (Nat × Operand)} {ps : List (Nat × List C)}, (∀ x ∈ parts, opdOK x.2 = true) → partsA A.ev A.H parts = some ps →
    PartsR w S E ps (parts.map fun x => (x.1, a.eval x.2)) ∧ (∀ x ∈ ps, x.2.all (C.st A.H) = true)
  | [], ps, _, h => by cases h; exact ⟨.nil, by simp⟩
  | (i, x) :: parts, ps, hok, h => by
    simp only [partsA] at h
    split at h
    · rename_i cs l h1 h2
      split at h
      · rename_i hst
        cases h
        obtain ⟨k1, k2⟩ := parts_sound hr (fun y hy => hok y (List.mem_cons_of_mem _ hy)) h2
        cases hx : A.ev x with
        | none => rw [hx] at h1; cases h1
        | some d =>
          rw [hx] at h1
          have hd := ev_rep hr (hok (i, x) (List.mem_cons_self ..)) hx
          refine ⟨.cons (cells_rep hd h1 hst hr) k1, ?_⟩
          intro y hy
          rcases List.mem_cons.1 hy with rfl | hy
          · exact hst
          · exact k2 y hy
      · cases h
    · cases h

theorem run_mapM_fields : ∀ (fs : List Field), (∀ f ∈ fs, tsz P f.type ≠ 0) → (fs.mapM (m := Sem) fun f => do pure (f.offset, ← sizeOf f.type)).run P w = .ok (fs.map fun f => (f.offset, tsz P f.type)) w
  | [], _ => by simp
  | f :: fs, h => by
    have h1 := h f (List.mem_cons_self ..)
    have ih := run_mapM_fields fs fun f hf => h f (List.mem_cons_of_mem _ hf)
    simp only [List.mapM_cons, Sem.run_bind, run_tsz' h1, Result.andThen_ok, Sem.run_pure, ih, List.map_cons]

theorem build_sound (hr : Rel g S E F A a w) {t : TypeId} {parts : Array (Nat × Operand)} {d : D} (hok : ∀ x ∈ parts.toList, opdOK x.2 = true) (h : buildA P A.ev A.H t parts.toList = some d) :
    ∃ v, (Instr.build t (parts.map fun (i, x) => (i, a.eval x))).run P w = .ok v w ∧ RepD w S E d v := by
  unfold buildA at h
  split at h
  · rename_i z ps l hz hp hk
    split at h
    · rename_i hne
      cases hf : fillA (placeSt P l) z ps with
      | none => rw [hf] at h; cases h
      | some cells =>
        rw [hf] at h; cases h
        obtain ⟨v, z1, z2, z3⟩ := tz_some (P := P) (w := w) (S := S) (E := E) hz
        obtain ⟨p1, p2⟩ := parts_sound hr hok hp
        obtain ⟨arr, e1, e2, e3⟩ := fill_sound (w := w) (arr := v.cells) z2 p1 hf
        refine ⟨.agg arr, ?_, .agg e2⟩
        obtain ⟨td, hu, htd⟩ := tk_some hk
        cases td <;> simp [TK.of] at htd
        rename_i fs
        subst htd
        have hm : (fs.mapM (m := Sem) fun f => do pure (f.offset, ← sizeOf f.type)).run P w = .ok (fs.map fun f => (f.offset, tsz P f.type)) w := by
          have := run_mapM_fields (P := P) (w := w) fs.toList (by
            intro f hf
            have := List.all_eq_true.1 hne (f.type, f.offset) (List.mem_map.2 ⟨f, hf, rfl⟩)
            simpa using this)
          rw [Array.mapM_eq_mapM_toList]
          simp only [Sem.run_map, this, Result.andThen_ok]
          congr 1
          apply Array.toList_inj.1
          simp
        have hplace : (fun (x : Nat) => (fs.map fun f => (f.offset, tsz P f.type))[x]?) = placeSt P (fs.toList.map fun f => (f.type, f.offset)) := by
          funext i
          simp [placeSt, Option.map_map]
          rfl
        simp only [Instr.build, Sem.run_bind, z1, Result.andThen_ok, run_und hu, hm, hplace, Array.toList_map]
        rw [show (List.map (fun x : Nat × Operand => match x with | (i, x) => (i, a.eval x)) parts.toList) = parts.toList.map fun x => (x.1, a.eval x.2) from rfl, e1]
        simp
    · cases h
  · rename_i z ps n e hz hp hk
    split at h
    · rename_i hne
      cases hf : fillA (fun i => some (i * tsz P e, tsz P e)) z ps with
      | none => rw [hf] at h; cases h
      | some cells =>
        rw [hf] at h; cases h
        obtain ⟨v, z1, z2, z3⟩ := tz_some (P := P) (w := w) (S := S) (E := E) hz
        obtain ⟨p1, p2⟩ := parts_sound hr hok hp
        obtain ⟨arr, e1, e2, e3⟩ := fill_sound (w := w) (arr := v.cells) z2 p1 hf
        refine ⟨.agg arr, ?_, .agg e2⟩
        simp only [Instr.build, Sem.run_bind, z1, Result.andThen_ok, run_und (tk_arr hk), run_tsz' hne, Array.toList_map]
        rw [show (List.map (fun x : Nat × Operand => match x with | (i, x) => (i, a.eval x)) parts.toList) = parts.toList.map fun x => (x.1, a.eval x.2) from rfl, e1]
        simp
    · cases h
  · cases h

theorem box_sound (hr : Rel g S E F A a w) {cells : List C} {vs : List Value} {el : TypeId} {d : D} {H' : List (Option Root)} (hv : Rep w S E (.vs cells vs) []) (h : boxA A.H cells = some (d, H')) :
    ∃ E' F', Rel g S E' F' { A with H := H' } a (w.alloc (.cells vs.toArray el)) ∧ RepD (w.alloc (.cells vs.toArray el)) S E' d (.pointer (some ⟨w.heap.size, 0, none⟩)) := by
  unfold boxA at h
  split at h
  · cases h
    have hl := vs_len hv
    have := hr.newRoot (R := ⟨false, cells.length, [cells]⟩) (vs := vs) (extra := []) (el := el) (m := 1) (by simpa using hv) (by simp) (by simp) (by simp [hl]) (by simp)
    rw [List.append_nil] at this
    refine ⟨_, _, this, .c (.p ?_ ?_)⟩
    · have := this.lE; rw [this]; simp
    · intro pl hpl
      rw [← hr.lE, List.getElem?_append_right (Nat.le_refl _)] at hpl
      simp at hpl
      subst hpl
      exact ⟨w.heap.size, 0, rfl, by simp⟩
  · cases h

end
end Go.Dl

namespace Go.Dl
open Go.RowKit

/-- make: rows of zero values. -/
def makeA (P : Program) (H : List (Option Root)) (t : TypeId) (l c : Int) : Option (D × List (Option Root)) :=
  match tk P t with
  | some (.slice e) => match tz P e with
    | some z => if tsz P e ≠ 0 ∧ z.length = tsz P e ∧ 0 ≤ l ∧ l ≤ c ∧ P.bytesOf e * c ≤ 140737488355328 ∧ z.all C.dat = true ∧ c ≤ 9223372036854775807 then
        some (.c (.h H.length 0 l.toNat), H ++ [some ⟨true, tsz P e, List.replicate l.toNat z⟩]) else none
    | none => none
  | _ => none

section
variable {P : Program} {g : G} {S : Nat → Prop} {E : Env} {F : List (List Nat)} {A : St} {a : Act} {w : World}

theorem run_newRow (P : Program) (w : World) (e : TypeId) (cells : Array Value) : (newRow e cells).run P w = .ok ⟨w.heap.size, 0, none⟩ (w.alloc (.cells cells e)) := rfl

theorem map_range0 (f : Nat → Value) : (Array.range 0).map f = #[] := by
  rw [Array.map_eq_empty_iff]; rfl

theorem chop_spec (n : Nat) : ∀ (k : Nat) (cs : List C), cs.length = k * n → (chop n k cs).flatten = cs ∧ (∀ r ∈ chop n k cs, r.length = n) ∧ (chop n k cs).length = k
  | 0, cs, h => by
    have : cs = [] := List.eq_nil_of_length_eq_zero (by simpa using h)
    subst this
    simp [chop]
  | k + 1, cs, h => by
    rw [Nat.succ_mul] at h
    obtain ⟨h1, h2, h3⟩ := chop_spec n k (cs.drop n) (by rw [List.length_drop]; omega)
    refine ⟨by simp [chop, h1], ?_, by simp [chop, h3]⟩
    intro r hr
    rcases List.mem_cons.1 hr with rfl | hr
    · rw [List.length_take]; omega
    · exact h2 r hr

theorem reps_len {α : Type} : ∀ (n : Nat) (xs : List α), (reps n xs).length = n * xs.length
  | 0, _ => by simp [reps]
  | n + 1, xs => by simp [reps, reps_len n xs, Nat.succ_mul]; omega

theorem reps_get {α : Type} [Inhabited α] (xs : List α) (hx : 0 < xs.length) : ∀ (n i : Nat), i < n * xs.length → (reps n xs)[i]? = xs[i % xs.length]?
  | 0, i, h => by simp at h
  | n + 1, i, h => by
    rw [Nat.succ_mul] at h
    simp only [reps]
    by_cases hi : i < xs.length
    · rw [List.getElem?_append_left hi, Nat.mod_eq_of_lt hi]
    · rw [List.getElem?_append_right (by omega), reps_get xs hx n (i - xs.length) (by omega)]
      rw [Nat.mod_eq_sub_mod (a := i) (by omega)]

theorem range_reps (zero : Array Value) (hz : 0 < zero.size) (n : Nat) : ((Array.range (n * zero.size)).map (zero[· % zero.size]!)).toList = reps n zero.toList := by
  apply List.ext_getElem?
  intro i
  by_cases hi : i < n * zero.size
  · rw [reps_get zero.toList (by simpa using hz) n i (by simpa using hi)]
    have hm : i % zero.size < zero.size := Nat.mod_lt _ hz
    simp [hi, getElem!_pos, hm]
  · rw [List.getElem?_eq_none (by simp; omega), List.getElem?_eq_none (by rw [reps_len]; simp; omega)]

theorem vs_app : ∀ {xs ys : List C} {us ws : List Value}, Rep w S E (.vs xs us) [] → Rep w S E (.vs ys ws) [] → Rep w S E (.vs (xs ++ ys) (us ++ ws)) [] := by
  intro xs
  induction xs with
  | nil => intro ys us ws h1 h2; cases h1; exact h2
  | cons y xs ih =>
    intro ys us ws h1 h2
    generalize hfp : ([] : List Nat) = fp at h1
    cases h1 with
    | vcons k1 k2 =>
      obtain ⟨rfl, rfl⟩ := List.append_eq_nil_iff.1 hfp.symm
      exact .vcons (f1 := []) (f2 := []) k1 (ih k2 h2)

theorem reps_vs {z : List C} {zv : List Value} (h : Rep w S E (.vs z zv) []) : ∀ n, Rep w S E (.vs (reps n z) (reps n zv)) []
  | 0 => .vnil
  | n + 1 => vs_app h (reps_vs h n)

theorem replicate_flat (z : List C) : ∀ n, (List.replicate n z).flatten = reps n z
  | 0 => rfl
  | n + 1 => by simp [List.replicate_succ, reps, replicate_flat z n]

theorem buildSlice_sound (hr : Rel g S E F A a w) {t : TypeId} {len : Nat} {parts : Array (Nat × Operand)} {d : D} {H' : List (Option Root)} (hok : ∀ x ∈ parts.toList, opdOK x.2 = true)
    (h : buildSliceA P A.ev A.H t len parts.toList = some (d, H')) :
    ∃ v w' E' F', (Instr.buildSlice t len (parts.map fun (i, x) => (i, a.eval x))).run P w = .ok v w' ∧ Rel g S E' F' { A with H := H' } a w' ∧ RepD w' S E' d v := by
  unfold buildSliceA at h
  split at h
  · rename_i e hk
    split at h
    · rename_i z ps hz hp
      split at h
      · rename_i hc
        obtain ⟨c1, c2, c3⟩ := hc
        split at h
        · rename_i cs hf
          split at h
          · rename_i hdat
            cases h
            obtain ⟨v, z1, z2, z3⟩ := tz_some (P := P) (w := w) (S := S) (E := E) hz
            obtain ⟨p1, p2⟩ := parts_sound hr hok hp
            have hzs : v.cells.size = tsz P e := by omega
            have hz0 : 0 < v.cells.size := by omega
            have hrr : Rep w S E (.vs (reps len z) ((Array.range (len * tsz P e)).map (v.cells[· % v.cells.size]!)).toList) [] := by
              rw [← hzs, range_reps v.cells hz0]
              exact reps_vs z2 len
            obtain ⟨arr, e1, e2, e3⟩ := fill_sound (w := w) hrr p1 hf
            have hcl : cs.length = len * tsz P e := by rw [e3, reps_len, c2]
            obtain ⟨q1, q2, q3⟩ := chop_spec (tsz P e) len cs hcl
            have hal := vs_len e2
            have hrun : (Instr.buildSlice t len (parts.map fun (i, x) => (i, a.eval x))).run P w = .ok (.slice (some ⟨w.heap.size, 0, none⟩) len len) (w.alloc (.cells arr e)) := by
              have hlim : ¬ (len * tsz P e > 2 ^ 24) := by omega
              simp only [Instr.buildSlice, Sem.run_bind, run_und (tk_slice hk), Result.andThen_ok, run_tsz' c1, Sem.run_ite, if_neg hlim, Sem.run_pure]
              by_cases hl0 : len = 0
              · subst hl0
                simp only [Nat.zero_mul, if_true, Array.toList_map]
                simp only [Nat.zero_mul] at e1
                rw [show (List.map (fun x : Nat × Operand => match x with | (i, x) => (i, a.eval x)) parts.toList) = parts.toList.map fun x => (x.1, a.eval x.2) from rfl]
                rw [show Array.map (fun x => (#[] : Array Value)[x % (#[] : Array Value).size]!) (Array.range 0) = Array.map (fun x => v.cells[x % v.cells.size]!) (Array.range 0) by simp, e1]
                simp [run_newRow]
              · have : len * tsz P e ≠ 0 := Nat.mul_ne_zero hl0 c1
                simp only [if_neg this, z1, Result.andThen_ok, Array.toList_map]
                rw [show (List.map (fun x : Nat × Operand => match x with | (i, x) => (i, a.eval x)) parts.toList) = parts.toList.map fun x => (x.1, a.eval x.2) from rfl, e1]
                simp [run_newRow]
            have hnew := hr.newRoot (R := ⟨true, tsz P e, chop (tsz P e) len cs⟩) (vs := arr.toList) (extra := []) (el := e) (m := len) (by rw [q1]; exact e2) (by intro _; rw [q1]; exact hdat) q2 (by simp at hal; simp; omega) (by simp [q3])
            rw [List.append_nil] at hnew
            refine ⟨_, _, _, _, hrun, hnew, .c (.h ?_ ?_)⟩
            · have := hnew.lE; rw [this]; simp
            · intro pl hpl
              rw [← hr.lE, List.getElem?_append_right (Nat.le_refl _)] at hpl
              simp at hpl
              subst hpl
              exact ⟨by simp [q3], ⟨w.heap.size, 0, none⟩, len, rfl, Nat.le_refl _, by simp, .inr (by simp)⟩
          · cases h
        · cases h
      · cases h
    · cases h
  · cases h

theorem make_sound (hr : Rel g S E F A a w) {t : TypeId} {l c : Int} {k k' : IntKind} {d : D} {H' : List (Option Root)} (h : makeA P A.H t l c = some (d, H')) :
    ∃ v w' E' F', (Instr.makeSlice t (.int k l) (.int k' c)).run P w = .ok v w' ∧ Rel g S E' F' { A with H := H' } a w' ∧ RepD w' S E' d v := by
  unfold makeA at h
  split at h
  · rename_i e hk
    split at h
    · rename_i z hz
      split at h
      · rename_i hc
        obtain ⟨c1, c2, c3, c4, c5, c6, c7⟩ := hc
        cases h
        obtain ⟨i, hi⟩ := tsz_info c1
        obtain ⟨v, z1, z2, z3⟩ := tz_some (P := P) (w := w) (S := S) (E := E) hz
        have hzs : v.cells.size = tsz P e := by omega
        have hz0 : 0 < v.cells.size := by omega
        have hby : P.bytesOf e = i.bytes := by simp [Program.bytesOf, hi]
        rw [hby] at c5
        have w1 : IntKind.i64.wrap l = l := wrap_i64 l (by omega) (by omega)
        have w2 : IntKind.i64.wrap c = c := wrap_i64 c (by omega) (by omega)
        obtain ⟨ln, rfl⟩ := Int.eq_ofNat_of_zero_le c3
        obtain ⟨cn, rfl⟩ := Int.eq_ofNat_of_zero_le (show 0 ≤ c by omega)
        have hbig : ¬ ((i.bytes : Int) * (cn : Int) > 281474976710656) := by
          intro h; omega
        have hrun : (Instr.makeSlice t (.int k ln) (.int k' cn)).run P w = .ok (.slice (some ⟨w.heap.size, 0, none⟩) ln cn) (w.alloc (.cells ((Array.range (cn * tsz P e)).map (v.cells[· % v.cells.size]!)) e)) := by
          have hroom : (askRoom (cn * i.bytes)).run P w = .ok () w := by
            unfold askRoom; split
            · simp [mark, Sem.run]
            · rfl
          simp only [Instr.makeSlice, Sem.run_bind, run_und (tk_slice hk), Result.andThen_ok, asInt, asIntOf, Sem.run_pure, run_typeInfo w hi, w1, w2]
          have hcond : (decide ((cn : Int) < 0) || decide ((i.bytes : Int) * (cn : Int) > 2 ^ 48) || decide ((ln : Int) < 0) || decide ((ln : Int) > (cn : Int))) = false := by
            simp; omega
          simp only [hcond, Bool.false_eq_true, if_false, Sem.run_bind, Int.toNat_natCast, hroom, Result.andThen_ok, run_tsz' c1, Sem.run_ite, Sem.run_pure]
          by_cases hl0 : cn * tsz P e = 0
          · rw [hl0]
            simp [run_newRow, map_range0]
          · simp only [if_neg hl0, z1, Result.andThen_ok]
            simp [run_newRow]
        have hsplit : ((Array.range (cn * tsz P e)).map (v.cells[· % v.cells.size]!)) = (reps ln v.cells.toList ++ reps (cn - ln) v.cells.toList).toArray := by
          apply Array.toList_inj.1
          rw [← hzs, range_reps v.cells hz0]
          have : ∀ (n m : Nat) (xs : List Value), reps (n + m) xs = reps n xs ++ reps m xs := by
            intro n m xs
            induction n with
            | zero => simp [reps]
            | succ n ih => rw [show n + 1 + m = (n + m) + 1 by omega]; simp [reps, ih]
          rw [← this, show ln + (cn - ln) = cn by omega]
        rw [hsplit] at hrun
        have hnew := hr.newRoot (R := ⟨true, tsz P e, List.replicate ln z⟩) (vs := reps ln v.cells.toList) (extra := reps (cn - ln) v.cells.toList) (el := e) (m := cn) (by rw [replicate_flat]; exact reps_vs z2 ln)
          (by
            intro _
            rw [replicate_flat]
            have : ∀ n, (reps n z).all C.dat = true := by
              intro n
              induction n with
              | zero => rfl
              | succ n ih => rw [reps, List.all_append, c6, ih]; rfl
            exact this ln)
          (by intro r hr'; rw [List.eq_of_mem_replicate hr', c2])
          (by
            rw [reps_len, reps_len, ← Nat.add_mul, show ln + (cn - ln) = cn by omega]
            simp only [Array.length_toList, hzs]
            exact Nat.le_refl _) (by simp; omega)
        refine ⟨_, _, _, _, hrun, hnew, .c (.h ?_ ?_)⟩
        · have := hnew.lE; rw [this]; simp
        · intro pl hpl
          rw [← hr.lE, List.getElem?_append_right (Nat.le_refl _)] at hpl
          simp at hpl
          subst hpl
          exact ⟨by simp, ⟨w.heap.size, 0, none⟩, cn, rfl, by omega, by simp, .inr (by simp)⟩
      · cases h
    · cases h
  · cases h

end
end Go.Dl

namespace Go.Dl
open Go.RowKit

def D.kill (r : Nat) (d : D) : D := if d.no r then d else .top
def C.kill (r : Nat) (c : C) : C := if c.no r then c else .x
def Root.kill (r : Nat) (R : Root) : Root := if R.dat then R else { R with rows := R.rows.map fun row => row.map (C.kill r) }
def killH (r : Nat) (H : List (Option Root)) : List (Option Root) := H.map fun o => o.map (Root.kill r)
def St.kill (r : Nat) (A : St) : St := ⟨A.sl.map (D.kill r), killH r A.H⟩

/-- No builder among the cells. -/
def C.nb : C → Bool
  | .b _ => false
  | _ => true
def rowsNB (rows : List (List C)) : Bool := rows.all fun row => row.all C.nb
theorem nb_map {α : Type} {f : α → List C} {l : List α} (h : ∀ x, (f x).all C.nb = true) : rowsNB (l.map f) = true := by
  simp only [rowsNB, List.all_map, List.all_eq_true, Function.comp]; intro x _ ; exact List.all_eq_true.1 (h x)
theorem nb_nil : rowsNB [] = true := rfl
theorem nb_cons {r : List C} {rs : List (List C)} : rowsNB (r :: rs) = (r.all C.nb && rowsNB rs) := rfl
theorem nb_app {a b : List (List C)} : rowsNB (a ++ b) = (rowsNB a && rowsNB b) := by simp [rowsNB]
theorem nb_flat {rows : List (List C)} (h : rowsNB rows = true) : rows.flatten.all C.nb = true := by
  rw [rowsNB, List.all_eq_true] at h
  rw [List.all_eq_true]
  intro c hc
  obtain ⟨row, h1, h2⟩ := List.mem_flatten.1 hc
  exact List.all_eq_true.1 (h row h1) c h2
theorem nb_sub {rows : List (List C)} (h : rowsNB rows = true) (l n : Nat) : rowsNB ((rows.drop l).take n) = true := by
  rw [rowsNB, List.all_eq_true] at *
  exact fun r hr => h r (List.mem_of_mem_drop (List.mem_of_mem_take hr))
theorem nb_cp {cs : List C} (h : cs.all C.cp = true) : cs.all C.nb = true := by
  rw [List.all_eq_true] at *
  intro c hc
  have := h c hc
  cases c <;> first | rfl | simp [C.cp] at this

/-- The rows of what is appended. -/
def srcRows (H : List (Option Root)) : D → Option (Nat × List (List C))
  | .c (.h r lo len) => match H[r]? with
    | some (some R) => if R.dat = true ∧ lo + len ≤ R.rows.length ∧ (((R.rows.drop lo).take len).all fun row => row.all C.cp) = true then some (R.es, (R.rows.drop lo).take len) else none
    | _ => none
  | .c (.s false es rows) => if rowsNB rows = true then some (es, rows) else none
  | .c (.v (.string s)) => some (1, s.data.toList.map fun b => [.v (.int .u8 b.toNat)])
  | _ => none

def srcOther (r : Nat) : D → Bool
  | .c (.h r' _ _) => r' != r
  | _ => true

def appendA (P : Program) (A : St) (t : TypeId) (d x : D) : Option (D × St) :=
  match tk P t with
  | some (.slice e) => match d, tz P e, srcRows A.H x with
    | .c (.h r lo len), some z, some (es, src) => match A.H[r]? with
      | some (some R) => if tsz P e = R.es ∧ es = R.es ∧ R.es ≠ 0 ∧ R.dat = true ∧ rowsNB R.rows = true ∧ z.length = R.es ∧ P.bytesOf e ≠ 0 ∧ (len + src.length) * P.bytesOf e ≤ 140737488355328 ∧ srcOther r x = true then
          some (.c (.h r 0 (len + src.length)), ⟨A.sl.map (D.kill r), (killH r A.H).set r (some { R with rows := (R.rows.drop lo).take len ++ src })⟩) else none
      | _ => none
    | _, _, _ => none
  | _ => none

section
variable {P : Program} {g : G} {S : Nat → Prop} {E : Env} {F : List (List Nat)} {A : St} {a : Act} {w : World}

theorem kill_rep {r : Nat} {c : C} {v : Value} {fp : List Nat} (h : Rep w S E (.k false c v) fp) : Rep w S E (.k false (c.kill r) v) fp := by
  unfold C.kill
  split
  · exact h
  · rename_i hn
    have : fp = [] := by
      cases h <;> first | rfl | (simp [C.no] at hn)
    subst this
    exact .x

theorem kill_l {r b : Nat} : ∀ {cs : List C} {off : Nat} {fp : List Nat}, Rep w S E (.l false cs b off) fp → Rep w S E (.l false (cs.map (C.kill r)) b off) fp := by
  intro cs
  induction cs with
  | nil => intro off fp h; cases h; exact .lnil
  | cons c cs ih =>
    intro off fp h
    cases h with
    | lcons hv h1 h2 => exact .lcons hv (kill_rep h1) (ih h2)
    | lb hv hz h0 h1 h2 => exact .lb hv hz h0 h1 (ih h2)

theorem kill_no (r : Nat) (c : C) : C.no r (c.kill r) = true := by
  unfold C.kill
  split
  · assumption
  · rfl

theorem kill_nos (r : Nat) : ∀ (cs : List C), C.nos r (cs.map (C.kill r)) = true
  | [] => rfl
  | c :: cs => by simp [C.nos, kill_no, kill_nos r cs]

theorem killD_no (r : Nat) (d : D) : D.no r (d.kill r) = true := by
  unfold D.kill
  split
  · assumption
  · rfl

theorem Rel.kill (hr : Rel g S E F A a w) (r : Nat) : Rel g S E F (A.kill r) a w := by
  refine { hr with len := by simp [St.kill, hr.len], sl := ?_, lE := by simp [St.kill, killH, hr.lE], lF := by simp [St.kill, killH, hr.lF], root := ?_, dead := ?_, fix := ?_ }
  · intro t d h
    simp only [St.kill, List.getElem?_map, Option.map_eq_some_iff] at h
    obtain ⟨d0, h1, rfl⟩ := h
    unfold D.kill
    split
    · exact hr.sl t d0 h1
    · exact .top
  · intro i R h
    simp only [St.kill, killH, List.getElem?_map, Option.map_eq_some_iff] at h
    obtain ⟨o, h1, h2⟩ := h
    obtain ⟨R0, rfl, rfl⟩ := h2
    obtain ⟨p, f, k1, k2, k3⟩ := hr.root i R0 h1
    refine ⟨p, f, k1, k2, ?_⟩
    unfold Root.kill
    split
    · exact k3
    · rename_i hd
      obtain ⟨g1, g2, g3, g4, g5⟩ := k3
      refine ⟨g1, by simp [g2], g3, ?_, ?_⟩
      · intro row hrow
        obtain ⟨row0, h3, rfl⟩ := List.mem_map.1 hrow
        simpa using g4 row0 h3
      · cases hat : p.at? with
        | none => rw [hat] at g5; obtain ⟨e1, e2, e3⟩ := g5; exact ⟨by simp [e1], e2, e3⟩
        | some bo =>
          obtain ⟨b, off⟩ := bo
          rw [hat] at g5
          obtain ⟨fr, e1, e2, e3⟩ := g5
          have hd' : R0.dat = false := by simpa using hd
          refine ⟨fr, e1, e2, ?_⟩
          rw [hd'] at e3
          simp only [hd']
          rw [← List.map_flatten]
          exact kill_l e3
  · intro i h
    simp only [St.kill, killH, List.getElem?_map, Option.map_eq_some_iff] at h
    obtain ⟨o, h1, h2⟩ := h
    cases o with
    | none => exact hr.dead i h1
    | some R => cases h2
  · intro i q hq
    obtain ⟨h1, h2⟩ := hr.fix i q hq
    refine ⟨by simpa [St.kill, killH] using h1, fun R0 h => ?_⟩
    simp only [St.kill, killH, List.getElem?_map, Option.map_eq_some_iff] at h
    obtain ⟨o, k1, k2⟩ := h
    obtain ⟨R1, rfl, rfl⟩ := k2
    obtain ⟨m1, m2⟩ := h2 R1 k1
    refine ⟨?_, m2⟩
    unfold Root.kill
    split
    · rename_i hd; rw [m1] at hd; cases hd
    · exact m1

theorem kill_free (A : St) (r : Nat) : Free (A.kill r) r := by
  refine ⟨?_, ?_⟩
  · intro t d h
    simp only [St.kill, List.getElem?_map, Option.map_eq_some_iff] at h
    obtain ⟨d0, _, rfl⟩ := h
    exact killD_no r d0
  · intro i R _ h
    simp only [St.kill, killH, List.getElem?_map, Option.map_eq_some_iff] at h
    obtain ⟨o, _, h2⟩ := h
    obtain ⟨R0, _, rfl⟩ := h2
    unfold Root.kill
    split
    · rename_i hd; simp [hd]
    · rw [← List.map_flatten, kill_nos]; simp

/-- Cells in memory, as values; the same values elsewhere are the same cells. -/
theorem Rep.vals {dat : Bool} {b off : Nat} : ∀ {cs : List C} {fp : List Nat}, Rep w S E (.l dat cs b off) fp → cs.all C.nb = true → ∃ vs : List Value, vs.length = cs.length ∧
    (∀ (j : Nat) (v : Value), vs[j]? = some v → w.cell? ⟨b, off + j, none⟩ = some v) ∧
    ∀ (w' : World) (b' off' : Nat), (∀ (j : Nat) (v : Value), vs[j]? = some v → w'.cell? ⟨b', off' + j, none⟩ = some v) → (∀ b, S b ∨ b ∈ fp → w'.heap[b]? = w.heap[b]?) → Rep w' S E (.l dat cs b' off') fp := by
  intro cs
  induction cs generalizing off with
  | nil => intro fp h _; cases h; exact ⟨[], rfl, by simp, fun _ _ _ _ _ => .lnil⟩
  | cons c cs ih =>
    intro fp h hnb
    simp only [List.all_cons, Bool.and_eq_true] at hnb
    cases h with
    | lb => simp [C.nb] at hnb
    | lcons hv hc hr =>
      obtain ⟨vs, h1, h2, h3⟩ := ih hr hnb.2
      rename_i v f1 f2
      refine ⟨v :: vs, by simp [h1], ?_, ?_⟩
      · intro j u hj
        cases j with
        | zero => simp at hj; subst hj; exact hv
        | succ j => rw [show off + (j + 1) = off + 1 + j by omega]; exact h2 j u (by simpa using hj)
      · intro w' b' off' k1 k2
        refine .lcons (k1 0 v rfl) (hc.mono (fun _ h => h) (.refl _ _) ?_) (h3 w' b' (off' + 1) ?_ ?_)
        · intro b hb
          rcases hb with h | h | h
          · exact k2 b (.inl h)
          · exact k2 b (.inr (List.mem_append_left _ h))
          · cases h
        · intro j u hj
          rw [show off' + 1 + j = off' + (j + 1) by omega]
          exact k1 (j + 1) u (by simpa using hj)
        · intro b hb
          exact k2 b (hb.imp id fun h => List.mem_append_right _ h)

theorem cells_cp {dat : Bool} {b off : Nat} : ∀ {cs : List C} {fp : List Nat}, Rep w S E (.l dat cs b off) fp → cs.all C.cp = true → fp = [] := by
  intro cs
  induction cs generalizing off with
  | nil => intro fp h _; cases h; rfl
  | cons c cs ih =>
    intro fp h hc
    simp only [List.all_cons, Bool.and_eq_true] at hc
    cases h with
    | lcons hv h1 h2 => rw [cp_fp h1 hc.1, ih h2 hc.2]; rfl
    | lb => simp [C.cp] at hc

/-- What is appended, as values. -/
theorem src_sound (hr : Rel g S E F A a w) {x : D} {vx : Value} {es : Nat} {src : List (List C)} (hx : RepD w S E x vx) (h : srcRows A.H x = some (es, src)) (hes : es ≠ 0) :
    ∃ news : List Value, (∀ r ∈ src, r.length = es) ∧ (Builtin.lenOf vx).run P w = .ok src.length w ∧ (Builtin.firstCells es src.length vx).run P w = .ok news.toArray w ∧ news.length = src.length * es ∧
      (∀ v ∈ news, v.oneCell' = true) ∧
      ∀ (w' : World) (b' off' : Nat), (∀ (j : Nat) (v : Value), news[j]? = some v → w'.cell? ⟨b', off' + j, none⟩ = some v) → (∀ b, S b → w'.heap[b]? = w.heap[b]?) → Rep w' S E (.l true src.flatten b' off') [] := by
  have fromMem : ∀ (b off cap : Nat) (src : List (List C)), (∀ r ∈ src, r.length = es) → rowsNB src = true → Rep w S E (.l true src.flatten b off) [] →
      ∃ news : List Value, (∀ r ∈ src, r.length = es) ∧ (Builtin.lenOf (.slice (some ⟨b, off, none⟩) src.length cap)).run P w = .ok src.length w ∧
        (Builtin.firstCells es src.length (.slice (some ⟨b, off, none⟩) src.length cap)).run P w = .ok news.toArray w ∧ news.length = src.length * es ∧ (∀ v ∈ news, v.oneCell' = true) ∧
      ∀ (w' : World) (b' off' : Nat), (∀ (j : Nat) (v : Value), news[j]? = some v → w'.cell? ⟨b', off' + j, none⟩ = some v) → (∀ b, S b → w'.heap[b]? = w.heap[b]?) → Rep w' S E (.l true src.flatten b' off') [] := by
    intro b off cap src hl hnb hrep
    obtain ⟨vs, h1, h2, h3⟩ := hrep.vals (nb_flat hnb)
    rw [flatten_len hl] at h1
    refine ⟨vs, hl, by simp [Builtin.lenOf], ?_, h1, ?_, fun w' b' off' k1 k2 => h3 w' b' off' k1 (fun b hb => k2 b (hb.elim id (fun h => by cases h)))⟩
    · exact run_firstCells_some w es src.length ⟨b, off, none⟩ src.length cap vs h1 (fun j v hj => by rw [addr_add]; exact h2 j v hj)
    · intro v hv
      obtain ⟨j, hj⟩ := List.getElem?_of_mem hv
      have hj' := lt_len hj
      obtain ⟨u, fp', k1, k2', _, _⟩ := hrep.at j (src.flatten[j]'(by rw [flatten_len hl]; omega)) (List.getElem?_eq_getElem _)
      have := h2 j v hj
      rw [this] at k1
      cases k1
      have k2 := k2' (fun T hb => by
        have := List.all_eq_true.1 (nb_flat hnb) _ (List.getElem_mem (l := src.flatten) (n := j) (by rw [flatten_len hl]; omega))
        rw [hb] at this; cases this)
      refine k2.one ?_ ?_ ?_
      · intro hh; rw [hh] at k2; cases k2
      · intro r lo len hh; rw [hh] at k2; cases k2
      · intro r e k hh; rw [hh] at k2; cases k2
  have nilCase : ∀ (ad : Option Addr) (cap : Nat), ∃ news : List Value, (∀ r ∈ ([] : List (List C)), r.length = es) ∧ (Builtin.lenOf (.slice ad 0 cap)).run P w = .ok ([] : List (List C)).length w ∧
        (Builtin.firstCells es ([] : List (List C)).length (.slice ad 0 cap)).run P w = .ok news.toArray w ∧ news.length = ([] : List (List C)).length * es ∧ (∀ v ∈ news, v.oneCell' = true) ∧
      ∀ (w' : World) (b' off' : Nat), (∀ (j : Nat) (v : Value), news[j]? = some v → w'.cell? ⟨b', off' + j, none⟩ = some v) → (∀ b, S b → w'.heap[b]? = w.heap[b]?) → Rep w' S E (.l true ([] : List (List C)).flatten b' off') [] := by
    intro ad cap
    refine ⟨[], by simp, by simp [Builtin.lenOf], ?_, by simp, by simp, fun _ _ _ _ _ => .lnil⟩
    cases ad <;> simp [Builtin.firstCells, loadCells, loadCellsFrom]
  unfold srcRows at h
  split at h
  · rename_i r lo len
    split at h
    · rename_i R hR
      split at h
      · rename_i hc
        obtain ⟨c1, c2, c3⟩ := hc
        cases h
        obtain ⟨p, f, h1, h2, h3, h4⟩ := handle_live hr hR hx
        obtain ⟨g1, g2, g3, g4, g5⟩ := h3
        obtain ⟨k1, k2⟩ := h4
        have hlen : ((R.rows.drop lo).take len).length = len := by rw [List.length_take, List.length_drop]; omega
        cases hat : p.at? with
        | none =>
          rw [hat] at k2 g5
          obtain ⟨ad, rfl⟩ := k2
          obtain ⟨e1, _, _⟩ := g5
          have : len = 0 := by rw [e1] at g2; simp at g2; omega
          subst this
          simp only [List.take_zero]
          exact nilCase ad 0
        | some bo =>
          obtain ⟨b, off⟩ := bo
          rw [hat] at k2 g5
          obtain ⟨ad, cap, rfl, q2, q3, q4⟩ := k2
          obtain ⟨fr, _, _, hrep⟩ := g5
          by_cases hl0 : len = 0
          · subst hl0
            simp only [List.take_zero]
            exact nilCase (some ad) cap
          · have had : ad = ⟨b, off + lo * p.es, none⟩ := by
              rcases q4 with q4 | q4
              · omega
              · exact q4
            subst had
            rw [c1] at hrep
            obtain ⟨f1, f2, f3, hff, hr2⟩ := flatten_sub g4 hrep lo len (by omega)
            have hf2 : f2 = [] := by
              refine cells_cp hr2 ?_
              rw [List.all_eq_true]
              intro c hcm
              obtain ⟨row, hrow, hcr⟩ := List.mem_flatten.1 hcm
              exact List.all_eq_true.1 (List.all_eq_true.1 c3 row hrow) c hcr
            subst hf2
            have hnb : rowsNB ((R.rows.drop lo).take len) = true := by
              rw [rowsNB, List.all_eq_true]; exact fun row hrow => nb_cp (List.all_eq_true.1 c3 row hrow)
            have := fromMem b (off + lo * R.es) cap ((R.rows.drop lo).take len) (fun r hr => g4 r (List.mem_of_mem_drop (List.mem_of_mem_take hr))) hnb hr2
            rw [hlen] at this ⊢
            rw [g1]
            exact this
      · cases h
    · cases h
  · rename_i es' rows
    split at h
    · rename_i hnb
      cases h
      cases hx with
      | c h => cases h with
        | nilI => exact nilCase _ _
        | imm hS hcap hl hrep => exact fromMem _ _ _ _ hl hnb hrep
    · cases h
  · rename_i s
    cases h
    obtain ⟨rfl, hs⟩ := str_inv hx
    have hsz : (s.data.toList.map fun b => [C.v (.int .u8 b.toNat)]).length = s.size := by simp
    refine ⟨s.data.toList.map fun b => .int .u8 b.toNat, ?_, ?_, ?_, ?_, ?_, ?_⟩
    · intro r hr
      obtain ⟨b, _, rfl⟩ := List.mem_map.1 hr
      rfl
    · rw [hsz]; simp [Builtin.lenOf]
    · rw [hsz]
      simp only [Builtin.firstCells, Sem.run_pure]
      congr 1
      apply Array.toList_inj.1
      have : (s.extract 0 s.size).data = s.data := by
        rw [ByteArray.extract_zero_size]
      rw [Array.toList_map, this]
    · simp
    · intro v hv
      obtain ⟨b, _, rfl⟩ := List.mem_map.1 hv
      rfl
    · intro w' b' off' k1 k2
      have hfl : (s.data.toList.map fun b => [C.v (.int .u8 b.toNat)]).flatten = s.data.toList.map fun b => C.v (.int .u8 b.toNat) := by
        induction s.data.toList with
        | nil => rfl
        | cons x xs ih => simp at ih ⊢; exact ih
      rw [hfl]
      refine rep_new (vs := s.data.toList.map fun b => .int .u8 b.toNat) ?_ ?_ k1
      · clear k1 hfl hsz hs hx
        induction s.data.toList with
        | nil => exact .vnil
        | cons x xs ih =>
          refine .vcons (f1 := []) (f2 := []) (.v ?_) ih
          have := x.toNat_lt
          simp [Sc, inR]; omega
      · intro _
        rw [List.all_eq_true]
        intro c hc
        obtain ⟨b, _, rfl⟩ := List.mem_map.1 hc
        rfl
  · cases h

end
end Go.Dl
