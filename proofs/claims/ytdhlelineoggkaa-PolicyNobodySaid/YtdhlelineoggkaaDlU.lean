/- 'Dl', part U: a call by its contract: what is handed on, what comes back. -/
import Derived.Test.YtdhlelineoggkaaDlT
namespace Go.Dl
open Go.RowKit

def callable (P : Program) (k : FuncId) : Bool :=
  match P.funcs[k]? with
  | some fn => (fn.name != "runtime.NumGoroutine") && fn.body.isSome
  | none => false

section
variable {P : Program} {g : G} {S : Nat → Prop} {E : Env} {F : List (List Nat)} {A : St} {a : Act} {w : World}

/-- What is lent: the blocks of some roots. -/
def Lent (F : List (List Nat)) (B : List Nat) (b : Nat) : Prop := ∃ r ∈ B, ∃ f, F[r]? = some f ∧ b ∈ f

theorem objsAt_spec {H : List (Option Root)} : ∀ {ρ : List Nat} {objs : List Obj}, objsAt H ρ = some objs → objs.length = ρ.length ∧ ∀ (i : Nat) (ob : Obj), objs[i]? = some ob → ∃ r R, ρ[i]? = some r ∧ H[r]? = some (some R) ∧ R.rows.all (fun row => row.all C.dat) = true ∧ ob = ⟨R.es, R.rows⟩
  | [], objs, h => by cases h; simp
  | r :: rs, objs, h => by
    simp only [objsAt] at h
    split at h
    · rename_i o os h1 h2
      cases h
      obtain ⟨k1, k2⟩ := objsAt_spec h2
      refine ⟨by simp [k1], fun i ob hob => ?_⟩
      cases i with
      | zero =>
        simp at hob
        subst hob
        cases hH : H[r]? with
        | none => rw [hH] at h1; cases h1
        | some oR =>
          rw [hH] at h1
          simp only [Option.bind_some] at h1
          cases oR with
          | none => cases h1
          | some R =>
            simp only [objOf] at h1
            split at h1
            · rename_i hall; cases h1; exact ⟨r, R, rfl, hH, hall, rfl⟩
            · cases h1
      | succ i => simpa using k2 i ob (by simpa using hob)
    · cases h

theorem idxOf_get {l : List Nat} {r i : Nat} (h : l.idxOf? r = some i) : l[i]? = some r := by
  rw [List.idxOf?, List.findIdx?_eq_some_iff_getElem] at h
  obtain ⟨h1, h2, _⟩ := h
  rw [List.getElem?_eq_getElem h1]
  simpa using h2

theorem idxOf_none {l : List Nat} {r : Nat} (h : l.idxOf? r = none) : r ∉ l := by
  rw [List.idxOf?, List.findIdx?_eq_none_iff] at h
  intro hm
  have := h r hm
  simp at this

/-- A cell that is handed on. -/
theorem argC_sound (hr : Rel g S E F A a w) {ρ : List Nat} {pls : List Pl} (hp : ∀ (i r : Nat), ρ[i]? = some r → ∃ p, E[r]? = some (some p) ∧ pls[i]? = some p) {c c' : C} {v : Value} {B Bs : List Nat} (h : Rep w S E (.k false c v) [])
    (ha : argC A.H ρ c = some (c', B)) (hB : ∀ r ∈ B, r ∈ Bs) : Rep w (fun b => S b ∨ Lent F Bs b) (pls.map some) (.k false c' v) [] ∧ ∀ r ∈ B, r ∉ ρ := by
  have up : ∀ {it : It} {fp : List Nat}, Rep w S E it fp → it.pure → Rep w (fun b => S b ∨ Lent F Bs b) (pls.map some) it fp := by
    intro it fp h hpure
    refine (h.noenv (E' := pls.map some) hpure).mono (fun b hb => .inl hb) (.refl _ _) (fun _ _ => rfl)
  have hplain : ∀ {c : C}, Rep w S E (.k false c v) [] → (if (c.dat && c.cpy.cp) = true then some (c.cpy, ([] : List Nat)) else none) = some (c', B) → Rep w (fun b => S b ∨ Lent F Bs b) (pls.map some) (.k false c' v) [] ∧ ∀ r ∈ B, r ∉ ρ := by
    intro c h ha
    split at ha
    · rename_i hc
      rw [Bool.and_eq_true] at hc
      cases ha
      obtain ⟨fp', h'⟩ := rep_cpy h
      have hfp := cp_fp h' hc.2
      subst hfp
      refine ⟨up h' (.inr ?_), by simp⟩
      unfold C.cpy
      split
      · split <;> rfl
      · exact hc.1
    · cases ha
  unfold argC at ha
  split at ha
  · rename_i r e k
    split at ha
    · rename_i i hi
      cases ha
      obtain ⟨p, h1, h2⟩ := hp i r (idxOf_get hi)
      cases h with
      | p hr' hh =>
        refine ⟨.p (by simp; exact lt_len h2) fun pl hpl => ?_, by simp⟩
        rw [List.getElem?_map, h2] at hpl
        cases hpl
        exact hh p h1
    · cases ha
  · rename_i r lo len
    split at ha
    · rename_i i hi
      cases ha
      obtain ⟨p, h1, h2⟩ := hp i r (idxOf_get hi)
      cases h with
      | h hr' hh =>
        refine ⟨.h (by simp; exact lt_len h2) fun pl hpl => ?_, by simp⟩
        rw [List.getElem?_map, h2] at hpl
        cases hpl
        exact hh p h1
    · rename_i hi
      split at ha
      · rename_i R hR
        split at ha
        · rename_i hc
          obtain ⟨c1, c2, c3⟩ := hc
          cases ha
          obtain ⟨p, f, h1, h2, h3, h4⟩ := handle_live hr hR (.c h)
          obtain ⟨g1, g2, g3, g4, g5⟩ := h3
          obtain ⟨k1, k2⟩ := h4
          have hlen : ((R.rows.drop lo).take len).length = len := by rw [List.length_take, List.length_drop]; omega
          refine ⟨?_, fun r' hr' => by simp at hr'; subst hr'; exact idxOf_none hi⟩
          cases hat : p.at? with
          | none =>
            rw [hat] at k2 g5
            obtain ⟨ad, rfl⟩ := k2
            obtain ⟨e1, _, _⟩ := g5
            have hl0 : len = 0 := by rw [e1] at g2; simp at g2; omega
            subst hl0
            rw [List.take_zero]
            exact .nilI
          | some bo =>
            obtain ⟨b, off⟩ := bo
            rw [hat] at k2 g5
            obtain ⟨ad, cap, rfl, q2, q3, q4⟩ := k2
            obtain ⟨fr, e1, _, hrep⟩ := g5
            by_cases hl0 : len = 0
            · subst hl0
              rw [List.take_zero]
              exact .nilI
            · have had : ad = ⟨b, off + lo * R.es, none⟩ := by
                rcases q4 with q4 | q4
                · omega
                · rw [q4, g1]
              subst had
              rw [c1] at hrep
              obtain ⟨f1, f2, f3, hff, hr2⟩ := flatten_sub g4 hrep lo len (by omega)
              have hf2 : f2 = [] := by
                refine cells_cp hr2 ?_
                rw [List.all_eq_true]
                intro c hcm
                obtain ⟨row, hrow, hcr⟩ := List.mem_flatten.1 hcm
                exact List.all_eq_true.1 (List.all_eq_true.1 c3 row hrow) c hcr
              subst hf2
              have := Rep.imm (dat := false) (S := fun b => S b ∨ Lent F Bs b) (w := w) (E := pls.map some) (es := R.es) (rows := (R.rows.drop lo).take len) (b := b) (off := off + lo * R.es) (cap := cap)
                (.inr ⟨r, hB r (by simp), f, h2, by rw [e1]; exact List.mem_cons_self ..⟩) (by rw [hlen]; exact q2) (fun r hr => g4 r (List.mem_of_mem_drop (List.mem_of_mem_take hr))) (up hr2 rfl)
              rw [hlen] at this
              exact this
        · cases ha
      · cases ha
  · split at ha
    · rename_i k caps hc
      cases ha
      have : caps = [] := by simpa using hc
      subst this
      exact ⟨up h (.inr (by simp [C.dat])), by simp⟩
    · cases ha
  · exact hplain h ha

theorem argCs_sound (hr : Rel g S E F A a w) {ρ : List Nat} {pls : List Pl} (hp : ∀ (i r : Nat), ρ[i]? = some r → ∃ p, E[r]? = some (some p) ∧ pls[i]? = some p) : ∀ {cs cs' : List C} {vs : List Value} {B Bs : List Nat}, Rep w S E (.vs cs vs) [] →
    argCs A.H ρ cs = some (cs', B) → (∀ r ∈ B, r ∈ Bs) → Rep w (fun b => S b ∨ Lent F Bs b) (pls.map some) (.vs cs' vs) [] ∧ ∀ r ∈ B, r ∉ ρ
  | [], cs', vs, B, Bs, h, ha, hB => by cases ha; cases h; exact ⟨.vnil, by simp⟩
  | c :: cs, cs', vs, B, Bs, h, ha, hB => by
    simp only [argCs] at ha
    split at ha
    · rename_i c1 l1 cs1 l2 h1 h2
      cases ha
      generalize hfp : ([] : List Nat) = fp at h
      cases h with
      | vcons k1 k2 =>
        obtain ⟨rfl, rfl⟩ := List.append_eq_nil_iff.1 hfp.symm
        obtain ⟨q1, q2⟩ := argC_sound hr hp k1 h1 (fun r hr => hB r (List.mem_append_left _ hr))
        obtain ⟨r1, r2⟩ := argCs_sound hr hp k2 h2 (fun r hr => hB r (List.mem_append_right _ hr))
        refine ⟨.vcons (f1 := []) (f2 := []) q1 r1, fun r hr => ?_⟩
        rcases List.mem_append.1 hr with h | h
        · exact q2 r h
        · exact r2 r h
    · cases ha

theorem argD_sound (hr : Rel g S E F A a w) {ρ : List Nat} {pls : List Pl} (hp : ∀ (i r : Nat), ρ[i]? = some r → ∃ p, E[r]? = some (some p) ∧ pls[i]? = some p) {d d' : D} {v : Value} {B Bs : List Nat} (h : RepD w S E d v)
    (ha : argD A.H ρ d = some (d', B)) (hB : ∀ r ∈ B, r ∈ Bs) : RepD w (fun b => S b ∨ Lent F Bs b) (pls.map some) d' v ∧ ∀ r ∈ B, r ∉ ρ := by
  unfold argD at ha
  split at ha
  · cases ha; exact ⟨.top, by simp⟩
  · rename_i y
    cases hc : argC A.H ρ y with
    | none => rw [hc] at ha; cases ha
    | some r =>
      rw [hc] at ha; cases ha
      cases h with
      | c h =>
        obtain ⟨h1, h2⟩ := argC_sound hr hp h hc hB
        exact ⟨.c h1, h2⟩
  · rename_i xs
    cases hc : argCs A.H ρ xs with
    | none => rw [hc] at ha; cases ha
    | some r =>
      rw [hc] at ha; cases ha
      obtain ⟨arr, rfl, hrep⟩ := agg_inv h
      obtain ⟨h1, h2⟩ := argCs_sound hr hp hrep hc hB
      exact ⟨.agg h1, h2⟩
  · cases ha

theorem argDs_sound (hr : Rel g S E F A a w) {ρ : List Nat} {pls : List Pl} (hp : ∀ (i r : Nat), ρ[i]? = some r → ∃ p, E[r]? = some (some p) ∧ pls[i]? = some p) : ∀ {ds ds' : List D} {vs : List Value} {B Bs : List Nat}, ds.length = vs.length →
    (∀ (i : Nat) (d : D), ds[i]? = some d → RepD w S E d (vs.getD i undef)) → argDs A.H ρ ds = some (ds', B) → (∀ r ∈ B, r ∈ Bs) →
    (ds'.length = ds.length ∧ ∀ (i : Nat) (d : D), ds'[i]? = some d → RepD w (fun b => S b ∨ Lent F Bs b) (pls.map some) d (vs.getD i undef)) ∧ ∀ r ∈ B, r ∉ ρ
  | [], ds', vs, B, Bs, hl, h, ha, hB => by cases ha; exact ⟨⟨rfl, by simp⟩, by simp⟩
  | d :: ds, ds', vs, B, Bs, hl, h, ha, hB => by
    simp only [argDs] at ha
    split at ha
    · rename_i d1 l1 ds1 l2 h1 h2
      cases ha
      cases vs with
      | nil => simp at hl
      | cons v vs =>
        obtain ⟨q1, q2⟩ := argD_sound hr hp (h 0 d rfl) h1 (fun r hr => hB r (List.mem_append_left _ hr))
        obtain ⟨⟨r0, r1⟩, r2⟩ := argDs_sound hr hp (vs := vs) (by simpa using hl) (fun i d hd => by have := h (i + 1) d (by simpa using hd); simpa using this) h2 (fun r hr => hB r (List.mem_append_right _ hr))
        refine ⟨⟨by simp [r0], fun i d' hd => ?_⟩, fun r hr => ?_⟩
        · cases i with
          | zero => simp at hd; subst hd; simpa using q1
          | succ i => have := r1 i d' (by simpa using hd); simpa using this
        · rcases List.mem_append.1 hr with h | h
          · exact q2 r h
          · exact r2 r h
    · cases ha

/-- Places in a list, set one behind the other. -/
def setAll {α : Type} (l : List α) : List Nat → List α → List α
  | r :: rs, x :: xs => setAll (l.set r x) rs xs
  | _, _ => l

theorem setAll_len {α : Type} : ∀ (rs : List Nat) (xs : List α) (l : List α), (setAll l rs xs).length = l.length
  | [], _, _ => by simp [setAll]
  | _ :: _, [], _ => by simp [setAll]
  | r :: rs, x :: xs, l => by simp [setAll, setAll_len rs xs]

theorem setAll_out {α : Type} {j : Nat} : ∀ (rs : List Nat) (xs : List α) (l : List α), j ∉ rs → (setAll l rs xs)[j]? = l[j]?
  | [], _, _, _ => by simp [setAll]
  | _ :: _, [], _, _ => by simp [setAll]
  | r :: rs, x :: xs, l, h => by
    simp only [List.mem_cons, not_or] at h
    rw [setAll, setAll_out rs xs _ h.2, List.getElem?_set_ne (Ne.symm h.1)]

theorem setAll_in {α : Type} : ∀ (rs : List Nat) (xs : List α) (l : List α), rs.Nodup → (∀ r ∈ rs, r < l.length) → ∀ (i r : Nat) (x : α), rs[i]? = some r → xs[i]? = some x → (setAll l rs xs)[r]? = some x
  | [], _, _, _, _, i, r, x, h, _ => by simp at h
  | _ :: _, [], _, _, _, i, r, x, _, h => by simp at h
  | r0 :: rs, x0 :: xs, l, hn, hl, i, r, x, h1, h2 => by
    have n := List.nodup_cons.1 hn
    cases i with
    | zero =>
      simp at h1 h2
      subst h1 h2
      rw [setAll, setAll_out rs xs _ n.1, List.getElem?_set_self (hl _ (List.mem_cons_self ..))]
    | succ i =>
      rw [setAll]
      exact setAll_in rs xs _ n.2 (fun r hr => by rw [List.length_set]; exact hl r (List.mem_cons_of_mem _ hr)) i r x (by simpa using h1) (by simpa using h2)

theorem setObjs_eq : ∀ {ρ : List Nat} {objs : List Obj} {H : List (Option Root)}, ρ.length = objs.length → ρ.Nodup → (∀ r ∈ ρ, ∃ R, H[r]? = some (some R)) →
    (setObjs H ρ objs).length = H.length ∧ (∀ j, j ∉ ρ → (setObjs H ρ objs)[j]? = H[j]?) ∧ ∀ (i r : Nat) (o : Obj), ρ[i]? = some r → objs[i]? = some o → ∃ R, H[r]? = some (some R) ∧ (setObjs H ρ objs)[r]? = some (some ⟨R.dat, R.es, o.rows⟩)
  | [], _, H, _, _, _ => ⟨by cases ‹List Obj› <;> rfl, fun _ _ => by cases ‹List Obj› <;> rfl, fun i r o h => by simp at h⟩
  | r :: rs, [], H, h, _, _ => by simp at h
  | r :: rs, o :: os, H, hl, hn, hH => by
    have n := List.nodup_cons.1 hn
    obtain ⟨R, hR⟩ := hH r (List.mem_cons_self ..)
    obtain ⟨k1, k2, k3⟩ := setObjs_eq (H := H.set r (some ⟨R.dat, R.es, o.rows⟩)) (ρ := rs) (objs := os) (by simpa using hl) n.2 (fun r' hr' => by
      obtain ⟨R', hR'⟩ := hH r' (List.mem_cons_of_mem _ hr')
      refine ⟨R', ?_⟩
      have hne : r ≠ r' := fun h => n.1 (by rw [h]; exact hr')
      rw [List.getElem?_set_ne hne]
      exact hR')
    have e : setObjs H (r :: rs) (o :: os) = setObjs (H.set r (some ⟨R.dat, R.es, o.rows⟩)) rs os := by simp only [setObjs, hR]
    rw [e]
    refine ⟨by rw [k1]; simp, ?_, ?_⟩
    · intro j hj
      simp only [List.mem_cons, not_or] at hj
      rw [k2 j hj.2, List.getElem?_set_ne (Ne.symm hj.1)]
    · intro i r' o' h1 h2
      cases i with
      | zero =>
        simp at h1 h2
        subst h1 h2
        exact ⟨R, hR, by rw [k2 r n.1, List.getElem?_set_self (lt_len hR)]⟩
      | succ i =>
        obtain ⟨R', q1, q2⟩ := k3 i r' o' (by simpa using h1) (by simpa using h2)
        refine ⟨R', ?_, q2⟩
        have hne : r ≠ r' := fun h => n.1 (by rw [h]; exact List.mem_of_getElem? (l := rs) (i := i) (by simpa using h1))
        rwa [List.getElem?_set_ne hne] at q1

end
end Go.Dl
