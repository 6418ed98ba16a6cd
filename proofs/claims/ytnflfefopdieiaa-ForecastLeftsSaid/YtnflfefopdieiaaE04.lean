/- 'Dl', part S: contracts; from code to a contract; 'Dl', part T: a call by its contract; 'Dl', part U: a call by its contract: what is handed on, what comes back; 'Dl', part V: the state behind a call; 'Dl', part W: the rule for a call; rules that change nothing but what is said. -/
import Derived.Test.YtnflfefopdieiaaE03
set_option linter.all false
namespace Go.Dl
open Go.RowKit
/-- An object that is handed on: its cells. -/
structure Obj where
  es : Nat
  rows : List (List C)
abbrev Spec := List D → List Obj → (D → List Obj → Prop) → Prop
/-- A result of one slot, with the blocks that it owns. -/
def RepO1 (w : World) (S : Nat → Prop) (d : D) (v : Value) (fp : List Nat) : Prop :=
  match d with
  | .c y => Rep w S [] (.k false y v) fp
  | .agg xs => ∃ arr : Array Value, v = .agg arr ∧ Rep w S [] (.vs xs arr.toList) fp
  | _ => False
def RepO (w : World) (S : Nat → Prop) (d : D) (v : Value) (fp : List Nat) : Prop :=
  match d with
  | .t ds => ∃ (arr : Array Value) (fps : List (List Nat)), v = .tuple arr ∧ arr.size = ds.length ∧ fps.length = ds.length ∧ fp = fps.flatten ∧
      ∀ (i : Nat) (d' : D) (f : List Nat), ds[i]? = some d' → fps[i]? = some f → RepO1 w S d' (arr.getD i undef) f
  | d => RepO1 w S d v fp
/-- Objects as they lie. -/
def ObjsAt (w : World) (S : Nat → Prop) (objs : List Obj) (pls : List Pl) (fps : List (List Nat)) : Prop :=
  pls.length = objs.length ∧ fps.length = objs.length ∧ ∀ (i : Nat) (ob : Obj), objs[i]? = some ob → ∃ p f, pls[i]? = some p ∧ fps[i]? = some f ∧ RootAt w S [] ⟨true, ob.es, ob.rows⟩ p f
/-- What a call leaves. -/
structure Left (w w' : World) (S : Nat → Prop) (pls : List Pl) (fps : List (List Nat)) (d : D) (v : Value) (objs' : List Obj) : Prop where
  size : w.heap.size ≤ w'.heap.size
  keep : ∀ b, b < w.heap.size → b ∉ fps.flatten → w'.heap[b]? = w.heap[b]?
  os : w'.os = w.os
  tape : w'.tape = w.tape
  output : OutLe w w'
  rest : ∃ (S' : Nat → Prop) (pls' : List Pl) (fps' : List (List Nat)) (fpd : List Nat), (∀ b, S b → S' b) ∧ (∀ b, S' b → b < w'.heap.size ∧ (S b ∨ b ∈ fps.flatten ∨ w.heap.size ≤ b)) ∧
    RepO w' S' d v fpd ∧ ObjsAt w' S' objs' pls' fps' ∧ (fpd ++ fps'.flatten).Nodup ∧ (∀ b ∈ fpd ++ fps'.flatten, ¬ S' b ∧ b < w'.heap.size ∧ (b ∈ fps.flatten ∨ w.heap.size ≤ b)) ∧
    ∀ (i : Nat) (p p' : Pl), pls[i]? = some p → pls'[i]? = some p' → p.le p'
/-- A function's contract. -/
def Meets (P : Program) (k : FuncId) (spec : Spec) : Prop :=
  ∀ (args : List D) (objs : List Obj) (Q : D → List Obj → Prop), spec args objs Q → ∀ (w : World) (S : Nat → Prop) (vs : Array Value) (pls : List Pl) (fps : List (List Nat)),
    args.length = vs.size → (∀ (i : Nat) (d : D), args[i]? = some d → RepD w S (pls.map some) d (vs.getD i undef)) → ObjsAt w S objs pls fps → fps.flatten.Nodup → (∀ b ∈ fps.flatten, ¬ S b ∧ b < w.heap.size) → (∀ b, S b → b < w.heap.size) →
    Calls P k vs w fun e w' => ∃ v d objs', e = .returned v ∧ Q d objs' ∧ objs'.length = objs.length ∧ Left w w' S pls fps d v objs'
/-- A cell as it leaves; the rows that it takes along. -/
def outC (H : List (Option Root)) : C → Option (C × List Nat)
  | .h r lo len => match H[r]? with
    | some (some R) => if R.dat = true ∧ R.es ≠ 0 ∧ lo = 0 ∧ len = R.rows.length then some (.s true R.es R.rows, [r]) else none
    | _ => none
  | .p r e c => match H[r]? with
    | some (some R) => if R.dat = false ∧ e = 0 ∧ c = 0 then match R.rows with
        | [row] => if row.all C.dat then some (.o row, [r]) else none
        | _ => none
      else none
    | _ => none
  | c => if c.dat then some (c, []) else none
def outCs (H : List (Option Root)) : List C → Option (List C × List Nat)
  | [] => some ([], [])
  | c :: cs => match outC H c, outCs H cs with
    | some (c', l1), some (cs', l2) => some (c' :: cs', l1 ++ l2)
    | _, _ => none
def outD (H : List (Option Root)) : D → Option (D × List Nat)
  | .c y => (outC H y).map fun r => (.c r.1, r.2)
  | .agg xs => (outCs H xs).map fun r => (.agg r.1, r.2)
  | _ => none
def Yh (H : List (Option Root)) : List D → Option (List D × List (List Nat))
  | [] => some ([], [])
  | d :: ds => match outD H d, Yh H ds with
    | some (d', l1), some (ds', l2) => some (d' :: ds', l1 :: l2)
    | _, _ => none
/-- A result out of its slot, or out of its variable. -/
def resD (P : Program) (A : St) : ResultVar → Option D
  | .tmp t => A.sl[t]?
  | .cell a t => (A.sl[a]?).bind (qload P A.H t)
def Yi (P : Program) (A : St) : List ResultVar → Option (List D)
  | [] => some []
  | r :: rs => match resD P A r, Yi P A rs with
    | some d, some ds => some (d :: ds)
    | _, _ => none
/-- The results. -/
def outRes (P : Program) (A : St) (rs : List ResultVar) : Option (D × List Nat) :=
  match Yi P A rs with
  | some [d] => outD A.H d
  | some ds => (Yh A.H ds).map fun r => (.t r.1, r.2.flatten)
  | none => none
def objOf : Option Root → Option Obj
  | some R => if R.rows.all (fun row => row.all C.dat) then some ⟨R.es, R.rows⟩ else none
  | none => none
def outObjs (H : List (Option Root)) : Nat → Option (List Obj)
  | 0 => some []
  | m + 1 => match outObjs H m, (H[m]?).bind objOf with
    | some l, some o => some (l ++ [o])
    | _, _ => none
/-- The end of a body: results and objects. -/
def Ends (P : Program) (rs : List ResultVar) (m : Nat) (Q : D → List Obj → Prop) (e : Exit) (A : St) : Prop :=
  (e = .ret ∨ e = .normal) ∧ ∃ d ids objs, outRes P A rs = some (d, ids) ∧ outObjs A.H m = some objs ∧ ids.Nodup ∧ (∀ r ∈ ids, m ≤ r) ∧ Q d objs
section
variable {P : Program} {g : G} {S : Nat → Prop} {E : Env} {F : List (List Nat)} {A : St} {a : Act} {w : World}
def It.pure : It → Prop
  | .k d c _ => d = true ∨ c.dat = true
  | .l d _ _ _ => d = true
  | .vs cs _ => cs.all C.dat = true
theorem Rep.noenv {w : World} {S : Nat → Prop} {E E' : Env} {it : It} {fp : List Nat} (h : Rep w S E it fp) (hd : it.pure) : Rep w S E' it fp := by
  induction h with
  | v h => exact .v h
  | nilI => exact .nilI
  | nilO => exact .nilO
  | imm hS hc hl hr ih => exact .imm hS hc hl (ih rfl)
  | own hz hb hc hl hr ih => exact .own hz hb hc hl (ih rfl)
  | optr hb hr ih => exact .optr hb (ih rfl)
  | x => rcases hd with h | h <;> cases h
  | m => exact .m
  | h _ _ => rcases hd with h | h <;> cases h
  | p _ _ => rcases hd with h | h <;> cases h
  | f hc hr ih =>
    rename_i dat k caps cs
    refine .f hc (ih ?_)
    rcases hd with h | h
    · rcases hc with h' | h'
      · rw [h] at h'; cases h'
      · subst h'; rfl
    · have : caps = [] := by simpa [C.dat] using h
      subst this; rfl
  | lnil => exact .lnil
  | lcons hv hc hr ih1 ih2 => exact .lcons hv (ih1 (.inl hd)) (ih2 hd)
  | lb hv hz h0 hb hr ih2 => exact .lb hv hz h0 hb (ih2 hd)
  | un => exact .un
  | uo h0 hg hc hm hz ht => exact .uo h0 hg hc hm hz ht
  | vnil => exact .vnil
  | vcons hc hr ih1 ih2 =>
    have hd' : (_ && _) = true := hd
    rw [Bool.and_eq_true] at hd'
    exact .vcons (ih1 (.inr hd'.1)) (ih2 hd'.2)
/-- What is said of data is said of cells. -/
theorem Rep.lundat {w : World} {S : Nat → Prop} {E : Env} {b : Nat} : ∀ {cs : List C} {off : Nat} {fp : List Nat}, Rep w S E (.l true cs b off) fp → Rep w S E (.l false cs b off) fp := by
  intro cs
  induction cs with
  | nil => intro off fp h; cases h; exact .lnil
  | cons c cs ih =>
    intro off fp h
    cases h with
    | lcons hv h1 h2 => exact .lcons hv h1.undat (ih h2)
    | lb hv hz h0 h1 h2 => exact .lb hv hz h0 h1 (ih h2)
/-- All of it is data: said of every cell alike. -/
theorem Rep.ldat {w : World} {S : Nat → Prop} {E : Env} {dat : Bool} {b : Nat} : ∀ {cs : List C} {off : Nat} {fp : List Nat}, Rep w S E (.l dat cs b off) fp → cs.all C.dat = true → Rep w S E (.l true cs b off) fp := by
  intro cs
  induction cs with
  | nil => intro off fp h _; cases h; exact .lnil
  | cons c cs ih =>
    intro off fp h hc
    simp only [Z16, Bool.and_eq_true] at hc
    cases h with
    | lcons hv h1 h2 => exact .lcons hv (h1.undat.todat hc.1 true) (ih h2 hc.2)
    | lb hv hz h0 h1 h2 => exact .lb hv hz h0 h1 (ih h2 hc.2)
theorem rows_dat {rows : List (List C)} (h : rows.all (fun row => row.all C.dat) = true) : rows.flatten.all C.dat = true := by
  rw [List.all_eq_true] at *
  intro c hc
  obtain ⟨row, h1, h2⟩ := List.mem_flatten.1 hc
  exact List.all_eq_true.1 (h row h1) c h2
theorem outC_sound (hr : Rel g S E F A a w) {c c' : C} {v : Value} {ids : List Nat} (h : Rep w S E (.k false c v) []) (ho : outC A.H c = some (c', ids)) :
    ∃ fp, Rep w S [] (.k false c' v) fp ∧ (∀ x ∈ fp, ∃ r ∈ ids, ∃ f, F[r]? = some f ∧ x ∈ f) ∧ fp.Nodup := by
  have hdat : ∀ {c c' : C} {ids : List Nat}, Rep w S E (.k false c v) [] → (if c.dat = true then some (c, ([] : List Nat)) else none) = some (c', ids) →
      ∃ fp, Rep w S [] (.k false c' v) fp ∧ (∀ x ∈ fp, ∃ r ∈ ids, ∃ f, F[r]? = some f ∧ x ∈ f) ∧ fp.Nodup := by
    intro c c' ids h ho
    split at ho
    · rename_i hd
      cases ho
      exact ⟨[], h.noenv (.inr hd), by simp, by simp⟩
    · cases ho
  unfold outC at ho
  split at ho
  · rename_i r lo len
    split at ho
    · rename_i R hR
      split at ho
      · rename_i hc
        obtain ⟨c1, c0, rfl, rfl⟩ := hc
        cases ho
        obtain ⟨p, f, h1, h2, h3, h4⟩ := handle_live hr hR (.c h)
        obtain ⟨g1, g2, g3, g4, g5⟩ := h3
        obtain ⟨k1, k2⟩ := h4
        cases hat : p.at? with
        | none =>
          rw [hat] at k2 g5
          obtain ⟨ad, rfl⟩ := k2
          obtain ⟨e1, _, _⟩ := g5
          rw [e1]
          exact ⟨[], .nilO, by simp, by simp⟩
        | some bo =>
          obtain ⟨b, off⟩ := bo
          rw [hat] at k2 g5
          obtain ⟨ad, cap, rfl, q2, q3, q4⟩ := k2
          obtain ⟨fr, rfl, e2, e3⟩ := g5
          have hnd := nodup_at hr.nodup h2
          by_cases hcap0 : cap = 0
          · have : R.rows = [] := List.eq_nil_of_length_eq_zero (by omega)
            subst hcap0
            rw [this]
            exact ⟨[], .nilO, by simp, by simp⟩
          · have had : ad = ⟨b, off, none⟩ := by
              rcases q4 with q4 | q4
              · exact absurd q4 hcap0
              · rw [q4]; simp
            subst had
            rw [c1] at e3
            refine ⟨b :: fr, .own c0 ?_ q2 g4 (e3.noenv rfl), ?_, hnd⟩
            · obtain ⟨arr, el, z, m1, m2, m3⟩ := e2
              refine ⟨arr, el, z, m1, ?_, m3⟩
              have := Nat.mul_le_mul_right R.es (show cap ≤ p.m by omega)
              omega
            · intro x hx
              exact ⟨r, by simp, _, h2, hx⟩
      · cases ho
    · cases ho
  · rename_i r e c
    split at ho
    · rename_i R hR
      split at ho
      · rename_i hc
        obtain ⟨c1, rfl, rfl⟩ := hc
        split at ho
        · rename_i row hrows
          split at ho
          · rename_i hall
            cases ho
            obtain ⟨p, f, h1, h2, h3⟩ := hr.root r R hR
            cases h with
            | p _ hh =>
              obtain ⟨b, off, e1, e2⟩ := hh p h1
              obtain ⟨g1, g2, g3, g4, g5⟩ := h3
              rw [e1] at g5
              obtain ⟨fr, rfl, k2, k3⟩ := g5
              rw [hrows] at k3 g2 g4
              have hrl : row.length = R.es := g4 row (by simp)
              simp only [List.flatten_cons, List.flatten_nil, Z15] at k3
              simp only [Nat.zero_mul, Nat.add_zero] at e2
              refine ⟨b :: fr, ?_, fun x hx => ⟨r, by simp, _, h2, hx⟩, nodup_at hr.nodup h2⟩
              rw [e2]
              refine .optr ?_ ((k3.ldat hall).noenv rfl)
              obtain ⟨arr, el, z, m1, m2, m3⟩ := k2
              refine ⟨arr, el, z, m1, ?_, m3⟩
              have hm : 1 ≤ p.m := by simp at g2; omega
              have := Nat.mul_le_mul_right R.es hm
              omega
          · cases ho
        · cases ho
      · cases ho
    · cases ho
  · exact hdat h ho
/-- Blocks of unlike roots are unlike. -/
theorem apart (hr : Rel g S E F A a w) {r r' : Nat} {f f' : List Nat} {x : Nat} (h : F[r]? = some f) (h' : F[r']? = some f') (hx : x ∈ f) (hx' : x ∈ f') : r = r' := by
  rcases Nat.lt_trichotomy r r' with hlt | heq | hgt
  · exfalso
    obtain ⟨xs, ys, e1, _⟩ := flatten_set (f' := []) h'
    have hn := hr.nodup
    have e0 := flatten_set (f' := []) h'
    have : x ∈ (F.take r').flatten := List.mem_flatten.2 ⟨f, List.mem_of_getElem? (by rw [List.getElem?_take, if_pos hlt]; exact h), hx⟩
    have e : F.flatten = (F.take r').flatten ++ (F.drop r').flatten := by rw [← List.flatten_append, List.take_append_drop]
    rw [e, List.nodup_append] at hn
    have hm : x ∈ (F.drop r').flatten := List.mem_flatten.2 ⟨f', List.mem_of_getElem? (i := 0) (by rw [List.getElem?_drop]; simpa using h'), hx'⟩
    exact hn.2.2 x this x hm rfl
  · exact heq
  · exfalso
    have hn := hr.nodup
    have : x ∈ (F.take r).flatten := List.mem_flatten.2 ⟨f', List.mem_of_getElem? (by rw [List.getElem?_take, if_pos hgt]; exact h'), hx'⟩
    have e : F.flatten = (F.take r).flatten ++ (F.drop r).flatten := by rw [← List.flatten_append, List.take_append_drop]
    rw [e, List.nodup_append] at hn
    have hm : x ∈ (F.drop r).flatten := List.mem_flatten.2 ⟨f, List.mem_of_getElem? (i := 0) (by rw [List.getElem?_drop]; simpa using h), hx⟩
    exact hn.2.2 x this x hm rfl
/-- What owned blocks come from. -/
def From (F : List (List Nat)) (ids : List Nat) (fp : List Nat) : Prop := ∀ x ∈ fp, ∃ r ∈ ids, ∃ f, F[r]? = some f ∧ x ∈ f
theorem from_app (hr : Rel g S E F A a w) {i1 i2 f1 f2 : List Nat} (h1 : From F i1 f1) (h2 : From F i2 f2) (n1 : f1.Nodup) (n2 : f2.Nodup) (hn : (i1 ++ i2).Nodup) : From F (i1 ++ i2) (f1 ++ f2) ∧ (f1 ++ f2).Nodup := by
  refine ⟨?_, List.nodup_append.2 ⟨n1, n2, ?_⟩⟩
  · intro x hx
    rcases List.mem_append.1 hx with h | h
    · obtain ⟨r, k1, k2⟩ := h1 x h; exact ⟨r, List.mem_append_left _ k1, k2⟩
    · obtain ⟨r, k1, k2⟩ := h2 x h; exact ⟨r, List.mem_append_right _ k1, k2⟩
  · intro x hx y hy hxy
    subst hxy
    obtain ⟨r, k1, f, k2, k3⟩ := h1 x hx
    obtain ⟨r', m1, f', m2, m3⟩ := h2 x hy
    have := apart hr k2 m2 k3 m3
    subst this
    exact (List.nodup_append.1 hn).2.2 r k1 r m1 rfl
theorem outCs_sound (hr : Rel g S E F A a w) : ∀ {cs cs' : List C} {vs : List Value} {ids : List Nat}, Rep w S E (.vs cs vs) [] → outCs A.H cs = some (cs', ids) → ids.Nodup →
    ∃ fp, Rep w S [] (.vs cs' vs) fp ∧ From F ids fp ∧ fp.Nodup
  | [], cs', vs, ids, h, ho, _ => by cases ho; cases h; exact ⟨[], .vnil, fun x hx => by simp at hx, by simp⟩
  | c :: cs, cs', vs, ids, h, ho, hn => by
    simp only [outCs] at ho
    split at ho
    · rename_i c1 l1 cs1 l2 h1 h2
      cases ho
      generalize hfp : ([] : List Nat) = fp at h
      cases h with
      | vcons k1 k2 =>
        obtain ⟨rfl, rfl⟩ := List.append_eq_nil_iff.1 hfp.symm
        obtain ⟨fp1, q1, q2, q3⟩ := outC_sound hr k1 h1
        obtain ⟨fp2, r1, r2, r3⟩ := outCs_sound hr k2 h2 (List.nodup_append.1 hn).2.1
        obtain ⟨s1, s2⟩ := from_app hr q2 r2 q3 r3 hn
        exact ⟨fp1 ++ fp2, .vcons q1 r1, s1, s2⟩
    · cases ho
theorem outD_sound (hr : Rel g S E F A a w) {d d' : D} {v : Value} {ids : List Nat} (h : RepD w S E d v) (ho : outD A.H d = some (d', ids)) (hn : ids.Nodup) : ∃ fp, RepO1 w S d' v fp ∧ From F ids fp ∧ fp.Nodup := by
  unfold outD at ho
  split at ho
  · rename_i y
    cases hc : outC A.H y with
    | none => rw [hc] at ho; cases ho
    | some r =>
      rw [hc] at ho; cases ho
      cases h with
      | c h => obtain ⟨fp, h1, h2, h3⟩ := outC_sound hr h hc; exact ⟨fp, h1, h2, h3⟩
  · rename_i xs
    cases hc : outCs A.H xs with
    | none => rw [hc] at ho; cases ho
    | some r =>
      rw [hc] at ho; cases ho
      obtain ⟨arr, rfl, hrep⟩ := agg_inv h
      obtain ⟨fp, h1, h2, h3⟩ := outCs_sound hr hrep hc hn
      exact ⟨fp, ⟨arr, rfl, h1⟩, h2, h3⟩
  · cases ho
theorem outDs_sound (hr : Rel g S E F A a w) : ∀ {ds ds' : List D} {vs : List Value} {ids : List (List Nat)}, ds.length = vs.length → (∀ (i : Nat) (d : D), ds[i]? = some d → RepD w S E d (vs.getD i undef)) → Yh A.H ds = some (ds', ids) → ids.flatten.Nodup →
    ∃ fps : List (List Nat), ds'.length = ds.length ∧ fps.length = ds.length ∧ (∀ (i : Nat) (d' : D) (f : List Nat), ds'[i]? = some d' → fps[i]? = some f → RepO1 w S d' (vs.getD i undef) f) ∧ From F ids.flatten fps.flatten ∧ fps.flatten.Nodup
  | [], ds', vs, ids, _, _, ho, _ => by cases ho; exact ⟨[], rfl, rfl, by simp, fun x hx => by simp at hx, by simp⟩
  | d :: ds, ds', vs, ids, hl, h, ho, hn => by
    simp only [Yh] at ho
    split at ho
    · rename_i d1 l1 ds1 l2 h1 h2
      cases ho
      cases vs with
      | nil => simp at hl
      | cons v vs =>
        rw [List.flatten_cons] at hn
        obtain ⟨fp, q1, q2, q3⟩ := outD_sound hr (h 0 d rfl) h1 (List.nodup_append.1 hn).1
        obtain ⟨fps, r0, r1, r2, r3, r4⟩ := outDs_sound hr (vs := vs) (by simpa using hl) (fun i d hd => by have := h (i + 1) d (by simpa using hd); simpa using this) h2 (List.nodup_append.1 hn).2.1
        obtain ⟨s1, s2⟩ := from_app hr q2 r3 q3 r4 hn
        refine ⟨fp :: fps, by simp [r0], by simp [r1], ?_, by simpa using s1, by simpa using s2⟩
        intro i d' f hd hf
        cases i with
        | zero => simp at hd hf; subst hd hf; simpa using q1
        | succ i => have := r2 i d' f (by simpa using hd) (by simpa using hf); simpa using this
    · cases ho
theorem resD_sound (hr : Rel g S E F A a w) {r : ResultVar} {d : D} (h : resD P A r = some d) : ∃ v, (match r with
      | .tmp t => pure (a.tmps.getD t undef)
      | .cell ad t => do loadVar t (← asAddr (a.tmps.getD ad undef)) : Sem Value).run P w = .ok v w ∧ RepD w S E d v := by
  cases r with
  | tmp t => exact ⟨_, rfl, hr.sl t d h⟩
  | cell ad t =>
    simp only [resD] at h
    cases hx : A.sl[ad]? with
    | none => rw [hx] at h; cases h
    | some dx =>
      rw [hx] at h
      have hrep := hr.sl ad dx hx
      obtain ⟨v, h1, h2⟩ := qload_sound hr hrep h
      refine ⟨v, ?_, h2⟩
      unfold qload at h
      cases hc : Y9 A.H dx with
      | none => simp [hc] at h
      | some xs =>
        obtain ⟨b, off, dat, fp, e1, _⟩ := cellsAt_rep hr hrep hc
        simp only [e1] at h1 ⊢
        simpa [Instr.loadAt, Instr.sureAddr, asAddr] using h1
theorem resDs_sound (hr : Rel g S E F A a w) (f : ResultVar → Sem Value) (hf : ∀ r d, resD P A r = some d → ∃ v, (f r).run P w = .ok v w ∧ RepD w S E d v) : ∀ {rs : List ResultVar} {ds : List D}, Yi P A rs = some ds →
    ∃ vs : List Value, (rs.mapM (m := Sem) f).run P w = .ok vs w ∧ ds.length = vs.length ∧ ∀ (i : Nat) (d : D), ds[i]? = some d → RepD w S E d (vs.getD i undef)
  | [], ds, h => by cases h; exact ⟨[], by simp, rfl, by simp⟩
  | r :: rs, ds, h => by
    simp only [Yi] at h
    split at h
    · rename_i d ds' h1 h2
      cases h
      obtain ⟨v, k1, k2⟩ := hf r d h1
      obtain ⟨vs, m1, m2, m3⟩ := resDs_sound hr f hf h2
      refine ⟨v :: vs, by simp only [List.mapM_cons, Sem.run_bind, k1, Result.andThen_ok, m1, Sem.run_pure], by simp [m2], ?_⟩
      intro i d' hd
      cases i with
      | zero => simp at hd; subst hd; simpa using k2
      | succ i => have := m3 i d' (by simpa using hd); simpa using this
    · cases h
theorem outRes_sound (hr : Rel g S E F A a w) {fn : Func} {d : D} {ids : List Nat} (ho : outRes P A fn.results.toList = some (d, ids)) (hn : ids.Nodup) :
    ∃ v fp, (results fn a.tmps).run P w = .ok v w ∧ RepO w S d v fp ∧ From F ids fp ∧ fp.Nodup := by
  unfold outRes at ho
  have hrun : ∀ (ds : List D), Yi P A fn.results.toList = some ds → ∃ vs : List Value, ds.length = vs.length ∧ (∀ (i : Nat) (d : D), ds[i]? = some d → RepD w S E d (vs.getD i undef)) ∧
      (results fn a.tmps).run P w = .ok (if h : vs.length = 1 then vs[0] else .tuple vs.toArray) w := by
    intro ds hds
    obtain ⟨vs, m1, m2, m3⟩ := resDs_sound (P := P) hr _ (fun r d h => resD_sound hr h) hds
    refine ⟨vs, m2, m3, ?_⟩
    unfold results
    rw [Array.mapM_eq_mapM_toList, Sem.run_bind, Sem.run_map]
    refine Eq.trans (b := ((Result.ok vs w).andThen fun a w' => Result.ok a.toArray w').andThen fun a w' => (pure (if h : a.size = 1 then a[0] else .tuple a) : Sem Value).run P w') ?_ ?_
    · rw [← m1]; rfl
    · simp only [Result.andThen_ok, Sem.run_pure, List.size_toArray]
      simp
  split at ho
  · rename_i d0 hm
    obtain ⟨vs, q1, q2, q3⟩ := hrun _ hm
    match vs, q1, q2, q3 with
    | [v], _, q2, q3 =>
      obtain ⟨fp, h1, h2, h3⟩ := outD_sound hr (q2 0 d0 rfl) ho hn
      refine ⟨v, fp, by rw [q3]; simp, ?_, h2, h3⟩
      unfold RepO
      split
      · rename_i ds; unfold RepO1 at h1; exact h1.elim
      · simpa using h1
  · rename_i ds hne hm
    cases hds : Yh A.H ds with
    | none => rw [hds] at ho; cases ho
    | some r =>
      rw [hds] at ho; cases ho
      obtain ⟨vs, q1, q2, q3⟩ := hrun _ hm
      have hl1 : vs.length ≠ 1 := by
        intro h1
        rw [← q1] at h1
        match ds, h1 with
        | [d0], _ => exact hne d0 rfl
      rw [dif_neg hl1] at q3
      obtain ⟨fps, r0, r1, r2, r3, r4⟩ := outDs_sound hr (vs := vs) q1 q2 hds hn
      refine ⟨_, fps.flatten, q3, ⟨_, fps, rfl, by simp [← q1, r0], by rw [r1, r0], rfl, ?_⟩, r3, r4⟩
      intro i d' f hd hf
      have := r2 i d' f hd hf
      simpa [Array.getD_eq_getD_getElem?, List.getD] using this
  · cases ho
theorem outObjs_spec : ∀ {m : Nat} {H : List (Option Root)} {objs : List Obj}, outObjs H m = some objs → objs.length = m ∧ ∀ (i : Nat) (ob : Obj), objs[i]? = some ob → ∃ R, H[i]? = some (some R) ∧ R.rows.all (fun row => row.all C.dat) = true ∧ ob = ⟨R.es, R.rows⟩
  | 0, H, objs, h => by cases h; simp
  | m + 1, H, objs, h => by
    simp only [outObjs] at h
    split at h
    · rename_i l o h1 h2
      cases h
      obtain ⟨k1, k2⟩ := outObjs_spec h1
      refine ⟨by simp [k1], fun i ob hob => ?_⟩
      by_cases hi : i < l.length
      · rw [List.getElem?_append_left hi] at hob
        exact k2 i ob hob
      · have hil := lt_len hob
        simp at hil
        have : i = m := by omega
        subst this
        rw [List.getElem?_append_right (by omega), k1, Nat.sub_self] at hob
        simp at hob
        subst hob
        cases hH : H[i]? with
        | none => rw [hH] at h2; cases h2
        | some oR =>
          rw [hH] at h2
          simp only [Z8] at h2
          cases oR with
          | none => cases h2
          | some R =>
            simp only [objOf] at h2
            split at h2
            · rename_i hall; cases h2; exact ⟨R, rfl, hall, rfl⟩
            · cases h2
    · cases h
/-- From code to a contract. -/
theorem meets_of_tri {k : FuncId} {fn : Func} {c : Code} {spec : Spec} {n : Nat} {rs : List ResultVar} (hf : P.funcs[k]? = some fn) (hb : fn.body = some c) (hnt : fn.ntmps = n) (hrs : fn.results.toList = rs)
    (h : ∀ (args : List D) (objs : List Obj) (Q : D → List Obj → Prop), spec args objs Q →
      Tri P c ⟨args ++ List.replicate (n - args.length) .top, objs.map fun o => some ⟨false, o.es, o.rows⟩⟩ (Ends P rs objs.length Q)) : Meets P k spec := by
  subst hnt
  subst hrs
  intro args objs Q hs w S vs pls fps hlen hargs hobjs hnd hfs hS
  obtain ⟨o1, o2, o3⟩ := hobjs
  refine calls_of_wp hf hb ?_
  have hrel : Rel ⟨w, S, fps.flatten, pls⟩ S (pls.map some) fps ⟨args ++ List.replicate (fn.ntmps - args.length) .top, objs.map fun o => some ⟨false, o.es, o.rows⟩⟩
      { tmps := vs ++ Array.replicate (fn.ntmps - vs.size) undef, defers := [] } w := by
    refine { len := by simp [hlen], sl := ?_, defers := rfl, lE := by simp [o1], lF := by simp [o2], root := ?_, dead := ?_, nodup := hnd, fS := fun b hb => (hfs b hb).1, fsz := fun b hb => ⟨(hfs b hb).2, .inl hb⟩, Ssz := fun b hb => ⟨hS b hb, .inl hb⟩, S0 := fun _ h => h, prot := fun _ _ _ => rfl, size := Nat.le_refl _, os := rfl, tape := rfl, output := .rf _, fix := ?_ }
    · intro t d hd
      by_cases ht : t < args.length
      · rw [List.getElem?_append_left ht] at hd
        have := hargs t d hd
        have ht' : t < vs.size := by omega
        rw [Array.getD_eq_getD_getElem?, Array.getElem?_append_left ht', ← Array.getD_eq_getD_getElem?]
        exact this
      · rw [List.getElem?_append_right (by omega)] at hd
        have := List.eq_of_mem_replicate (List.mem_of_getElem? hd)
        subst this
        exact .top
    · intro r R hR
      simp only [List.getElem?_map, Option.map_eq_some_iff, Z3] at hR
      obtain ⟨ob, h1, rfl⟩ := hR
      obtain ⟨p, f, k1, k2, k3⟩ := o3 r ob h1
      refine ⟨p, f, by simp [k1], k2, ?_⟩
      obtain ⟨g1, g2, g3, g4, g5⟩ := k3
      refine ⟨g1, g2, g3, g4, ?_⟩
      cases hat : p.at? with
      | none => rw [hat] at g5; exact g5
      | some bo =>
        rw [hat] at g5
        obtain ⟨fr, e1, e2, e3⟩ := g5
        refine ⟨fr, e1, e2, ?_⟩
        have : ∀ {cs : List C} {off : Nat} {fp : List Nat} {b : Nat}, Rep w S [] (.l true cs b off) fp → Rep w S (pls.map some) (.l false cs b off) fp := by
          intro cs
          induction cs with
          | nil => intro off fp b h; cases h; exact .lnil
          | cons c cs ih =>
            intro off fp b h
            cases h with
            | lcons hv h1 h2 => exact .lcons hv (h1.noenv (.inl rfl)).undat (ih h2)
            | lb hv hz h0 h1 h2 => exact .lb hv hz h0 h1 (ih h2)
        exact this e3
    · intro r hR
      simp only [List.getElem?_map, Option.map_eq_some_iff] at hR
      obtain ⟨ob, _, h2⟩ := hR
      cases h2
    · intro r q hq
      refine ⟨by simp; rw [← o1]; exact lt_len hq, fun R hR => ?_⟩
      simp only [List.getElem?_map, Option.map_eq_some_iff, Z3] at hR
      obtain ⟨ob, _, rfl⟩ := hR
      refine ⟨rfl, fun p hp => ?_⟩
      rw [List.getElem?_map, hq] at hp
      cases hp
      exact q.le_refl
  have htri := h args objs Q hs ⟨w, S, fps.flatten, pls⟩ _ w ⟨_, _, _, hrel⟩
  refine wp_mono htri ?_
  rintro e a' w' ⟨A', ⟨S', E', F', hr'⟩, hend, d, ids, objs', t2, t3, t4, t5, t6⟩
  obtain ⟨v, fp, r1, r2, r3, r4⟩ := outRes_sound (P := P) hr' t2 t4
  obtain ⟨ob1, ob2⟩ := outObjs_spec t3
  have hmE : objs.length ≤ A'.H.length := by
    rcases Nat.eq_zero_or_pos objs.length with h0 | h0
    · omega
    · have := (hr'.fix (objs.length - 1) (pls[objs.length - 1]'(by omega)) (List.getElem?_eq_getElem _)).1
      omega
  have hpost : ∃ v, (results fn a'.tmps).run P w' = .ok v w' ∧ ∃ v' d objs', Ending.returned v = .returned v' ∧ Q d objs' ∧ objs'.length = objs.length ∧ Left w w' S pls fps d v' objs' := by
    refine ⟨v, r1, v, d, objs', rfl, t6, ob1, ?_⟩
    have hpls : ∀ i, i < objs.length → ∃ p f, E'[i]? = some (some p) ∧ F'[i]? = some f := by
      intro i hi
      obtain ⟨R, k1, _, _⟩ := ob2 i (objs'[i]'(by omega)) (List.getElem?_eq_getElem _)
      obtain ⟨p, f, q1, q2, _⟩ := hr'.root i R k1
      exact ⟨p, f, q1, q2⟩
    have hE'l : objs.length ≤ E'.length := by rw [hr'.lE]; exact hmE
    have hF'l : objs.length ≤ F'.length := by rw [hr'.lF]; exact hmE
    refine { size := hr'.size, keep := hr'.prot, os := hr'.os, tape := hr'.tape, output := hr'.output, rest := ⟨S', (E'.take objs.length).map (fun o => o.getD ⟨none, 0, 0, 0⟩), F'.take objs.length, fp, hr'.S0, ?_, r2, ⟨?_, ?_, ?_⟩, ?_, ?_, ?_⟩ }
    · intro b hb
      exact hr'.Ssz b hb
    · simp [ob1]; omega
    · simp [ob1]; omega
    · intro i ob hob
      obtain ⟨R, k1, k2, k3⟩ := ob2 i ob hob
      obtain ⟨p, f, q1, q2, q3⟩ := hr'.root i R k1
      have hi : i < objs.length := by rw [← ob1]; exact lt_len hob
      refine ⟨p, f, by rw [List.getElem?_map, List.getElem?_take, if_pos hi, q1]; rfl, by rw [List.getElem?_take, if_pos hi]; exact q2, ?_⟩
      subst k3
      obtain ⟨g1, g2, g3, g4, g5⟩ := q3
      refine ⟨g1, g2, g3, g4, ?_⟩
      cases hat : p.at? with
      | none => rw [hat] at g5; exact g5
      | some bo =>
        rw [hat] at g5
        obtain ⟨fr, e1, e2, e3⟩ := g5
        exact ⟨fr, e1, e2, (e3.ldat (rows_dat k2)).noenv rfl⟩
    · rw [List.nodup_append]
      refine ⟨r4, ?_, ?_⟩
      · have := hr'.nodup
        rw [← List.take_append_drop objs.length F', List.flatten_append, List.nodup_append] at this
        exact this.1
      · intro x hx y hy hxy
        subst hxy
        obtain ⟨r, k1, f, k2, k3⟩ := r3 x hx
        obtain ⟨f', m1, m2⟩ := List.mem_flatten.1 hy
        obtain ⟨i, hi, rfl⟩ := List.getElem_of_mem m1
        have hi' : i < objs.length := by simp at hi; omega
        have hF : F'[i]? = some ((F'.take objs.length)[i]) := by
          rw [List.getElem_take]; exact List.getElem?_eq_getElem _
        have := apart hr' k2 hF k3 m2
        have := t5 r k1
        omega
    · intro b hb
      have hbF : b ∈ F'.flatten := by
        rcases List.mem_append.1 hb with h | h
        · obtain ⟨r, k1, f, k2, k3⟩ := r3 b h
          exact flat_get k2 b k3
        · obtain ⟨f', m1, m2⟩ := List.mem_flatten.1 h
          exact List.mem_flatten.2 ⟨f', List.mem_of_mem_take m1, m2⟩
      exact ⟨hr'.fS b hbF, (hr'.fsz b hbF).1, (hr'.fsz b hbF).2⟩
    · intro i p p' hp hp'
      have hi : i < objs.length := by rw [← o1]; exact lt_len hp
      rw [List.getElem?_map, List.getElem?_take, if_pos hi] at hp'
      obtain ⟨p2, f2, q1, q2⟩ := hpls i hi
      rw [q1] at hp'
      simp at hp'
      subst hp'
      obtain ⟨R, k1, _, _⟩ := ob2 i (objs'[i]'(by omega)) (List.getElem?_eq_getElem _)
      exact ((hr'.fix i p hp).2 R k1).2 p2 q1
  rcases hend with rfl | rfl
  · obtain ⟨v, h1, h2⟩ := hpost
    exact ⟨hr'.defers, v, h1, h2⟩
  · obtain ⟨v, h1, h2⟩ := hpost
    exact ⟨hr'.defers, v, h1, h2⟩
end
end Go.Dl

namespace Go.Dl
open Go.RowKit
/-- An argument's cell, as the callee sees it; what is lent. -/
def argC (H : List (Option Root)) (ρ : List Nat) : C → Option (C × List Nat)
  | .p r e c => match ρ.idxOf? r with
    | some i => some (.p i e c, [])
    | none => none
  | .h r lo len => match ρ.idxOf? r with
    | some i => some (.h i lo len, [])
    | none => match H[r]? with
      | some (some R) => if R.dat = true ∧ lo + len ≤ R.rows.length ∧ (((R.rows.drop lo).take len).all fun row => row.all C.cp) = true then some (.s false R.es ((R.rows.drop lo).take len), [r]) else none
      | _ => none
  | .f k caps => if caps.isEmpty then some (.f k caps, []) else none
  | c => if c.dat && c.cpy.cp then some (c.cpy, []) else none
def argCs (H : List (Option Root)) (ρ : List Nat) : List C → Option (List C × List Nat)
  | [] => some ([], [])
  | c :: cs => match argC H ρ c, argCs H ρ cs with
    | some (c', l1), some (cs', l2) => some (c' :: cs', l1 ++ l2)
    | _, _ => none
def argD (H : List (Option Root)) (ρ : List Nat) : D → Option (D × List Nat)
  | .top => some (.top, [])
  | .c y => (argC H ρ y).map fun r => (.c r.1, r.2)
  | .agg xs => (argCs H ρ xs).map fun r => (.agg r.1, r.2)
  | _ => none
def Yg (H : List (Option Root)) (ρ : List Nat) : List D → Option (List D × List Nat)
  | [] => some ([], [])
  | d :: ds => match argD H ρ d, Yg H ρ ds with
    | some (d', l1), some (ds', l2) => some (d' :: ds', l1 ++ l2)
    | _, _ => none
/-- The objects that are handed on. -/
def objsAt (H : List (Option Root)) : List Nat → Option (List Obj)
  | [] => some []
  | r :: rs => match (H[r]?).bind objOf, objsAt H rs with
    | some o, some os => some (o :: os)
    | _, _ => none
def setObjs (H : List (Option Root)) : List Nat → List Obj → List (Option Root)
  | r :: rs, o :: os => match H[r]? with
    | some (some R) => setObjs (H.set r (some ⟨R.dat, R.es, o.rows⟩)) rs os
    | _ => setObjs H rs os
  | _, _ => H
mutual
/-- No memory that was there is spoken of. -/
def C.ni : C → Bool
  | .s false _ (_ :: _) => false
  | .s true _ rows => C.niRows rows
  | .f _ caps => caps.isEmpty
  | .o row => C.niRow row
  | _ => true
def C.niRow : List C → Bool
  | [] => true
  | c :: cs => C.ni c && C.niRow cs
def C.niRows : List (List C) → Bool
  | [] => true
  | r :: rs => C.niRow r && C.niRows rs
end
def D.ni1 : D → Bool
  | .c y => y.ni
  | .agg xs => C.niRow xs
  | _ => true
def D.ni : D → Bool
  | .t ds => ds.all D.ni1
  | d => d.ni1
def settleC (H : List (Option Root)) : C → C × List (Option Root)
  | .s true es rows => (.h H.length 0 rows.length, H ++ [some ⟨true, es, rows⟩])
  | .o row => (.p H.length 0 0, H ++ [some ⟨false, row.length, [row]⟩])
  | .u _ _ => (.x, H)
  | c => (c, H)
def Yl (H : List (Option Root)) : List C → List C × List (Option Root)
  | [] => ([], H)
  | c :: cs => let r := settleC H c; let q := Yl r.2 cs; (r.1 :: q.1, q.2)
def settle1 (H : List (Option Root)) : D → D × List (Option Root)
  | .c y => let r := settleC H y; (.c r.1, r.2)
  | .agg xs => let r := Yl H xs; (.agg r.1, r.2)
  | _ => (.top, H)
def settleDs (H : List (Option Root)) : List D → List D × List (Option Root)
  | [] => ([], H)
  | d :: ds => let r := settle1 H d; let q := settleDs r.2 ds; (r.1 :: q.1, q.2)
def settle (H : List (Option Root)) : D → D × List (Option Root)
  | .t ds => let r := settleDs H ds; (.t r.1, r.2)
  | d => settle1 H d
section
variable {P : Program} {g : G} {S : Nat → Prop} {E : Env} {F : List (List Nat)} {A : St} {a : Act} {w : World}
theorem Rep.ni {w : World} {S S' : Nat → Prop} {E : Env} {it : It} {fp : List Nat} (h : Rep w S E it fp) (hn : match it with | .k _ c _ => c.ni = true | .l _ cs _ _ => C.niRow cs = true | .vs cs _ => C.niRow cs = true) : Rep w S' E it fp := by
  induction h with
  | v h => exact .v h
  | nilI => exact .nilI
  | nilO => exact .nilO
  | imm hS hc hl hr ih =>
    rename_i dat es rows b off cap
    cases rows with
    | nil => exact .nilI
    | cons r rows => simp [C.ni] at hn
  | own hz hb hc hl hr ih =>
    rename_i dat es rows b off cap fp
    refine .own hz hb hc hl (ih ?_)
    have key : ∀ rows : List (List C), C.niRows rows = true → C.niRow rows.flatten = true := by
      intro rows
      have app : ∀ (xs ys : List C), C.niRow xs = true → C.niRow ys = true → C.niRow (xs ++ ys) = true := by
        intro xs ys
        induction xs with
        | nil => intro _ h; exact h
        | cons y xs ih =>
          intro h1 h2
          simp only [C.niRow, Bool.and_eq_true, Z23] at *
          exact ⟨h1.1, ih h1.2 h2⟩
      induction rows with
      | nil => intro _; rfl
      | cons r rows ih =>
        intro h
        simp only [C.niRows, Bool.and_eq_true] at h
        exact app _ _ h.1 (ih h.2)
    exact key rows (by simpa [C.ni] using hn)
  | optr hb hr ih => exact .optr hb (ih (by simpa [C.ni] using hn))
  | x => exact .x
  | m => exact .m
  | h hr hh => exact .h hr hh
  | p hr hh => exact .p hr hh
  | f hc hr ih =>
    rename_i dat k caps cs
    refine .f hc (ih ?_)
    have : caps = [] := by simpa [C.ni] using hn
    subst this; rfl
  | lnil => exact .lnil
  | lcons hv hc hr ih1 ih2 =>
    simp only [C.niRow, Bool.and_eq_true] at hn
    exact .lcons hv (ih1 hn.1) (ih2 hn.2)
  | lb hv hz h0 hb hr ih2 =>
    simp only [C.niRow, Bool.and_eq_true] at hn
    exact .lb hv hz h0 hb (ih2 hn.2)
  | un => exact .un
  | uo h0 hg hc hm hz ht => exact .uo h0 hg hc hm hz ht
  | vnil => exact .vnil
  | vcons hc hr ih1 ih2 =>
    simp only [C.niRow, Bool.and_eq_true] at hn
    exact .vcons (ih1 hn.1) (ih2 hn.2)
/-- One more root, of blocks that are there already. -/
theorem Rel.addRoot (hr : Rel g S E F A a w) {R : Root} {p : Pl} {f : List Nat} (hR : RootAt w S [] R p f) (hf : f.Nodup) (hn : ∀ b ∈ f, b ∉ F.flatten ∧ ¬ S b ∧ b < w.heap.size ∧ (b ∈ g.own ∨ g.w0.heap.size ≤ b)) :
    Rel g S (E ++ [some p]) (F ++ [f]) { A with H := A.H ++ [some R] } a w := by
  refine { len := hr.len, sl := ?_, defers := hr.defers, lE := by simp [hr.lE], lF := by simp [hr.lF], root := ?_, dead := ?_, nodup := ?_, fS := ?_, fsz := ?_, Ssz := hr.Ssz, S0 := hr.S0, prot := hr.prot, size := hr.size, os := hr.os, tape := hr.tape, output := hr.output, fix := ?_ }
  · intro t d h
    exact (hr.sl t d h).mono (fun _ h => h) (envLe_append _ _ _) (fun _ _ => rfl)
  · intro r R' h
    by_cases hlt : r < A.H.length
    · rw [List.getElem?_append_left hlt] at h
      obtain ⟨p, f, h1, h2, h3⟩ := hr.root r R' h
      refine ⟨p, f, ?_, ?_, h3.mono (fun _ h => h) (envLe_append _ _ _) (fun _ _ => rfl)⟩
      · rw [List.getElem?_append_left (lt_len h1)]; exact h1
      · rw [List.getElem?_append_left (lt_len h2)]; exact h2
    · have hreq : r = A.H.length := by
        have := lt_len h
        simp at this; omega
      subst hreq
      rw [List.getElem?_append_right (Nat.le_refl _)] at h
      simp at h
      subst h
      refine ⟨p, f, by rw [List.getElem?_append_right (by rw [hr.lE]; exact Nat.le_refl _), hr.lE]; simp, by rw [List.getElem?_append_right (by rw [hr.lF]; exact Nat.le_refl _), hr.lF]; simp, ?_⟩
      refine hR.mono (fun _ h => h) ⟨by simp, fun i hi => by simp at hi⟩ (fun _ _ => rfl)
  · intro r h
    by_cases hlt : r < A.H.length
    · rw [List.getElem?_append_left hlt] at h
      obtain ⟨h1, h2⟩ := hr.dead r h
      exact ⟨by rw [List.getElem?_append_left (lt_len h1)]; exact h1, by rw [List.getElem?_append_left (lt_len h2)]; exact h2⟩
    · have hreq : r = A.H.length := by
        have := lt_len h
        simp at this; omega
      subst hreq
      rw [List.getElem?_append_right (Nat.le_refl _)] at h
      simp at h
  · rw [List.flatten_append, List.nodup_append]
    refine ⟨hr.nodup, by simpa using hf, ?_⟩
    intro x hx y hy hxy
    subst hxy
    simp at hy
    exact (hn x hy).1 hx
  · intro b hb
    rw [List.flatten_append, List.mem_append] at hb
    rcases hb with h | h
    · exact hr.fS b h
    · exact (hn b (by simpa using h)).2.1
  · intro b hb
    rw [List.flatten_append, List.mem_append] at hb
    rcases hb with h | h
    · exact hr.fsz b h
    · exact (hn b (by simpa using h)).2.2
  · intro r q hq
    obtain ⟨h1, h2⟩ := hr.fix r q hq
    refine ⟨by simp; omega, fun R' hR' => ?_⟩
    rw [List.getElem?_append_left h1] at hR'
    obtain ⟨k1, k2⟩ := h2 R' hR'
    refine ⟨k1, fun p hp => k2 p ?_⟩
    rwa [List.getElem?_append_left (by rw [hr.lE]; exact h1)] at hp
/-- Blocks that nobody has yet. -/
def New (g : G) (S : Nat → Prop) (F : List (List Nat)) (w : World) (fp : List Nat) : Prop := fp.Nodup ∧ ∀ b ∈ fp, b ∉ F.flatten ∧ ¬ S b ∧ b < w.heap.size ∧ (b ∈ g.own ∨ g.w0.heap.size ≤ b)
theorem New.app {fp1 fp2 : List Nat} (h : New g S F w (fp1 ++ fp2)) : New g S F w fp1 ∧ New g S (F ++ [fp1]) w fp2 ∧ New g S F w fp2 := by
  obtain ⟨h1, h2⟩ := h
  have n := List.nodup_append.1 h1
  refine ⟨⟨n.1, fun b hb => h2 b (List.mem_append_left _ hb)⟩, ⟨n.2.1, fun b hb => ?_⟩, ⟨n.2.1, fun b hb => h2 b (List.mem_append_right _ hb)⟩⟩
  obtain ⟨k1, k2⟩ := h2 b (List.mem_append_right _ hb)
  refine ⟨fun hh => ?_, k2⟩
  rw [List.flatten_append, List.mem_append] at hh
  rcases hh with h | h
  · exact k1 h
  · exact n.2.2 b (by simpa using h) b hb rfl
/-- What a settled piece leaves. -/
def Set1 (g : G) (S : Nat → Prop) (E : Env) (F : List (List Nat)) (A : St) (a : Act) (w : World) (fp : List Nat) (H' : List (Option Root)) (T : Env → Prop) : Prop :=
  ∃ E' F', Rel g S E' F' { A with H := H' } a w ∧ T E' ∧ EnvLe E E' (fun _ => false) ∧ ∀ b, b ∈ F'.flatten → b ∈ F.flatten ∨ b ∈ fp
theorem settleC_sound (hr : Rel g S E F A a w) {c : C} {v : Value} {fp : List Nat} (h : Rep w S [] (.k false c v) fp) (hn : New g S F w fp) :
    Set1 g S E F A a w fp (settleC A.H c).2 (fun E' => Rep w S E' (.k false (settleC A.H c).1 v) []) := by
  unfold settleC
  split
  · rename_i es rows
    cases h with
    | nilO =>
      rename_i ad
      have := hr.addRoot (R := ⟨true, es, []⟩) (p := ⟨none, es, 0, 0⟩) (f := []) ⟨rfl, rfl, Nat.le_refl _, by simp, rfl, rfl, rfl⟩ (by simp) (by simp)
      refine ⟨_, _, this, .h ?_ ?_, envLe_append _ _ _, fun b hb => .inl (by simpa using hb)⟩
      · have := this.lE; rw [this]; simp
      · intro pl hpl
        rw [← hr.lE, List.getElem?_append_right (Nat.le_refl _)] at hpl
        simp at hpl
        subst hpl
        exact ⟨by simp, ad, by simp⟩
    | own hz hb hc hl hrep =>
      rename_i b off cap fr
      have := hr.addRoot (R := ⟨true, es, rows⟩) (p := ⟨some (b, off), es, rows.length, cap⟩) (f := b :: fr) ⟨rfl, rfl, hc, hl, fr, rfl, hb, hrep⟩ hn.1 hn.2
      refine ⟨_, _, this, .h ?_ ?_, envLe_append _ _ _, fun x hx => ?_⟩
      · have := this.lE; rw [this]; simp
      · intro pl hpl
        rw [← hr.lE, List.getElem?_append_right (Nat.le_refl _)] at hpl
        simp at hpl
        subst hpl
        exact ⟨by simp, _, cap, rfl, hc, by simp, .inr (by simp)⟩
      · rw [List.flatten_append, List.mem_append] at hx
        exact hx.imp id (by simp)
  · rename_i row
    cases h with
    | optr hb hrep =>
      rename_i b off fr
      have := hr.addRoot (R := ⟨false, row.length, [row]⟩) (p := ⟨some (b, off), row.length, 1, 1⟩) (f := b :: fr) ⟨rfl, rfl, Nat.le_refl _, by simp, fr, rfl, by simpa using hb, by simpa using hrep.lundat⟩ hn.1 hn.2
      refine ⟨_, _, this, .p ?_ ?_, envLe_append _ _ _, fun x hx => ?_⟩
      · have := this.lE; rw [this]; simp
      · intro pl hpl
        rw [← hr.lE, List.getElem?_append_right (Nat.le_refl _)] at hpl
        simp at hpl
        subst hpl
        exact ⟨b, off, rfl, by simp⟩
      · rw [List.flatten_append, List.mem_append] at hx
        exact hx.imp id (by simp)
  · exact ⟨E, F, hr, .x, .refl _ _, fun b hb => .inl hb⟩
  · rename_i hne hno hnu
    have hcp : c.cp = true := by
      unfold C.cp
      split
      · rename_i es rows; exact absurd rfl (hne es rows)
      · rename_i row; exact absurd rfl (hno row)
      · cases h
      · exact absurd rfl (hnu _ _)
      · rfl
    have := cp_fp h hcp
    subst this
    refine ⟨E, F, hr, ?_, .refl _ _, fun b hb => .inl hb⟩
    exact h.mono (fun _ h => h) ⟨by simp, fun i hi => by simp at hi⟩ (fun _ _ => rfl)
theorem envLe_trans {E1 E2 E3 : Env} (h : EnvLe E1 E2 (fun _ => false)) (k : EnvLe E2 E3 (fun _ => false)) : EnvLe E1 E3 (fun _ => false) := by
  refine ⟨Nat.le_trans h.1 k.1, fun r hr _ q hq => ?_⟩
  obtain ⟨p, h1, h2⟩ := k.2 r (Nat.lt_of_lt_of_le hr h.1) rfl q hq
  obtain ⟨p', h3, h4⟩ := h.2 r hr rfl p h1
  exact ⟨p', h3, h4.trans h2⟩
theorem New.shrink {fp : List Nat} {F' : List (List Nat)} {fp1 : List Nat} (h : New g S F w (fp1 ++ fp)) (hF : ∀ b, b ∈ F'.flatten → b ∈ F.flatten ∨ b ∈ fp1) : New g S F' w fp := by
  obtain ⟨h1, h2⟩ := h
  have n := List.nodup_append.1 h1
  refine ⟨n.2.1, fun b hb => ?_⟩
  obtain ⟨k1, k2⟩ := h2 b (List.mem_append_right _ hb)
  refine ⟨fun hh => ?_, k2⟩
  rcases hF b hh with h | h
  · exact k1 h
  · exact n.2.2 b h b hb rfl
theorem settleCs_sound : ∀ {cs : List C} {vs : List Value} {fp : List Nat} {A : St} {E : Env} {F : List (List Nat)}, Rel g S E F A a w → Rep w S [] (.vs cs vs) fp → New g S F w fp →
    Set1 g S E F A a w fp (Yl A.H cs).2 (fun E' => Rep w S E' (.vs (Yl A.H cs).1 vs) [])
  | [], vs, fp, A, E, F, hr, h, hn => by
    cases h
    exact ⟨E, F, hr, .vnil, .refl _ _, fun b hb => .inl hb⟩
  | c :: cs, vs, fp, A, E, F, hr, h, hn => by
    cases h with
    | vcons h1 h2 =>
      obtain ⟨E1, F1, r1, r2, r3, r4⟩ := settleC_sound hr h1 hn.app.1
      obtain ⟨E2, F2, q1, q2, q3, q4⟩ := settleCs_sound r1 h2 (hn.shrink r4)
      refine ⟨E2, F2, q1, .vcons (f1 := []) (f2 := []) ?_ q2, envLe_trans r3 q3, ?_⟩
      · exact r2.mono (fun _ h => h) ⟨q3.1, fun i hi _ q hq => q3.2 i hi rfl q hq⟩ (fun _ _ => rfl)
      · intro b hb
        rcases q4 b hb with h | h
        · exact (r4 b h).imp id (List.mem_append_left _)
        · exact .inr (List.mem_append_right _ h)
theorem settle1_sound (hr : Rel g S E F A a w) {d : D} {v : Value} {fp : List Nat} (h : RepO1 w S d v fp) (hn : New g S F w fp) :
    Set1 g S E F A a w fp (settle1 A.H d).2 (fun E' => RepD w S E' (settle1 A.H d).1 v) := by
  cases d with
  | c y =>
    obtain ⟨E1, F1, r1, r2, r3, r4⟩ := settleC_sound hr h hn
    exact ⟨E1, F1, r1, .c r2, r3, r4⟩
  | agg xs =>
    obtain ⟨arr, rfl, h⟩ := h
    obtain ⟨E1, F1, r1, r2, r3, r4⟩ := settleCs_sound hr h hn
    exact ⟨E1, F1, r1, .agg r2, r3, r4⟩
  | top => exact h.elim
  | q xs => exact h.elim
  | t ds => exact h.elim
theorem settleDs_sound : ∀ {ds : List D} {vs : List Value} {fps : List (List Nat)} {A : St} {E : Env} {F : List (List Nat)}, Rel g S E F A a w → fps.length = ds.length → vs.length = ds.length →
    (∀ (i : Nat) (d : D) (f : List Nat), ds[i]? = some d → fps[i]? = some f → RepO1 w S d (vs.getD i undef) f) → New g S F w fps.flatten →
    Set1 g S E F A a w fps.flatten (settleDs A.H ds).2 (fun E' => (settleDs A.H ds).1.length = ds.length ∧ ∀ (i : Nat) (d : D), (settleDs A.H ds).1[i]? = some d → RepD w S E' d (vs.getD i undef))
  | [], vs, fps, A, E, F, hr, hl, hv, h, hn => ⟨E, F, hr, ⟨rfl, by simp [settleDs]⟩, .refl _ _, fun b hb => .inl hb⟩
  | d :: ds, vs, fps, A, E, F, hr, hl, hv, h, hn => by
    cases fps with
    | nil => simp at hl
    | cons f fps =>
      cases vs with
      | nil => simp at hv
      | cons v vs =>
        rw [List.flatten_cons] at hn
        obtain ⟨E1, F1, r1, r2, r3, r4⟩ := settle1_sound hr (h 0 d f rfl rfl) hn.app.1
        obtain ⟨E2, F2, q1, q2, q3, q4⟩ := settleDs_sound (ds := ds) (vs := vs) (fps := fps) r1 (by simpa using hl) (by simpa using hv) (fun i d f hd hf => by
          have := h (i + 1) d f (by simpa using hd) (by simpa using hf)
          simpa using this) (hn.shrink r4)
        refine ⟨E2, F2, q1, ⟨by simp [settleDs, q2.1], ?_⟩, envLe_trans r3 q3, ?_⟩
        · intro i d' hd
          cases i with
          | zero =>
            simp [settleDs] at hd
            subst hd
            refine RepD.mono (E := E1) (by simpa using r2) (fun _ h => h) ⟨q3.1, fun i hi _ q hq => q3.2 i hi rfl q hq⟩ (fun _ _ => rfl)
          | succ i =>
            have := q2.2 i d' (by simpa [settleDs] using hd)
            simpa using this
        · intro b hb
          rcases q4 b hb with h | h
          · exact (r4 b h).imp id (List.mem_append_left _)
          · exact .inr (List.mem_append_right _ h)
theorem settle_sound (hr : Rel g S E F A a w) {d : D} {v : Value} {fp : List Nat} (h : RepO w S d v fp) (hn : New g S F w fp) :
    Set1 g S E F A a w fp (settle A.H d).2 (fun E' => RepD w S E' (settle A.H d).1 v) := by
  cases d with
  | t ds =>
    obtain ⟨arr, fps, rfl, h1, h2, rfl, h3⟩ := h
    obtain ⟨E1, F1, r1, r2, r3, r4⟩ := settleDs_sound hr (vs := arr.toList) h2 (by simpa using h1) (fun i d f hd hf => by
      have := h3 i d f hd hf
      simpa [Array.getD_eq_getD_getElem?, List.getD] using this) hn
    refine ⟨E1, F1, r1, .t ?_ ?_, r3, r4⟩
    · have := r2.1; show arr.size = (settleDs A.H ds).1.length; omega
    · intro i d' hd
      have := r2.2 i d' hd
      simpa [Array.getD_eq_getD_getElem?, List.getD] using this
  | c y => exact settle1_sound hr h hn
  | agg xs => exact settle1_sound hr h hn
  | top => exact h.elim
  | q xs => exact h.elim
end
end Go.Dl

namespace Go.Dl
open Go.RowKit
def callable (P : Program) (k : FuncId) : Bool :=
  match P.funcs[k]? with
  | some fn => (fn.name != "runtime.NumGoroutine") && fn.body.isSome
  | none => false
section
variable {P : Program} {g : G} {S : Nat → Prop} {E : Env} {F : List (List Nat)} {A : St} {a : Act} {w : World}
/-- What is lent: the blocks of some roots. -/
def Lent (F : List (List Nat)) (B : List Nat) (b : Nat) : Prop := ∃ r ∈ B, ∃ f, F[r]? = some f ∧ b ∈ f
theorem objsAt_spec {H : List (Option Root)} : ∀ {ρ : List Nat} {objs : List Obj}, objsAt H ρ = some objs → objs.length = ρ.length ∧ ∀ (i : Nat) (ob : Obj), objs[i]? = some ob → ∃ r R, ρ[i]? = some r ∧ H[r]? = some (some R) ∧ R.rows.all (fun row => row.all C.dat) = true ∧ ob = ⟨R.es, R.rows⟩
  | [], objs, h => by cases h; simp
  | r :: rs, objs, h => by
    simp only [objsAt] at h
    split at h
    · rename_i o os h1 h2
      cases h
      obtain ⟨k1, k2⟩ := objsAt_spec h2
      refine ⟨by simp [k1], fun i ob hob => ?_⟩
      cases i with
      | zero =>
        simp at hob
        subst hob
        cases hH : H[r]? with
        | none => rw [hH] at h1; cases h1
        | some oR =>
          rw [hH] at h1
          simp only [Z8] at h1
          cases oR with
          | none => cases h1
          | some R =>
            simp only [objOf] at h1
            split at h1
            · rename_i hall; cases h1; exact ⟨r, R, rfl, hH, hall, rfl⟩
            · cases h1
      | succ i => simpa using k2 i ob (by simpa using hob)
    · cases h
theorem idxOf_get {l : List Nat} {r i : Nat} (h : l.idxOf? r = some i) : l[i]? = some r := by
  rw [List.idxOf?, List.findIdx?_eq_some_iff_getElem] at h
  obtain ⟨h1, h2, _⟩ := h
  rw [List.getElem?_eq_getElem h1]
  simpa using h2
theorem idxOf_none {l : List Nat} {r : Nat} (h : l.idxOf? r = none) : r ∉ l := by
  rw [List.idxOf?, List.findIdx?_eq_none_iff] at h
  intro hm
  have := h r hm
  simp at this
/-- A cell that is handed on. -/
theorem argC_sound (hr : Rel g S E F A a w) {ρ : List Nat} {pls : List Pl} (hp : ∀ (i r : Nat), ρ[i]? = some r → ∃ p, E[r]? = some (some p) ∧ pls[i]? = some p) {c c' : C} {v : Value} {B Bs : List Nat} (h : Rep w S E (.k false c v) [])
    (ha : argC A.H ρ c = some (c', B)) (hB : ∀ r ∈ B, r ∈ Bs) : Rep w (fun b => S b ∨ Lent F Bs b) (pls.map some) (.k false c' v) [] ∧ ∀ r ∈ B, r ∉ ρ := by
  have up : ∀ {it : It} {fp : List Nat}, Rep w S E it fp → it.pure → Rep w (fun b => S b ∨ Lent F Bs b) (pls.map some) it fp := by
    intro it fp h hpure
    refine (h.noenv (E' := pls.map some) hpure).mono (fun b hb => .inl hb) (.refl _ _) (fun _ _ => rfl)
  have hplain : ∀ {c : C}, Rep w S E (.k false c v) [] → (if (c.dat && c.cpy.cp) = true then some (c.cpy, ([] : List Nat)) else none) = some (c', B) → Rep w (fun b => S b ∨ Lent F Bs b) (pls.map some) (.k false c' v) [] ∧ ∀ r ∈ B, r ∉ ρ := by
    intro c h ha
    split at ha
    · rename_i hc
      rw [Bool.and_eq_true] at hc
      cases ha
      obtain ⟨fp', h'⟩ := rep_cpy h
      have hfp := cp_fp h' hc.2
      subst hfp
      refine ⟨up h' (.inr ?_), by simp⟩
      unfold C.cpy
      split
      · split <;> rfl
      · exact hc.1
    · cases ha
  unfold argC at ha
  split at ha
  · rename_i r e k
    split at ha
    · rename_i i hi
      cases ha
      obtain ⟨p, h1, h2⟩ := hp i r (idxOf_get hi)
      cases h with
      | p hr' hh =>
        refine ⟨.p (by simp; exact lt_len h2) fun pl hpl => ?_, by simp⟩
        rw [List.getElem?_map, h2] at hpl
        cases hpl
        exact hh p h1
    · cases ha
  · rename_i r lo len
    split at ha
    · rename_i i hi
      cases ha
      obtain ⟨p, h1, h2⟩ := hp i r (idxOf_get hi)
      cases h with
      | h hr' hh =>
        refine ⟨.h (by simp; exact lt_len h2) fun pl hpl => ?_, by simp⟩
        rw [List.getElem?_map, h2] at hpl
        cases hpl
        exact hh p h1
    · rename_i hi
      split at ha
      · rename_i R hR
        split at ha
        · rename_i hc
          obtain ⟨c1, c2, c3⟩ := hc
          cases ha
          obtain ⟨p, f, h1, h2, h3, h4⟩ := handle_live hr hR (.c h)
          obtain ⟨g1, g2, g3, g4, g5⟩ := h3
          obtain ⟨k1, k2⟩ := h4
          have hlen : ((R.rows.drop lo).take len).length = len := by rw [List.length_take, List.length_drop]; omega
          refine ⟨?_, fun r' hr' => by simp at hr'; subst hr'; exact idxOf_none hi⟩
          cases hat : p.at? with
          | none =>
            rw [hat] at k2 g5
            obtain ⟨ad, rfl⟩ := k2
            obtain ⟨e1, _, _⟩ := g5
            have hl0 : len = 0 := by rw [e1] at g2; simp at g2; omega
            subst hl0
            rw [List.take_zero]
            exact .nilI
          | some bo =>
            obtain ⟨b, off⟩ := bo
            rw [hat] at k2 g5
            obtain ⟨ad, cap, rfl, q2, q3, q4⟩ := k2
            obtain ⟨fr, e1, _, hrep⟩ := g5
            by_cases hl0 : len = 0
            · subst hl0
              rw [List.take_zero]
              exact .nilI
            · have had : ad = ⟨b, off + lo * R.es, none⟩ := by
                rcases q4 with q4 | q4
                · omega
                · rw [q4, g1]
              subst had
              rw [c1] at hrep
              obtain ⟨f1, f2, f3, hff, hr2⟩ := flatten_sub g4 hrep lo len (by omega)
              have hf2 : f2 = [] := by
                refine cells_cp hr2 ?_
                rw [List.all_eq_true]
                intro c hcm
                obtain ⟨row, hrow, hcr⟩ := List.mem_flatten.1 hcm
                exact List.all_eq_true.1 (List.all_eq_true.1 c3 row hrow) c hcr
              subst hf2
              have := Rep.imm (dat := false) (S := fun b => S b ∨ Lent F Bs b) (w := w) (E := pls.map some) (es := R.es) (rows := (R.rows.drop lo).take len) (b := b) (off := off + lo * R.es) (cap := cap)
                (.inr ⟨r, hB r (by simp), f, h2, by rw [e1]; exact List.mem_cons_self ..⟩) (by rw [hlen]; exact q2) (fun r hr => g4 r (List.mem_of_mem_drop (List.mem_of_mem_take hr))) (up hr2 rfl)
              rw [hlen] at this
              exact this
        · cases ha
      · cases ha
  · split at ha
    · rename_i k caps hc
      cases ha
      have : caps = [] := by simpa using hc
      subst this
      exact ⟨up h (.inr (by simp [C.dat])), by simp⟩
    · cases ha
  · exact hplain h ha
theorem argCs_sound (hr : Rel g S E F A a w) {ρ : List Nat} {pls : List Pl} (hp : ∀ (i r : Nat), ρ[i]? = some r → ∃ p, E[r]? = some (some p) ∧ pls[i]? = some p) : ∀ {cs cs' : List C} {vs : List Value} {B Bs : List Nat}, Rep w S E (.vs cs vs) [] →
    argCs A.H ρ cs = some (cs', B) → (∀ r ∈ B, r ∈ Bs) → Rep w (fun b => S b ∨ Lent F Bs b) (pls.map some) (.vs cs' vs) [] ∧ ∀ r ∈ B, r ∉ ρ
  | [], cs', vs, B, Bs, h, ha, hB => by cases ha; cases h; exact ⟨.vnil, by simp⟩
  | c :: cs, cs', vs, B, Bs, h, ha, hB => by
    simp only [argCs] at ha
    split at ha
    · rename_i c1 l1 cs1 l2 h1 h2
      cases ha
      generalize hfp : ([] : List Nat) = fp at h
      cases h with
      | vcons k1 k2 =>
        obtain ⟨rfl, rfl⟩ := List.append_eq_nil_iff.1 hfp.symm
        obtain ⟨q1, q2⟩ := argC_sound hr hp k1 h1 (fun r hr => hB r (List.mem_append_left _ hr))
        obtain ⟨r1, r2⟩ := argCs_sound hr hp k2 h2 (fun r hr => hB r (List.mem_append_right _ hr))
        refine ⟨.vcons (f1 := []) (f2 := []) q1 r1, fun r hr => ?_⟩
        rcases List.mem_append.1 hr with h | h
        · exact q2 r h
        · exact r2 r h
    · cases ha
theorem argD_sound (hr : Rel g S E F A a w) {ρ : List Nat} {pls : List Pl} (hp : ∀ (i r : Nat), ρ[i]? = some r → ∃ p, E[r]? = some (some p) ∧ pls[i]? = some p) {d d' : D} {v : Value} {B Bs : List Nat} (h : RepD w S E d v)
    (ha : argD A.H ρ d = some (d', B)) (hB : ∀ r ∈ B, r ∈ Bs) : RepD w (fun b => S b ∨ Lent F Bs b) (pls.map some) d' v ∧ ∀ r ∈ B, r ∉ ρ := by
  unfold argD at ha
  split at ha
  · cases ha; exact ⟨.top, by simp⟩
  · rename_i y
    cases hc : argC A.H ρ y with
    | none => rw [hc] at ha; cases ha
    | some r =>
      rw [hc] at ha; cases ha
      cases h with
      | c h =>
        obtain ⟨h1, h2⟩ := argC_sound hr hp h hc hB
        exact ⟨.c h1, h2⟩
  · rename_i xs
    cases hc : argCs A.H ρ xs with
    | none => rw [hc] at ha; cases ha
    | some r =>
      rw [hc] at ha; cases ha
      obtain ⟨arr, rfl, hrep⟩ := agg_inv h
      obtain ⟨h1, h2⟩ := argCs_sound hr hp hrep hc hB
      exact ⟨.agg h1, h2⟩
  · cases ha
theorem argDs_sound (hr : Rel g S E F A a w) {ρ : List Nat} {pls : List Pl} (hp : ∀ (i r : Nat), ρ[i]? = some r → ∃ p, E[r]? = some (some p) ∧ pls[i]? = some p) : ∀ {ds ds' : List D} {vs : List Value} {B Bs : List Nat}, ds.length = vs.length →
    (∀ (i : Nat) (d : D), ds[i]? = some d → RepD w S E d (vs.getD i undef)) → Yg A.H ρ ds = some (ds', B) → (∀ r ∈ B, r ∈ Bs) →
    (ds'.length = ds.length ∧ ∀ (i : Nat) (d : D), ds'[i]? = some d → RepD w (fun b => S b ∨ Lent F Bs b) (pls.map some) d (vs.getD i undef)) ∧ ∀ r ∈ B, r ∉ ρ
  | [], ds', vs, B, Bs, hl, h, ha, hB => by cases ha; exact ⟨⟨rfl, by simp⟩, by simp⟩
  | d :: ds, ds', vs, B, Bs, hl, h, ha, hB => by
    simp only [Yg] at ha
    split at ha
    · rename_i d1 l1 ds1 l2 h1 h2
      cases ha
      cases vs with
      | nil => simp at hl
      | cons v vs =>
        obtain ⟨q1, q2⟩ := argD_sound hr hp (h 0 d rfl) h1 (fun r hr => hB r (List.mem_append_left _ hr))
        obtain ⟨⟨r0, r1⟩, r2⟩ := argDs_sound hr hp (vs := vs) (by simpa using hl) (fun i d hd => by have := h (i + 1) d (by simpa using hd); simpa using this) h2 (fun r hr => hB r (List.mem_append_right _ hr))
        refine ⟨⟨by simp [r0], fun i d' hd => ?_⟩, fun r hr => ?_⟩
        · cases i with
          | zero => simp at hd; subst hd; simpa using q1
          | succ i => have := r1 i d' (by simpa using hd); simpa using this
        · rcases List.mem_append.1 hr with h | h
          · exact q2 r h
          · exact r2 r h
    · cases ha
/-- Places in a list, set one behind the other. -/
def setAll {α : Type} (l : List α) : List Nat → List α → List α
  | r :: rs, x :: xs => setAll (l.set r x) rs xs
  | _, _ => l
theorem setAll_len {α : Type} : ∀ (rs : List Nat) (xs : List α) (l : List α), (setAll l rs xs).length = l.length
  | [], _, _ => by simp [setAll]
  | _ :: _, [], _ => by simp [setAll]
  | r :: rs, x :: xs, l => by simp [setAll, setAll_len rs xs]
theorem setAll_out {α : Type} {j : Nat} : ∀ (rs : List Nat) (xs : List α) (l : List α), j ∉ rs → (setAll l rs xs)[j]? = l[j]?
  | [], _, _, _ => by simp [setAll]
  | _ :: _, [], _, _ => by simp [setAll]
  | r :: rs, x :: xs, l, h => by
    simp only [List.mem_cons, not_or] at h
    rw [setAll, setAll_out rs xs _ h.2, List.getElem?_set_ne (Ne.symm h.1)]
theorem setAll_in {α : Type} : ∀ (rs : List Nat) (xs : List α) (l : List α), rs.Nodup → (∀ r ∈ rs, r < l.length) → ∀ (i r : Nat) (x : α), rs[i]? = some r → xs[i]? = some x → (setAll l rs xs)[r]? = some x
  | [], _, _, _, _, i, r, x, h, _ => by simp at h
  | _ :: _, [], _, _, _, i, r, x, _, h => by simp at h
  | r0 :: rs, x0 :: xs, l, hn, hl, i, r, x, h1, h2 => by
    have n := List.nodup_cons.1 hn
    cases i with
    | zero =>
      simp at h1 h2
      subst h1 h2
      rw [setAll, setAll_out rs xs _ n.1, List.getElem?_set_self (hl _ (List.mem_cons_self ..))]
    | succ i =>
      rw [setAll]
      exact setAll_in rs xs _ n.2 (fun r hr => by rw [List.length_set]; exact hl r (List.mem_cons_of_mem _ hr)) i r x (by simpa using h1) (by simpa using h2)
theorem setObjs_eq : ∀ {ρ : List Nat} {objs : List Obj} {H : List (Option Root)}, ρ.length = objs.length → ρ.Nodup → (∀ r ∈ ρ, ∃ R, H[r]? = some (some R)) →
    (setObjs H ρ objs).length = H.length ∧ (∀ j, j ∉ ρ → (setObjs H ρ objs)[j]? = H[j]?) ∧ ∀ (i r : Nat) (o : Obj), ρ[i]? = some r → objs[i]? = some o → ∃ R, H[r]? = some (some R) ∧ (setObjs H ρ objs)[r]? = some (some ⟨R.dat, R.es, o.rows⟩)
  | [], _, H, _, _, _ => ⟨by cases ‹List Obj› <;> rfl, fun _ _ => by cases ‹List Obj› <;> rfl, fun i r o h => by simp at h⟩
  | r :: rs, [], H, h, _, _ => by simp at h
  | r :: rs, o :: os, H, hl, hn, hH => by
    have n := List.nodup_cons.1 hn
    obtain ⟨R, hR⟩ := hH r (List.mem_cons_self ..)
    obtain ⟨k1, k2, k3⟩ := setObjs_eq (H := H.set r (some ⟨R.dat, R.es, o.rows⟩)) (ρ := rs) (objs := os) (by simpa using hl) n.2 (fun r' hr' => by
      obtain ⟨R', hR'⟩ := hH r' (List.mem_cons_of_mem _ hr')
      refine ⟨R', ?_⟩
      have hne : r ≠ r' := fun h => n.1 (by rw [h]; exact hr')
      rw [List.getElem?_set_ne hne]
      exact hR')
    have e : setObjs H (r :: rs) (o :: os) = setObjs (H.set r (some ⟨R.dat, R.es, o.rows⟩)) rs os := by simp only [setObjs, hR]
    rw [e]
    refine ⟨by rw [k1]; simp, ?_, ?_⟩
    · intro j hj
      simp only [List.mem_cons, not_or] at hj
      rw [k2 j hj.2, List.getElem?_set_ne (Ne.symm hj.1)]
    · intro i r' o' h1 h2
      cases i with
      | zero =>
        simp at h1 h2
        subst h1 h2
        exact ⟨R, hR, by rw [k2 r n.1, List.getElem?_set_self (lt_len hR)]⟩
      | succ i =>
        obtain ⟨R', q1, q2⟩ := k3 i r' o' (by simpa using h1) (by simpa using h2)
        refine ⟨R', ?_, q2⟩
        have hne : r ≠ r' := fun h => n.1 (by rw [h]; exact List.mem_of_getElem? (l := rs) (i := i) (by simpa using h1))
        rwa [List.getElem?_set_ne hne] at q1
end
end Go.Dl

namespace Go.Dl
open Go.RowKit
def Obj.ni (o : Obj) : Bool := C.niRows o.rows
section
variable {P : Program} {g : G} {S : Nat → Prop} {E : Env} {F : List (List Nat)} {A : St} {a : Act} {w : World}
theorem niRow_flat : ∀ {rows : List (List C)}, C.niRows rows = true → C.niRow rows.flatten = true
  | [], _ => rfl
  | r :: rs, h => by
    simp only [C.niRows, Bool.and_eq_true] at h
    have app : ∀ (xs ys : List C), C.niRow xs = true → C.niRow ys = true → C.niRow (xs ++ ys) = true := by
      intro xs ys
      induction xs with
      | nil => intro _ h; exact h
      | cons y xs ih =>
        intro h1 h2
        simp only [C.niRow, Bool.and_eq_true, Z23] at *
        exact ⟨h1.1, ih h1.2 h2⟩
    exact app _ _ h.1 (niRow_flat h.2)
theorem RepO1.mono {w : World} {S S' : Nat → Prop} {d : D} {v : Value} {fp : List Nat} (h : RepO1 w S d v fp) (hS : (∀ b, S b → S' b) ∨ d.ni1 = true) : RepO1 w S' d v fp := by
  cases d with
  | c y =>
    rcases hS with hS | hS
    · exact Rep.mono h hS (.refl _ _) (fun _ _ => rfl)
    · exact Rep.ni h hS
  | agg xs =>
    obtain ⟨arr, rfl, h⟩ := h
    rcases hS with hS | hS
    · exact ⟨arr, rfl, h.mono hS (.refl _ _) (fun _ _ => rfl)⟩
    · exact ⟨arr, rfl, h.ni hS⟩
  | top => exact h
  | q xs => exact h
  | t ds => exact h
theorem RepO.mono {w : World} {S S' : Nat → Prop} {d : D} {v : Value} {fp : List Nat} (h : RepO w S d v fp) (hS : (∀ b, S b → S' b) ∨ d.ni = true) : RepO w S' d v fp := by
  cases d with
  | t ds =>
    obtain ⟨arr, fps, h0, h1, h2, h3, h4⟩ := h
    refine ⟨arr, fps, h0, h1, h2, h3, fun i d' f hd hf => (h4 i d' f hd hf).mono ?_⟩
    rcases hS with hS | hS
    · exact .inl hS
    · exact .inr (List.all_eq_true.1 hS d' (List.mem_of_getElem? hd))
  | c y => exact RepO1.mono (d := .c y) h hS
  | agg xs => exact RepO1.mono (d := .agg xs) h hS
  | top => exact h
  | q xs => exact h
theorem flat_setAll {F : List (List Nat)} {ρ : List Nat} {fs : List (List Nat)} (hn : ρ.Nodup) (hl : ρ.length = fs.length) (hlt : ∀ r ∈ ρ, r < F.length) {b : Nat} :
    b ∈ (setAll F ρ fs).flatten → (b ∈ fs.flatten) ∨ ∃ r f, r ∉ ρ ∧ F[r]? = some f ∧ b ∈ f := by
  intro h
  obtain ⟨f, h1, h2⟩ := List.mem_flatten.1 h
  obtain ⟨r, hr, rfl⟩ := List.getElem_of_mem h1
  by_cases hm : r ∈ ρ
  · obtain ⟨i, hi⟩ := List.getElem?_of_mem hm
    have hi' := lt_len hi
    have := setAll_in ρ fs F hn hlt i r (fs[i]'(by omega)) hi (List.getElem?_eq_getElem _)
    rw [List.getElem?_eq_getElem hr] at this
    simp at this
    exact .inl (List.mem_flatten.2 ⟨fs[i]'(by omega), List.getElem_mem _, by rw [← this]; exact h2⟩)
  · have := setAll_out ρ fs F hm
    rw [List.getElem?_eq_getElem hr] at this
    exact .inr ⟨r, _, hm, this.symm, h2⟩
/-- Lists without a common element, each without a repetition. -/
theorem nodup_flat : ∀ {L : List (List Nat)}, (∀ f ∈ L, f.Nodup) → (∀ (i j : Nat) (f f' : List Nat) (x : Nat), L[i]? = some f → L[j]? = some f' → x ∈ f → x ∈ f' → i = j) → L.flatten.Nodup
  | [], _, _ => by simp
  | f :: L, h1, h2 => by
    rw [List.flatten_cons, List.nodup_append]
    refine ⟨h1 f (List.mem_cons_self ..), nodup_flat (fun f hf => h1 f (List.mem_cons_of_mem _ hf)) (fun i j f f' x hi hj hx hx' => ?_), ?_⟩
    · have := h2 (i + 1) (j + 1) f f' x (by simpa using hi) (by simpa using hj) hx hx'
      omega
    · intro x hx y hy hxy
      subst hxy
      obtain ⟨f', k1, k2⟩ := List.mem_flatten.1 hy
      obtain ⟨j, hj⟩ := List.getElem?_of_mem k1
      have := h2 0 (j + 1) f f' x rfl (by simpa using hj) hx k2
      omega
theorem apart_flat {F : List (List Nat)} (hn : F.flatten.Nodup) {r r' : Nat} {f f' : List Nat} {x : Nat} (h : F[r]? = some f) (h' : F[r']? = some f') (hx : x ∈ f) (hx' : x ∈ f') : r = r' := by
  rcases Nat.lt_trichotomy r r' with hlt | heq | hgt
  · exfalso
    have : x ∈ (F.take r').flatten := List.mem_flatten.2 ⟨f, List.mem_of_getElem? (by rw [List.getElem?_take, if_pos hlt]; exact h), hx⟩
    have e : F.flatten = (F.take r').flatten ++ (F.drop r').flatten := by rw [← List.flatten_append, List.take_append_drop]
    rw [e, List.nodup_append] at hn
    have hm : x ∈ (F.drop r').flatten := List.mem_flatten.2 ⟨f', List.mem_of_getElem? (i := 0) (by rw [List.getElem?_drop]; simpa using h'), hx'⟩
    exact hn.2.2 x this x hm rfl
  · exact heq
  · exfalso
    have : x ∈ (F.take r).flatten := List.mem_flatten.2 ⟨f', List.mem_of_getElem? (by rw [List.getElem?_take, if_pos hgt]; exact h'), hx'⟩
    have e : F.flatten = (F.take r).flatten ++ (F.drop r).flatten := by rw [← List.flatten_append, List.take_append_drop]
    rw [e, List.nodup_append] at hn
    have hm : x ∈ (F.drop r).flatten := List.mem_flatten.2 ⟨f, List.mem_of_getElem? (i := 0) (by rw [List.getElem?_drop]; simpa using h), hx⟩
    exact hn.2.2 x this x hm rfl
theorem Rel.afterCall {w' : World} (hr : Rel g S E F A a w) {ρ B : List Nat} {objs objs' : List Obj} {pls : List Pl} {fps : List (List Nat)} {v : Value} {d : D} (hρn : ρ.Nodup) (hobjs : objsAt A.H ρ = some objs)
    (hlen : pls.length = ρ.length ∧ fps.length = ρ.length) (hpls : ∀ (i r : Nat), ρ[i]? = some r → ∃ p f, E[r]? = some (some p) ∧ F[r]? = some f ∧ pls[i]? = some p ∧ fps[i]? = some f)
    (hBρ : ∀ r ∈ B, r ∉ ρ) (hl : objs'.length = objs.length) (left : Left w w' (fun b => S b ∨ Lent F B b) pls fps d v objs') (hni : B = [] ∨ (d.ni = true ∧ ∀ o ∈ objs', Obj.ni o = true)) :
    ∃ S'' E'' F'', Rel g S'' E'' F'' { A with H := (settle (setObjs A.H ρ objs') d).2 } a w' ∧ RepD w' S'' E'' (settle (setObjs A.H ρ objs') d).1 v := by
  obtain ⟨S', pls', fps', fpd, l1, l2, l3, l4, l5, l6, l7⟩ := left.rest
  obtain ⟨m1, m2, m3⟩ := l4
  obtain ⟨ob1, ob2⟩ := objsAt_spec hobjs
  have hρH : ∀ r ∈ ρ, ∃ R, A.H[r]? = some (some R) := by
    intro r hrm
    obtain ⟨i, hi⟩ := List.getElem?_of_mem hrm
    have hi' := lt_len hi
    obtain ⟨r', R, e1, e2, _⟩ := ob2 i (objs[i]'(by omega)) (List.getElem?_eq_getElem _)
    rw [hi] at e1; cases e1
    exact ⟨R, e2⟩
  have hρlt : ∀ r ∈ ρ, r < A.H.length := fun r hrm => by obtain ⟨R, hR⟩ := hρH r hrm; exact lt_len hR
  obtain ⟨s1, s2, s3⟩ := setObjs_eq (H := A.H) (ρ := ρ) (objs := objs') (by omega) hρn hρH
  have hlp : ρ.length = (pls'.map some).length := by simp; omega
  have hlf : ρ.length = fps'.length := by omega
  -- the memory that stays
  have hSS : ∀ b, S b → S' b ∧ ¬ Lent F B b := by
    intro b hb
    refine ⟨l1 b (.inl hb), ?_⟩
    rintro ⟨r, _, f, h1, h2⟩
    exact hr.fS b (flat_get h1 b h2) hb
  have hfpsF : ∀ b, b ∈ fps.flatten → b ∈ F.flatten := by
    intro b hb
    obtain ⟨f, h1, h2⟩ := List.mem_flatten.1 hb
    obtain ⟨i, hi⟩ := List.getElem?_of_mem h1
    have hi' := lt_len hi
    obtain ⟨p, f', e1, e2, e3, e4⟩ := hpls i (ρ[i]'(by omega)) (List.getElem?_eq_getElem _)
    rw [hi] at e4; cases e4
    exact flat_get e2 b h2
  have hfpsρ : ∀ {b r : Nat} {f : List Nat}, b ∈ fps.flatten → F[r]? = some f → b ∈ f → r ∈ ρ := by
    intro b r f hb hF hbf
    obtain ⟨f', h1, h2⟩ := List.mem_flatten.1 hb
    obtain ⟨i, hi⟩ := List.getElem?_of_mem h1
    have hi' := lt_len hi
    obtain ⟨p, f2, e1, e2, e3, e4⟩ := hpls i (ρ[i]'(by omega)) (List.getElem?_eq_getElem _)
    rw [hi] at e4; cases e4
    have := apart hr hF e2 hbf h2
    subst this
    exact List.getElem_mem _
  have hkeepS : ∀ b, S b → w'.heap[b]? = w.heap[b]? := fun b hb => left.keep b (hr.Ssz b hb).1 (fun h => hr.fS b (hfpsF b h) hb)
  have hkeepF : ∀ {r : Nat} {f : List Nat} {b : Nat}, r ∉ ρ → F[r]? = some f → b ∈ f → w'.heap[b]? = w.heap[b]? :=
    fun hrm hF hb => left.keep _ (hr.fsz _ (flat_get hF _ hb)).1 (fun h => hrm (hfpsρ h hF hb))
  have hE : EnvLe E (setAll E ρ (pls'.map some)) (fun _ => false) := by
    refine ⟨by rw [setAll_len]; exact Nat.le_refl _, fun r hrl _ q hq => ?_⟩
    by_cases hm : r ∈ ρ
    · obtain ⟨i, hi⟩ := List.getElem?_of_mem hm
      have hi' := lt_len hi
      obtain ⟨p, f, e1, e2, e3, e4⟩ := hpls i r hi
      have := setAll_in ρ (pls'.map some) E hρn (fun r hr' => by rw [hr.lE]; exact hρlt r hr') i r (some (pls'[i]'(by omega))) hi (by simp)
      rw [this] at hq
      cases hq
      exact ⟨p, e1, l7 i p _ e3 (List.getElem?_eq_getElem _)⟩
    · rw [setAll_out ρ _ E hm] at hq
      exact ⟨q, hq, q.le_refl⟩
  have hEok : ∀ ok : Nat → Bool, EnvLe E (setAll E ρ (pls'.map some)) ok := fun ok => ⟨hE.1, fun i hi _ q hq => hE.2 i hi rfl q hq⟩
  have hfps'old : ∀ b, b ∈ fps'.flatten → b ∈ fps.flatten ∨ w.heap.size ≤ b := fun b hb => (l6 b (List.mem_append_right _ hb)).2.2
  have hB0 : B = [] → ∀ b, ¬ Lent F B b := by
    rintro rfl b ⟨r, h, _⟩; cases h
  have hrel : Rel g (fun b => S' b ∧ ¬ Lent F B b) (setAll E ρ (pls'.map some)) (setAll F ρ fps') { A with H := setObjs A.H ρ objs' } a w' := by
    refine { len := hr.len, sl := ?_, defers := hr.defers, lE := by rw [setAll_len, s1]; exact hr.lE, lF := by rw [setAll_len, s1]; exact hr.lF, root := ?_, dead := ?_, nodup := ?_, fS := ?_, fsz := ?_, Ssz := ?_, S0 := fun b hb => hSS b (hr.S0 b hb), prot := ?_, size := Nat.le_trans hr.size left.size, os := left.os.trans hr.os, tape := left.tape.trans hr.tape, output := left.output.trans hr.output, fix := ?_ }
    · intro t d' hd
      exact (hr.sl t d' hd).mono hSS (hEok _) hkeepS
    · intro r R' hR'
      by_cases hm : r ∈ ρ
      · obtain ⟨i, hi⟩ := List.getElem?_of_mem hm
        have hi' := lt_len hi
        obtain ⟨R, e1, e2⟩ := s3 i r (objs'[i]'(by omega)) hi (List.getElem?_eq_getElem _)
        rw [e2] at hR'
        cases hR'
        obtain ⟨r2, R2, f1, f2, f3, f4⟩ := ob2 i (objs[i]'(by omega)) (List.getElem?_eq_getElem _)
        rw [hi] at f1; cases f1
        rw [e1] at f2; cases f2
        obtain ⟨p', f', k1, k2, k3⟩ := m3 i (objs'[i]'(by omega)) (List.getElem?_eq_getElem _)
        refine ⟨p', f', setAll_in ρ _ E hρn (fun r hr' => by rw [hr.lE]; exact hρlt r hr') i r (some p') hi (by rw [List.getElem?_map, k1]; rfl), setAll_in ρ fps' F hρn (fun r hr' => by rw [hr.lF]; exact hρlt r hr') i r f' hi k2, ?_⟩
        obtain ⟨g1, g2, g3, g4, g5⟩ := k3
        have hes : (objs'[i]'(by omega)).es = R.es := by
          obtain ⟨p, f, q1, q2, q3, q4⟩ := hpls i r hi
          have hle := l7 i p p' q3 k1
          obtain ⟨p0, f0, t1, t2, t3⟩ := hr.root r R e1
          rw [q1] at t1; cases t1
          have g1' : p'.es = (objs'[i]'(by omega)).es := g1
          rw [← g1', hle.2.1, t3.1]
        refine ⟨g1.trans hes, g2, g3, fun row hrow => (g4 row hrow).trans hes, ?_⟩
        cases hat : p'.at? with
        | none => rw [hat] at g5; exact g5
        | some bo =>
          obtain ⟨b, off⟩ := bo
          rw [hat] at g5
          obtain ⟨fr, u1, u2, u3⟩ := g5
          refine ⟨fr, u1, by show OwnBlock w' b (off + p'.m * R.es); rw [← hes]; exact u2, ?_⟩
          have u4 : Rep w' (fun b => S' b ∧ ¬ Lent F B b) [] (.l true (objs'[i]'(by omega)).rows.flatten b off) fr := by
            rcases hni with h0 | h0
            · exact u3.mono (fun b hb => ⟨hb, hB0 h0 b⟩) (.refl _ _) (fun _ _ => rfl)
            · exact u3.ni (niRow_flat (h0.2 _ (List.getElem_mem _)))
          have u5 := u4.noenv (E' := setAll E ρ (pls'.map some)) rfl
          cases hdat : R.dat with
          | true => exact u5
          | false =>
            have : ∀ {cs : List C} {off : Nat} {fp : List Nat} {b : Nat}, Rep w' (fun b => S' b ∧ ¬ Lent F B b) (setAll E ρ (pls'.map some)) (.l true cs b off) fp → Rep w' (fun b => S' b ∧ ¬ Lent F B b) (setAll E ρ (pls'.map some)) (.l false cs b off) fp := by
              intro cs
              induction cs with
              | nil => intro off fp b h; cases h; exact .lnil
              | cons c cs ih =>
                intro off fp b h
                cases h with
                | lcons hv h1 h2 => exact .lcons hv h1.undat (ih h2)
                | lb hv hz h0 h1 h2 => exact .lb hv hz h0 h1 (ih h2)
            exact this u5
      · have hR := hR'
        rw [s2 r hm] at hR
        obtain ⟨p, f, k1, k2, k3⟩ := hr.root r R' hR
        refine ⟨p, f, by rw [setAll_out ρ _ E hm]; exact k1, by rw [setAll_out ρ _ F hm]; exact k2, k3.mono hSS (hEok _) ?_⟩
        intro b hb
        rcases hb with hb | hb
        · exact hkeepS b hb
        · exact hkeepF hm k2 hb
    · intro r hR'
      by_cases hm : r ∈ ρ
      · obtain ⟨i, hi⟩ := List.getElem?_of_mem hm
        have hi' := lt_len hi
        obtain ⟨R, e1, e2⟩ := s3 i r (objs'[i]'(by omega)) hi (List.getElem?_eq_getElem _)
        rw [e2] at hR'; cases hR'
      · have hR := hR'
        rw [s2 r hm] at hR
        obtain ⟨k1, k2⟩ := hr.dead r hR
        exact ⟨by rw [setAll_out ρ _ E hm]; exact k1, by rw [setAll_out ρ _ F hm]; exact k2⟩
    · have l5' := (List.nodup_append.1 l5).2.1
      refine nodup_flat ?_ ?_
      · intro f hf
        obtain ⟨r, hrl, rfl⟩ := List.getElem_of_mem hf
        by_cases hm : r ∈ ρ
        · obtain ⟨i, hi⟩ := List.getElem?_of_mem hm
          have hi' := lt_len hi
          have := setAll_in ρ fps' F hρn (fun r hr' => by rw [hr.lF]; exact hρlt r hr') i r (fps'[i]'(by omega)) hi (List.getElem?_eq_getElem _)
          rw [List.getElem?_eq_getElem hrl] at this
          simp at this
          rw [this]
          exact nodup_at l5' (List.getElem?_eq_getElem (by omega))
        · have := setAll_out ρ fps' F hm
          rw [List.getElem?_eq_getElem hrl] at this
          exact nodup_at hr.nodup this.symm
      · intro i j f f' x hi hj hx hx'
        by_cases hmi : i ∈ ρ
        · obtain ⟨i1, hi1⟩ := List.getElem?_of_mem hmi
          have hi1' := lt_len hi1
          have e1 := setAll_in ρ fps' F hρn (fun r hr' => by rw [hr.lF]; exact hρlt r hr') i1 i (fps'[i1]'(by omega)) hi1 (List.getElem?_eq_getElem _)
          rw [hi] at e1
          cases e1
          by_cases hmj : j ∈ ρ
          · obtain ⟨j1, hj1⟩ := List.getElem?_of_mem hmj
            have hj1' := lt_len hj1
            have e2 := setAll_in ρ fps' F hρn (fun r hr' => by rw [hr.lF]; exact hρlt r hr') j1 j (fps'[j1]'(by omega)) hj1 (List.getElem?_eq_getElem _)
            rw [hj] at e2
            cases e2
            have := apart_flat l5' (List.getElem?_eq_getElem (by omega)) (List.getElem?_eq_getElem (by omega)) hx hx'
            subst this
            rw [hi1] at hj1; cases hj1; rfl
          · rw [setAll_out ρ _ F hmj] at hj
            exfalso
            have hxf : x ∈ fps'.flatten := List.mem_flatten.2 ⟨_, List.getElem_mem (by omega), hx⟩
            rcases hfps'old x hxf with h | h
            · exact hmj (hfpsρ h hj hx')
            · have := (hr.fsz x (flat_get hj x hx')).1; omega
        · rw [setAll_out ρ _ F hmi] at hi
          by_cases hmj : j ∈ ρ
          · obtain ⟨j1, hj1⟩ := List.getElem?_of_mem hmj
            have hj1' := lt_len hj1
            have e2 := setAll_in ρ fps' F hρn (fun r hr' => by rw [hr.lF]; exact hρlt r hr') j1 j (fps'[j1]'(by omega)) hj1 (List.getElem?_eq_getElem _)
            rw [hj] at e2
            cases e2
            exfalso
            have hxf : x ∈ fps'.flatten := List.mem_flatten.2 ⟨_, List.getElem_mem (by omega), hx'⟩
            rcases hfps'old x hxf with h | h
            · exact hmi (hfpsρ h hi hx)
            · have := (hr.fsz x (flat_get hi x hx)).1; omega
          · rw [setAll_out ρ _ F hmj] at hj
            exact apart hr hi hj hx hx'
    · intro b hb hS
      rcases flat_setAll hρn hlf (fun r hr' => by rw [hr.lF]; exact hρlt r hr') hb with h | ⟨r, f, hm, h1, h2⟩
      · exact (l6 b (List.mem_append_right _ h)).1 hS.1
      · have hbF := flat_get h1 b h2
        rcases (l2 b hS.1).2 with (h | h) | h | h
        · exact hr.fS b hbF h
        · exact hS.2 h
        · exact hm (hfpsρ h h1 h2)
        · have := (hr.fsz b hbF).1; omega
    · intro b hb
      rcases flat_setAll hρn hlf (fun r hr' => by rw [hr.lF]; exact hρlt r hr') hb with h | ⟨r, f, hm, h1, h2⟩
      · obtain ⟨_, k2, k3⟩ := l6 b (List.mem_append_right _ h)
        refine ⟨k2, ?_⟩
        rcases k3 with k3 | k3
        · exact (hr.fsz b (hfpsF b k3)).2
        · exact .inr (Nat.le_trans hr.size k3)
      · have hbF := flat_get h1 b h2
        exact ⟨Nat.lt_of_lt_of_le (hr.fsz b hbF).1 left.size, (hr.fsz b hbF).2⟩
    · intro b hb
      obtain ⟨k1, k2⟩ := l2 b hb.1
      refine ⟨k1, ?_⟩
      rcases k2 with (k2 | k2) | k2 | k2
      · exact (hr.Ssz b k2).2
      · exact absurd k2 hb.2
      · exact .inr (hr.fsz b (hfpsF b k2)).2
      · exact .inr (.inr (Nat.le_trans hr.size k2))
    · intro b h1 h2
      rw [left.keep b (Nat.lt_of_lt_of_le h1 hr.size) ?_]
      · exact hr.prot b h1 h2
      · intro h
        rcases (hr.fsz b (hfpsF b h)).2 with k | k
        · exact h2 k
        · omega
    · intro r q hq
      obtain ⟨h1, h2⟩ := hr.fix r q hq
      refine ⟨by show r < (setObjs A.H ρ objs').length; rw [s1]; exact h1, fun R' hR' => ?_⟩
      by_cases hm : r ∈ ρ
      · obtain ⟨i, hi⟩ := List.getElem?_of_mem hm
        have hi' := lt_len hi
        obtain ⟨R, e1, e2⟩ := s3 i r (objs'[i]'(by omega)) hi (List.getElem?_eq_getElem _)
        rw [e2] at hR'
        cases hR'
        obtain ⟨k1, k2⟩ := h2 R e1
        refine ⟨k1, fun p1 hp1 => ?_⟩
        obtain ⟨p, f, q1, q2, q3, q4⟩ := hpls i r hi
        have := setAll_in ρ (pls'.map some) E hρn (fun r hr' => by rw [hr.lE]; exact hρlt r hr') i r (some (pls'[i]'(by omega))) hi (by simp)
        rw [this] at hp1
        cases hp1
        exact (k2 p q1).trans (l7 i p _ q3 (List.getElem?_eq_getElem _))
      · have hR := hR'
        rw [s2 r hm] at hR
        obtain ⟨k1, k2⟩ := h2 R' hR
        exact ⟨k1, fun p1 hp1 => k2 p1 (by rwa [setAll_out ρ _ E hm] at hp1)⟩
  have hnew : New g (fun b => S' b ∧ ¬ Lent F B b) (setAll F ρ fps') w' fpd := by
    refine ⟨(List.nodup_append.1 l5).1, fun b hb => ?_⟩
    obtain ⟨k1, k2, k3⟩ := l6 b (List.mem_append_left _ hb)
    refine ⟨?_, fun h => k1 h.1, k2, ?_⟩
    · intro hh
      rcases flat_setAll hρn hlf (fun r hr' => by rw [hr.lF]; exact hρlt r hr') hh with h | ⟨r, f, hm, h1, h2⟩
      · exact (List.nodup_append.1 l5).2.2 b hb b h rfl
      · rcases k3 with k3 | k3
        · exact hm (hfpsρ k3 h1 h2)
        · have := (hr.fsz b (flat_get h1 b h2)).1; omega
    · rcases k3 with k3 | k3
      · exact (hr.fsz b (hfpsF b k3)).2
      · exact .inr (Nat.le_trans hr.size k3)
  obtain ⟨E2, F2, r1, r2, _, _⟩ := settle_sound hrel (d := d) (v := v) (l3.mono (by
    rcases hni with h0 | h0
    · exact .inl fun b hb => ⟨hb, hB0 h0 b⟩
    · exact .inr h0.1)) hnew
  exact ⟨_, E2, F2, r1, r2⟩
end
end Go.Dl

namespace Go.Dl
open Go.RowKit
def evsA (A : St) : List Operand → Option (List D)
  | [] => some []
  | x :: xs => match A.ev x, evsA A xs with
    | some d, some ds => some (d :: ds)
    | _, _ => none
section
variable {P : Program}
theorem evsA_spec {A : St} : ∀ {xs : List Operand} {ds : List D}, evsA A xs = some ds → ds.length = xs.length ∧ ∀ (i : Nat) (d : D), ds[i]? = some d → ∃ x, xs[i]? = some x ∧ A.ev x = some d
  | [], ds, h => by cases h; simp
  | x :: xs, ds, h => by
    simp only [evsA] at h
    split at h
    · rename_i d ds' h1 h2
      cases h
      obtain ⟨k1, k2⟩ := evsA_spec h2
      refine ⟨by simp [k1], fun i d' hd => ?_⟩
      cases i with
      | zero => simp at hd; subst hd; exact ⟨x, rfl, h1⟩
      | succ i => simpa using k2 i d' (by simpa using hd)
    · cases h
theorem run_callFunc {k : FuncId} {args : Array Value} {w : World} (h : callable P k = true) : (callFunc k args).run P w = .ok (.enter k args) w := by
  unfold callable at h
  split at h
  · rename_i fn hf
    rw [Bool.and_eq_true] at h
    obtain ⟨h1, h2⟩ := h
    have e1 : ¬ (fn.name = "runtime.NumGoroutine") := by simpa using h1
    have e2 : ¬ (fn.body = none) := by
      intro hb
      rw [hb] at h2
      cases h2
    simp [callFunc, program, Sem.run, hf, e1, e2]
  · cases h
theorem step_call {o : Oper} {c : Call} {A : St} {R : St → Prop} {k : FuncId} {caps : List C} {f : Operand} {ds ds' : List D} {ρ B : List Nat} {objs : List Obj} {spec : Spec} {Q : D → List Obj → Prop}
    (ho : o.op = .call c) (hop : o.op.operands.toList.all opdOK = true) (hc : c.callee = .value f) (hf : A.ev f = some (.c (.f k caps))) (hk : callable P k = true) (hds : evsA A c.args.toList = some ds)
    (harg : Yg A.H ρ (ds ++ caps.map .c) = some (ds', B)) (hρ : ρ.Nodup) (hobjs : objsAt A.H ρ = some objs) (hm : Meets P k spec) (hs : spec ds' objs Q)
    (hR : ∀ d objs', Q d objs' → objs'.length = objs.length → (B = [] ∨ (d.ni = true ∧ ∀ o ∈ objs', Obj.ni o = true)) ∧ R (St.put { A with H := (settle (setObjs A.H ρ objs') d).2 } o.dst (settle (setObjs A.H ρ objs') d).1)) :
    Step P o A R := by
  intro g a w ⟨S, E, F, hr⟩ next Q0 hn
  have hopm : ∀ x ∈ c.args.toList, opdOK x = true := fun x hx => List.all_eq_true.1 hop x (by rw [ho]; simp only [Op.operands, Call.operands, Array.toList_append, List.mem_append]; exact .inr hx)
  have hopf : opdOK f = true := List.all_eq_true.1 hop f (by rw [ho]; simp [Op.operands, Call.operands, hc])
  obtain ⟨e1, e2⟩ := evsA_spec hds
  -- the callee
  have hfv := ev_rep hr hopf hf
  have hcs : ∃ cs : Array Value, a.eval f = .func (.func k) #[] cs ∧ Rep w S E (.vs caps cs.toList) [] := by
    generalize a.eval f = vf at hfv
    cases hfv with
    | c h => cases h with
      | f _ hh => exact ⟨_, rfl, hh⟩
  obtain ⟨cs, hfe, hcaps⟩ := hcs
  have hrun : (execOp a.eval o).run P w = .ok (.enter k (c.args.map a.eval ++ cs)) w := by
    have h1 : (execOp a.eval o).run P w = (invoke (.fn (.func k) cs) (#[] ++ c.args.map a.eval)).run P w := by
      simp only [execOp, ho, Sem.run_bind, resolve, hc, Deferred.ofValue, hfe, Sem.run_pure, Result.andThen_ok]
    rw [h1]
    simp only [invoke, Array.empty_append]
    exact run_callFunc hk
  -- the objects
  obtain ⟨ob1, ob2⟩ := objsAt_spec hobjs
  have hρH : ∀ r ∈ ρ, ∃ R p f, A.H[r]? = some (some R) ∧ E[r]? = some (some p) ∧ F[r]? = some f ∧ RootAt w S E R p f := by
    intro r hrm
    obtain ⟨i, hi⟩ := List.getElem?_of_mem hrm
    have hi' := lt_len hi
    obtain ⟨r', R, q1, q2, _⟩ := ob2 i (objs[i]'(by omega)) (List.getElem?_eq_getElem _)
    rw [hi] at q1; cases q1
    obtain ⟨p, f, h1, h2, h3⟩ := hr.root r R q2
    exact ⟨R, p, f, q2, h1, h2, h3⟩
  let pl : Nat → Pl := fun r => ((E[r]?).getD none).getD ⟨none, 0, 0, 0⟩
  let fl : Nat → List Nat := fun r => (F[r]?).getD []
  have hpls : ∀ (i r : Nat), ρ[i]? = some r → ∃ p f, E[r]? = some (some p) ∧ F[r]? = some f ∧ (ρ.map pl)[i]? = some p ∧ (ρ.map fl)[i]? = some f := by
    intro i r hi
    obtain ⟨R, p, f, _, h1, h2, _⟩ := hρH r (List.mem_of_getElem? hi)
    exact ⟨p, f, h1, h2, by simp [pl, hi, h1], by simp [fl, hi, h2]⟩
  -- the arguments
  have hvals : (ds ++ caps.map D.c).length = ((c.args.map a.eval).toList ++ cs.toList).length := by
    have := vs_len hcaps
    simp [e1] at this ⊢
    omega
  have hrep : ∀ (i : Nat) (d : D), (ds ++ caps.map D.c)[i]? = some d → RepD w S E d (((c.args.map a.eval).toList ++ cs.toList).getD i undef) := by
    intro i d hd
    have hla : (c.args.map a.eval).toList.length = ds.length := by simp [e1]
    by_cases hi : i < ds.length
    · rw [List.getElem?_append_left hi] at hd
      obtain ⟨x, k1, k2⟩ := e2 i d hd
      have := ev_rep hr (hopm x (List.mem_of_getElem? k1)) k2
      have hx : ((c.args.map a.eval).toList ++ cs.toList).getD i undef = a.eval x := by
        rw [List.getD_eq_getElem?_getD, List.getElem?_append_left (by omega), Array.toList_map, List.getElem?_map, k1]; rfl
      rw [hx]; exact this
    · rw [List.getElem?_append_right (by omega), List.getElem?_map, Option.map_eq_some_iff] at hd
      obtain ⟨y, k1, rfl⟩ := hd
      obtain ⟨_, k2⟩ := vs_get hcaps
      obtain ⟨v, f, m1, m2, m3⟩ := k2 _ y k1
      have : f = [] := List.eq_nil_iff_forall_not_mem.2 fun x hx => by cases m3 x hx
      subst this
      have hx : ((c.args.map a.eval).toList ++ cs.toList).getD i undef = v := by
        rw [List.getD_eq_getElem?_getD, List.getElem?_append_right (by omega), hla, m1]; rfl
      rw [hx]; exact .c m2
  obtain ⟨⟨n1, n2⟩, n3⟩ := argDs_sound hr (pls := ρ.map pl) (fun i r hi => by obtain ⟨p, f, h1, _, h3, _⟩ := hpls i r hi; exact ⟨p, h1, h3⟩) (vs := (c.args.map a.eval).toList ++ cs.toList) hvals hrep harg (fun r hr => hr)
  have hfl : ∀ b, b ∈ (ρ.map fl).flatten → ∃ r ∈ ρ, ∃ f, F[r]? = some f ∧ b ∈ f := by
    intro b hb
    obtain ⟨f, h1, h2⟩ := List.mem_flatten.1 hb
    obtain ⟨r, h3, rfl⟩ := List.mem_map.1 h1
    obtain ⟨R, p, f', _, _, k2, _⟩ := hρH r h3
    exact ⟨r, h3, f', k2, by simpa [fl, k2] using h2⟩
  have hobjsAt : ObjsAt w (fun b => S b ∨ Lent F B b) objs (ρ.map pl) (ρ.map fl) := by
    refine ⟨by simp [ob1], by simp [ob1], fun i ob hob => ?_⟩
    obtain ⟨r, R, q1, q2, q3, q4⟩ := ob2 i ob hob
    obtain ⟨p, f, h1, h2, h3, h4⟩ := hpls i r q1
    obtain ⟨p0, f0, t1, t2, t3⟩ := hr.root r R q2
    rw [h1] at t1; cases t1
    rw [h2] at t2; cases t2
    refine ⟨p, f, h3, h4, ?_⟩
    subst q4
    obtain ⟨g1, g2, g3, g4, g5⟩ := t3
    refine ⟨g1, g2, g3, g4, ?_⟩
    cases hat : p.at? with
    | none => rw [hat] at g5; exact g5
    | some bo =>
      rw [hat] at g5
      obtain ⟨fr, u1, u2, u3⟩ := g5
      exact ⟨fr, u1, u2, ((u3.ldat (rows_dat q3)).noenv (E' := []) rfl).mono (fun b hb => .inl hb) (.refl _ _) (fun _ _ => rfl)⟩
  have hmeet := hm ds' objs Q hs w (fun b => S b ∨ Lent F B b) (c.args.map a.eval ++ cs) (ρ.map pl) (ρ.map fl) (by rw [n1]; simpa using hvals)
    (fun i d hd => by
      have := n2 i d hd
      rwa [← Array.toList_append, show ((c.args.map a.eval ++ cs).toList.getD i undef) = (c.args.map a.eval ++ cs).getD i undef by
        rw [List.getD_eq_getElem?_getD, Array.getElem?_toList, Array.getD_eq_getD_getElem?]] at this)
    hobjsAt
    (by
      refine nodup_flat ?_ ?_
      · intro f hf
        obtain ⟨r, h3, rfl⟩ := List.mem_map.1 hf
        obtain ⟨R, p, f', _, _, k2, _⟩ := hρH r h3
        simp only [fl, k2, Option.getD_some]
        exact nodup_at hr.nodup k2
      · intro i j f f' x hi hj hx hx'
        rw [List.getElem?_map, Option.map_eq_some_iff] at hi hj
        obtain ⟨ri, i1, rfl⟩ := hi
        obtain ⟨rj, j1, rfl⟩ := hj
        obtain ⟨_, _, fi, _, _, ki, _⟩ := hρH ri (List.mem_of_getElem? i1)
        obtain ⟨_, _, fj, _, _, kj, _⟩ := hρH rj (List.mem_of_getElem? j1)
        have := apart hr ki kj (by simpa [fl, ki] using hx) (by simpa [fl, kj] using hx')
        subst this
        exact (List.getElem?_inj (lt_len i1) hρ).1 (i1.trans j1.symm))
    (by
      intro b hb
      obtain ⟨r, h1, f, h2, h3⟩ := hfl b hb
      refine ⟨?_, (hr.fsz b (flat_get h2 b h3)).1⟩
      rintro (h | ⟨r', m1, f', m2, m3⟩)
      · exact hr.fS b (flat_get h2 b h3) h
      · have := apart hr h2 m2 h3 m3
        subst this
        exact n3 r m1 h1)
    (by
      rintro b (h | ⟨r', m1, f', m2, m3⟩)
      · exact (hr.Ssz b h).1
      · exact (hr.fsz b (flat_get m2 b m3)).1)
  unfold Oper.wp
  rw [hrun, Oper.upon_enter]
  refine hmeet.mono ?_
  rintro e w' ⟨v, d, objs', rfl, hQ, hlo, hleft⟩
  obtain ⟨r1, r2⟩ := hR d objs' hQ hlo
  obtain ⟨S2, E2, F2, t1, t2⟩ := hr.afterCall hρ hobjs ⟨by simp, by simp⟩ hpls n3 hlo hleft r1
  exact hn _ _ _ r2 ⟨S2, E2, F2, t1.put t2⟩
end
end Go.Dl
