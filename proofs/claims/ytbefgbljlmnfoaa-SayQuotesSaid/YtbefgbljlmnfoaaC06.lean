/- 'Dl', part V: the state behind a call; 'Dl', part W: the rule for a call; rules that change nothing but what is said; 'Dl', part X: operations with calls of known functions, as one function; 'Dl', part Y: when two operations may change places; 'Dl', part Z: on what an operation depends. -/
import Derived.Test.YtbefgbljlmnfoaaC05
import Derived.Orders
namespace Go.Dl
open Go.RowKit

def Obj.ni (o : Obj) : Bool := C.niRows o.rows

section
variable {P : Program} {g : G} {S : Nat → Prop} {E : Env} {F : List (List Nat)} {A : St} {a : Act} {w : World}

theorem niRow_flat : ∀ {rows : List (List C)}, C.niRows rows = true → C.niRow rows.flatten = true
  | [], _ => rfl
  | r :: rs, h => by
    simp only [C.niRows, Bool.and_eq_true] at h
    have app : ∀ (xs ys : List C), C.niRow xs = true → C.niRow ys = true → C.niRow (xs ++ ys) = true := by
      intro xs ys
      induction xs with
      | nil => intro _ h; exact h
      | cons y xs ih =>
        intro h1 h2
        simp only [C.niRow, Bool.and_eq_true, List.cons_append] at *
        exact ⟨h1.1, ih h1.2 h2⟩
    exact app _ _ h.1 (niRow_flat h.2)

theorem RepO1.mono {w : World} {S S' : Nat → Prop} {d : D} {v : Value} {fp : List Nat} (h : RepO1 w S d v fp) (hS : (∀ b, S b → S' b) ∨ d.ni1 = true) : RepO1 w S' d v fp := by
  cases d with
  | c y =>
    rcases hS with hS | hS
    · exact Rep.mono h hS (.refl _ _) (fun _ _ => rfl)
    · exact Rep.ni h hS
  | agg xs =>
    obtain ⟨arr, rfl, h⟩ := h
    rcases hS with hS | hS
    · exact ⟨arr, rfl, h.mono hS (.refl _ _) (fun _ _ => rfl)⟩
    · exact ⟨arr, rfl, h.ni hS⟩
  | top => exact h
  | q xs => exact h
  | t ds => exact h

theorem RepO.mono {w : World} {S S' : Nat → Prop} {d : D} {v : Value} {fp : List Nat} (h : RepO w S d v fp) (hS : (∀ b, S b → S' b) ∨ d.ni = true) : RepO w S' d v fp := by
  cases d with
  | t ds =>
    obtain ⟨arr, fps, h0, h1, h2, h3, h4⟩ := h
    refine ⟨arr, fps, h0, h1, h2, h3, fun i d' f hd hf => (h4 i d' f hd hf).mono ?_⟩
    rcases hS with hS | hS
    · exact .inl hS
    · exact .inr (List.all_eq_true.1 hS d' (List.mem_of_getElem? hd))
  | c y => exact RepO1.mono (d := .c y) h hS
  | agg xs => exact RepO1.mono (d := .agg xs) h hS
  | top => exact h
  | q xs => exact h

theorem flat_setAll {F : List (List Nat)} {ρ : List Nat} {fs : List (List Nat)} (hn : ρ.Nodup) (hl : ρ.length = fs.length) (hlt : ∀ r ∈ ρ, r < F.length) {b : Nat} :
    b ∈ (setAll F ρ fs).flatten → (b ∈ fs.flatten) ∨ ∃ r f, r ∉ ρ ∧ F[r]? = some f ∧ b ∈ f := by
  intro h
  obtain ⟨f, h1, h2⟩ := List.mem_flatten.1 h
  obtain ⟨r, hr, rfl⟩ := List.getElem_of_mem h1
  by_cases hm : r ∈ ρ
  · obtain ⟨i, hi⟩ := List.getElem?_of_mem hm
    have hi' := lt_len hi
    have := setAll_in ρ fs F hn hlt i r (fs[i]'(by omega)) hi (List.getElem?_eq_getElem _)
    rw [List.getElem?_eq_getElem hr] at this
    simp at this
    exact .inl (List.mem_flatten.2 ⟨fs[i]'(by omega), List.getElem_mem _, by rw [← this]; exact h2⟩)
  · have := setAll_out ρ fs F hm
    rw [List.getElem?_eq_getElem hr] at this
    exact .inr ⟨r, _, hm, this.symm, h2⟩

/-- Lists without a common element, each without a repetition. -/
theorem nodup_flat : ∀ {L : List (List Nat)}, (∀ f ∈ L, f.Nodup) → (∀ (i j : Nat) (f f' : List Nat) (x : Nat), L[i]? = some f → L[j]? = some f' → x ∈ f → x ∈ f' → i = j) → L.flatten.Nodup
  | [], _, _ => by simp
  | f :: L, h1, h2 => by
    rw [List.flatten_cons, List.nodup_append]
    refine ⟨h1 f (List.mem_cons_self ..), nodup_flat (fun f hf => h1 f (List.mem_cons_of_mem _ hf)) (fun i j f f' x hi hj hx hx' => ?_), ?_⟩
    · have := h2 (i + 1) (j + 1) f f' x (by simpa using hi) (by simpa using hj) hx hx'
      omega
    · intro x hx y hy hxy
      subst hxy
      obtain ⟨f', k1, k2⟩ := List.mem_flatten.1 hy
      obtain ⟨j, hj⟩ := List.getElem?_of_mem k1
      have := h2 0 (j + 1) f f' x rfl (by simpa using hj) hx k2
      omega

theorem apart_flat {F : List (List Nat)} (hn : F.flatten.Nodup) {r r' : Nat} {f f' : List Nat} {x : Nat} (h : F[r]? = some f) (h' : F[r']? = some f') (hx : x ∈ f) (hx' : x ∈ f') : r = r' := by
  rcases Nat.lt_trichotomy r r' with hlt | heq | hgt
  · exfalso
    have : x ∈ (F.take r').flatten := List.mem_flatten.2 ⟨f, List.mem_of_getElem? (by rw [List.getElem?_take, if_pos hlt]; exact h), hx⟩
    have e : F.flatten = (F.take r').flatten ++ (F.drop r').flatten := by rw [← List.flatten_append, List.take_append_drop]
    rw [e, List.nodup_append] at hn
    have hm : x ∈ (F.drop r').flatten := List.mem_flatten.2 ⟨f', List.mem_of_getElem? (i := 0) (by rw [List.getElem?_drop]; simpa using h'), hx'⟩
    exact hn.2.2 x this x hm rfl
  · exact heq
  · exfalso
    have : x ∈ (F.take r).flatten := List.mem_flatten.2 ⟨f', List.mem_of_getElem? (by rw [List.getElem?_take, if_pos hgt]; exact h'), hx'⟩
    have e : F.flatten = (F.take r).flatten ++ (F.drop r).flatten := by rw [← List.flatten_append, List.take_append_drop]
    rw [e, List.nodup_append] at hn
    have hm : x ∈ (F.drop r).flatten := List.mem_flatten.2 ⟨f, List.mem_of_getElem? (i := 0) (by rw [List.getElem?_drop]; simpa using h), hx⟩
    exact hn.2.2 x this x hm rfl

theorem Rel.afterCall {w' : World} (hr : Rel g S E F A a w) {ρ B : List Nat} {objs objs' : List Obj} {pls : List Pl} {fps : List (List Nat)} {v : Value} {d : D} (hρn : ρ.Nodup) (hobjs : objsAt A.H ρ = some objs)
    (hlen : pls.length = ρ.length ∧ fps.length = ρ.length) (hpls : ∀ (i r : Nat), ρ[i]? = some r → ∃ p f, E[r]? = some (some p) ∧ F[r]? = some f ∧ pls[i]? = some p ∧ fps[i]? = some f)
    (hBρ : ∀ r ∈ B, r ∉ ρ) (hl : objs'.length = objs.length) (left : Left w w' (fun b => S b ∨ Lent F B b) pls fps d v objs') (hni : B = [] ∨ (d.ni = true ∧ ∀ o ∈ objs', Obj.ni o = true)) :
    ∃ S'' E'' F'', Rel g S'' E'' F'' { A with H := (settle (setObjs A.H ρ objs') d).2 } a w' ∧ RepD w' S'' E'' (settle (setObjs A.H ρ objs') d).1 v := by
  obtain ⟨S', pls', fps', fpd, l1, l2, l3, l4, l5, l6, l7⟩ := left.rest
  obtain ⟨m1, m2, m3⟩ := l4
  obtain ⟨ob1, ob2⟩ := objsAt_spec hobjs
  have hρH : ∀ r ∈ ρ, ∃ R, A.H[r]? = some (some R) := by
    intro r hrm
    obtain ⟨i, hi⟩ := List.getElem?_of_mem hrm
    have hi' := lt_len hi
    obtain ⟨r', R, e1, e2, _⟩ := ob2 i (objs[i]'(by omega)) (List.getElem?_eq_getElem _)
    rw [hi] at e1; cases e1
    exact ⟨R, e2⟩
  have hρlt : ∀ r ∈ ρ, r < A.H.length := fun r hrm => by obtain ⟨R, hR⟩ := hρH r hrm; exact lt_len hR
  obtain ⟨s1, s2, s3⟩ := setObjs_eq (H := A.H) (ρ := ρ) (objs := objs') (by omega) hρn hρH
  have hlp : ρ.length = (pls'.map some).length := by simp; omega
  have hlf : ρ.length = fps'.length := by omega
  -- the memory that stays
  have hSS : ∀ b, S b → S' b ∧ ¬ Lent F B b := by
    intro b hb
    refine ⟨l1 b (.inl hb), ?_⟩
    rintro ⟨r, _, f, h1, h2⟩
    exact hr.fS b (flat_get h1 b h2) hb
  have hfpsF : ∀ b, b ∈ fps.flatten → b ∈ F.flatten := by
    intro b hb
    obtain ⟨f, h1, h2⟩ := List.mem_flatten.1 hb
    obtain ⟨i, hi⟩ := List.getElem?_of_mem h1
    have hi' := lt_len hi
    obtain ⟨p, f', e1, e2, e3, e4⟩ := hpls i (ρ[i]'(by omega)) (List.getElem?_eq_getElem _)
    rw [hi] at e4; cases e4
    exact flat_get e2 b h2
  have hfpsρ : ∀ {b r : Nat} {f : List Nat}, b ∈ fps.flatten → F[r]? = some f → b ∈ f → r ∈ ρ := by
    intro b r f hb hF hbf
    obtain ⟨f', h1, h2⟩ := List.mem_flatten.1 hb
    obtain ⟨i, hi⟩ := List.getElem?_of_mem h1
    have hi' := lt_len hi
    obtain ⟨p, f2, e1, e2, e3, e4⟩ := hpls i (ρ[i]'(by omega)) (List.getElem?_eq_getElem _)
    rw [hi] at e4; cases e4
    have := apart hr hF e2 hbf h2
    subst this
    exact List.getElem_mem _
  have hkeepS : ∀ b, S b → w'.heap[b]? = w.heap[b]? := fun b hb => left.keep b (hr.Ssz b hb).1 (fun h => hr.fS b (hfpsF b h) hb)
  have hkeepF : ∀ {r : Nat} {f : List Nat} {b : Nat}, r ∉ ρ → F[r]? = some f → b ∈ f → w'.heap[b]? = w.heap[b]? :=
    fun hrm hF hb => left.keep _ (hr.fsz _ (flat_get hF _ hb)).1 (fun h => hrm (hfpsρ h hF hb))
  have hE : EnvLe E (setAll E ρ (pls'.map some)) (fun _ => false) := by
    refine ⟨by rw [setAll_len]; exact Nat.le_refl _, fun r hrl _ q hq => ?_⟩
    by_cases hm : r ∈ ρ
    · obtain ⟨i, hi⟩ := List.getElem?_of_mem hm
      have hi' := lt_len hi
      obtain ⟨p, f, e1, e2, e3, e4⟩ := hpls i r hi
      have := setAll_in ρ (pls'.map some) E hρn (fun r hr' => by rw [hr.lE]; exact hρlt r hr') i r (some (pls'[i]'(by omega))) hi (by simp)
      rw [this] at hq
      cases hq
      exact ⟨p, e1, l7 i p _ e3 (List.getElem?_eq_getElem _)⟩
    · rw [setAll_out ρ _ E hm] at hq
      exact ⟨q, hq, q.le_refl⟩
  have hEok : ∀ ok : Nat → Bool, EnvLe E (setAll E ρ (pls'.map some)) ok := fun ok => ⟨hE.1, fun i hi _ q hq => hE.2 i hi rfl q hq⟩
  have hfps'old : ∀ b, b ∈ fps'.flatten → b ∈ fps.flatten ∨ w.heap.size ≤ b := fun b hb => (l6 b (List.mem_append_right _ hb)).2.2
  have hB0 : B = [] → ∀ b, ¬ Lent F B b := by
    rintro rfl b ⟨r, h, _⟩; cases h
  have hrel : Rel g (fun b => S' b ∧ ¬ Lent F B b) (setAll E ρ (pls'.map some)) (setAll F ρ fps') { A with H := setObjs A.H ρ objs' } a w' := by
    refine { len := hr.len, sl := ?_, defers := hr.defers, lE := by rw [setAll_len, s1]; exact hr.lE, lF := by rw [setAll_len, s1]; exact hr.lF, root := ?_, dead := ?_, nodup := ?_, fS := ?_, fsz := ?_, Ssz := ?_, S0 := fun b hb => hSS b (hr.S0 b hb), prot := ?_, size := Nat.le_trans hr.size left.size, os := left.os.trans hr.os, tape := left.tape.trans hr.tape, output := left.output.trans hr.output, fix := ?_ }
    · intro t d' hd
      exact (hr.sl t d' hd).mono hSS (hEok _) hkeepS
    · intro r R' hR'
      by_cases hm : r ∈ ρ
      · obtain ⟨i, hi⟩ := List.getElem?_of_mem hm
        have hi' := lt_len hi
        obtain ⟨R, e1, e2⟩ := s3 i r (objs'[i]'(by omega)) hi (List.getElem?_eq_getElem _)
        rw [e2] at hR'
        cases hR'
        obtain ⟨r2, R2, f1, f2, f3, f4⟩ := ob2 i (objs[i]'(by omega)) (List.getElem?_eq_getElem _)
        rw [hi] at f1; cases f1
        rw [e1] at f2; cases f2
        obtain ⟨p', f', k1, k2, k3⟩ := m3 i (objs'[i]'(by omega)) (List.getElem?_eq_getElem _)
        refine ⟨p', f', setAll_in ρ _ E hρn (fun r hr' => by rw [hr.lE]; exact hρlt r hr') i r (some p') hi (by rw [List.getElem?_map, k1]; rfl), setAll_in ρ fps' F hρn (fun r hr' => by rw [hr.lF]; exact hρlt r hr') i r f' hi k2, ?_⟩
        obtain ⟨g1, g2, g3, g4, g5⟩ := k3
        have hes : (objs'[i]'(by omega)).es = R.es := by
          obtain ⟨p, f, q1, q2, q3, q4⟩ := hpls i r hi
          have hle := l7 i p p' q3 k1
          obtain ⟨p0, f0, t1, t2, t3⟩ := hr.root r R e1
          rw [q1] at t1; cases t1
          have g1' : p'.es = (objs'[i]'(by omega)).es := g1
          rw [← g1', hle.2.1, t3.1]
        refine ⟨g1.trans hes, g2, g3, fun row hrow => (g4 row hrow).trans hes, ?_⟩
        cases hat : p'.at? with
        | none => rw [hat] at g5; exact g5
        | some bo =>
          obtain ⟨b, off⟩ := bo
          rw [hat] at g5
          obtain ⟨fr, u1, u2, u3⟩ := g5
          refine ⟨fr, u1, by show OwnBlock w' b (off + p'.m * R.es); rw [← hes]; exact u2, ?_⟩
          have u4 : Rep w' (fun b => S' b ∧ ¬ Lent F B b) [] (.l true (objs'[i]'(by omega)).rows.flatten b off) fr := by
            rcases hni with h0 | h0
            · exact u3.mono (fun b hb => ⟨hb, hB0 h0 b⟩) (.refl _ _) (fun _ _ => rfl)
            · exact u3.ni (niRow_flat (h0.2 _ (List.getElem_mem _)))
          have u5 := u4.noenv (E' := setAll E ρ (pls'.map some)) rfl
          cases hdat : R.dat with
          | true => exact u5
          | false =>
            have : ∀ {cs : List C} {off : Nat} {fp : List Nat} {b : Nat}, Rep w' (fun b => S' b ∧ ¬ Lent F B b) (setAll E ρ (pls'.map some)) (.l true cs b off) fp → Rep w' (fun b => S' b ∧ ¬ Lent F B b) (setAll E ρ (pls'.map some)) (.l false cs b off) fp := by
              intro cs
              induction cs with
              | nil => intro off fp b h; cases h; exact .lnil
              | cons c cs ih =>
                intro off fp b h
                cases h with
                | lcons hv h1 h2 => exact .lcons hv h1.undat (ih h2)
                | lb hv hz h0 h1 h2 => exact .lb hv hz h0 h1 (ih h2)
            exact this u5
      · have hR := hR'
        rw [s2 r hm] at hR
        obtain ⟨p, f, k1, k2, k3⟩ := hr.root r R' hR
        refine ⟨p, f, by rw [setAll_out ρ _ E hm]; exact k1, by rw [setAll_out ρ _ F hm]; exact k2, k3.mono hSS (hEok _) ?_⟩
        intro b hb
        rcases hb with hb | hb
        · exact hkeepS b hb
        · exact hkeepF hm k2 hb
    · intro r hR'
      by_cases hm : r ∈ ρ
      · obtain ⟨i, hi⟩ := List.getElem?_of_mem hm
        have hi' := lt_len hi
        obtain ⟨R, e1, e2⟩ := s3 i r (objs'[i]'(by omega)) hi (List.getElem?_eq_getElem _)
        rw [e2] at hR'; cases hR'
      · have hR := hR'
        rw [s2 r hm] at hR
        obtain ⟨k1, k2⟩ := hr.dead r hR
        exact ⟨by rw [setAll_out ρ _ E hm]; exact k1, by rw [setAll_out ρ _ F hm]; exact k2⟩
    · have l5' := (List.nodup_append.1 l5).2.1
      refine nodup_flat ?_ ?_
      · intro f hf
        obtain ⟨r, hrl, rfl⟩ := List.getElem_of_mem hf
        by_cases hm : r ∈ ρ
        · obtain ⟨i, hi⟩ := List.getElem?_of_mem hm
          have hi' := lt_len hi
          have := setAll_in ρ fps' F hρn (fun r hr' => by rw [hr.lF]; exact hρlt r hr') i r (fps'[i]'(by omega)) hi (List.getElem?_eq_getElem _)
          rw [List.getElem?_eq_getElem hrl] at this
          simp at this
          rw [this]
          exact nodup_at l5' (List.getElem?_eq_getElem (by omega))
        · have := setAll_out ρ fps' F hm
          rw [List.getElem?_eq_getElem hrl] at this
          exact nodup_at hr.nodup this.symm
      · intro i j f f' x hi hj hx hx'
        by_cases hmi : i ∈ ρ
        · obtain ⟨i1, hi1⟩ := List.getElem?_of_mem hmi
          have hi1' := lt_len hi1
          have e1 := setAll_in ρ fps' F hρn (fun r hr' => by rw [hr.lF]; exact hρlt r hr') i1 i (fps'[i1]'(by omega)) hi1 (List.getElem?_eq_getElem _)
          rw [hi] at e1
          cases e1
          by_cases hmj : j ∈ ρ
          · obtain ⟨j1, hj1⟩ := List.getElem?_of_mem hmj
            have hj1' := lt_len hj1
            have e2 := setAll_in ρ fps' F hρn (fun r hr' => by rw [hr.lF]; exact hρlt r hr') j1 j (fps'[j1]'(by omega)) hj1 (List.getElem?_eq_getElem _)
            rw [hj] at e2
            cases e2
            have := apart_flat l5' (List.getElem?_eq_getElem (by omega)) (List.getElem?_eq_getElem (by omega)) hx hx'
            subst this
            rw [hi1] at hj1; cases hj1; rfl
          · rw [setAll_out ρ _ F hmj] at hj
            exfalso
            have hxf : x ∈ fps'.flatten := List.mem_flatten.2 ⟨_, List.getElem_mem (by omega), hx⟩
            rcases hfps'old x hxf with h | h
            · exact hmj (hfpsρ h hj hx')
            · have := (hr.fsz x (flat_get hj x hx')).1; omega
        · rw [setAll_out ρ _ F hmi] at hi
          by_cases hmj : j ∈ ρ
          · obtain ⟨j1, hj1⟩ := List.getElem?_of_mem hmj
            have hj1' := lt_len hj1
            have e2 := setAll_in ρ fps' F hρn (fun r hr' => by rw [hr.lF]; exact hρlt r hr') j1 j (fps'[j1]'(by omega)) hj1 (List.getElem?_eq_getElem _)
            rw [hj] at e2
            cases e2
            exfalso
            have hxf : x ∈ fps'.flatten := List.mem_flatten.2 ⟨_, List.getElem_mem (by omega), hx'⟩
            rcases hfps'old x hxf with h | h
            · exact hmi (hfpsρ h hi hx)
            · have := (hr.fsz x (flat_get hi x hx)).1; omega
          · rw [setAll_out ρ _ F hmj] at hj
            exact apart hr hi hj hx hx'
    · intro b hb hS
      rcases flat_setAll hρn hlf (fun r hr' => by rw [hr.lF]; exact hρlt r hr') hb with h | ⟨r, f, hm, h1, h2⟩
      · exact (l6 b (List.mem_append_right _ h)).1 hS.1
      · have hbF := flat_get h1 b h2
        rcases (l2 b hS.1).2 with (h | h) | h | h
        · exact hr.fS b hbF h
        · exact hS.2 h
        · exact hm (hfpsρ h h1 h2)
        · have := (hr.fsz b hbF).1; omega
    · intro b hb
      rcases flat_setAll hρn hlf (fun r hr' => by rw [hr.lF]; exact hρlt r hr') hb with h | ⟨r, f, hm, h1, h2⟩
      · obtain ⟨_, k2, k3⟩ := l6 b (List.mem_append_right _ h)
        refine ⟨k2, ?_⟩
        rcases k3 with k3 | k3
        · exact (hr.fsz b (hfpsF b k3)).2
        · exact .inr (Nat.le_trans hr.size k3)
      · have hbF := flat_get h1 b h2
        exact ⟨Nat.lt_of_lt_of_le (hr.fsz b hbF).1 left.size, (hr.fsz b hbF).2⟩
    · intro b hb
      obtain ⟨k1, k2⟩ := l2 b hb.1
      refine ⟨k1, ?_⟩
      rcases k2 with (k2 | k2) | k2 | k2
      · exact (hr.Ssz b k2).2
      · exact absurd k2 hb.2
      · exact .inr (hr.fsz b (hfpsF b k2)).2
      · exact .inr (.inr (Nat.le_trans hr.size k2))
    · intro b h1 h2
      rw [left.keep b (Nat.lt_of_lt_of_le h1 hr.size) ?_]
      · exact hr.prot b h1 h2
      · intro h
        rcases (hr.fsz b (hfpsF b h)).2 with k | k
        · exact h2 k
        · omega
    · intro r q hq
      obtain ⟨h1, h2⟩ := hr.fix r q hq
      refine ⟨by show r < (setObjs A.H ρ objs').length; rw [s1]; exact h1, fun R' hR' => ?_⟩
      by_cases hm : r ∈ ρ
      · obtain ⟨i, hi⟩ := List.getElem?_of_mem hm
        have hi' := lt_len hi
        obtain ⟨R, e1, e2⟩ := s3 i r (objs'[i]'(by omega)) hi (List.getElem?_eq_getElem _)
        rw [e2] at hR'
        cases hR'
        obtain ⟨k1, k2⟩ := h2 R e1
        refine ⟨k1, fun p1 hp1 => ?_⟩
        obtain ⟨p, f, q1, q2, q3, q4⟩ := hpls i r hi
        have := setAll_in ρ (pls'.map some) E hρn (fun r hr' => by rw [hr.lE]; exact hρlt r hr') i r (some (pls'[i]'(by omega))) hi (by simp)
        rw [this] at hp1
        cases hp1
        exact (k2 p q1).trans (l7 i p _ q3 (List.getElem?_eq_getElem _))
      · have hR := hR'
        rw [s2 r hm] at hR
        obtain ⟨k1, k2⟩ := h2 R' hR
        exact ⟨k1, fun p1 hp1 => k2 p1 (by rwa [setAll_out ρ _ E hm] at hp1)⟩
  have hnew : New g (fun b => S' b ∧ ¬ Lent F B b) (setAll F ρ fps') w' fpd := by
    refine ⟨(List.nodup_append.1 l5).1, fun b hb => ?_⟩
    obtain ⟨k1, k2, k3⟩ := l6 b (List.mem_append_left _ hb)
    refine ⟨?_, fun h => k1 h.1, k2, ?_⟩
    · intro hh
      rcases flat_setAll hρn hlf (fun r hr' => by rw [hr.lF]; exact hρlt r hr') hh with h | ⟨r, f, hm, h1, h2⟩
      · exact (List.nodup_append.1 l5).2.2 b hb b h rfl
      · rcases k3 with k3 | k3
        · exact hm (hfpsρ k3 h1 h2)
        · have := (hr.fsz b (flat_get h1 b h2)).1; omega
    · rcases k3 with k3 | k3
      · exact (hr.fsz b (hfpsF b k3)).2
      · exact .inr (Nat.le_trans hr.size k3)
  obtain ⟨E2, F2, r1, r2, _, _⟩ := settle_sound hrel (d := d) (v := v) (l3.mono (by
    rcases hni with h0 | h0
    · exact .inl fun b hb => ⟨hb, hB0 h0 b⟩
    · exact .inr h0.1)) hnew
  exact ⟨_, E2, F2, r1, r2⟩

end
end Go.Dl

namespace Go.Dl
open Go.RowKit

def evsA (A : St) : List Operand → Option (List D)
  | [] => some []
  | x :: xs => match A.ev x, evsA A xs with
    | some d, some ds => some (d :: ds)
    | _, _ => none

section
variable {P : Program}

theorem evsA_spec {A : St} : ∀ {xs : List Operand} {ds : List D}, evsA A xs = some ds → ds.length = xs.length ∧ ∀ (i : Nat) (d : D), ds[i]? = some d → ∃ x, xs[i]? = some x ∧ A.ev x = some d
  | [], ds, h => by cases h; simp
  | x :: xs, ds, h => by
    simp only [evsA] at h
    split at h
    · rename_i d ds' h1 h2
      cases h
      obtain ⟨k1, k2⟩ := evsA_spec h2
      refine ⟨by simp [k1], fun i d' hd => ?_⟩
      cases i with
      | zero => simp at hd; subst hd; exact ⟨x, rfl, h1⟩
      | succ i => simpa using k2 i d' (by simpa using hd)
    · cases h

theorem run_callFunc {k : FuncId} {args : Array Value} {w : World} (h : callable P k = true) : (callFunc k args).run P w = .ok (.enter k args) w := by
  unfold callable at h
  split at h
  · rename_i fn hf
    rw [Bool.and_eq_true] at h
    obtain ⟨h1, h2⟩ := h
    have e1 : ¬ (fn.name = "runtime.NumGoroutine") := by simpa using h1
    have e2 : ¬ (fn.body = none) := by
      intro hb
      rw [hb] at h2
      cases h2
    simp [callFunc, program, Sem.run, hf, e1, e2]
  · cases h

theorem step_call {o : Oper} {c : Call} {A : St} {R : St → Prop} {k : FuncId} {caps : List C} {f : Operand} {ds ds' : List D} {ρ B : List Nat} {objs : List Obj} {spec : Spec} {Q : D → List Obj → Prop}
    (ho : o.op = .call c) (hop : o.op.operands.toList.all opdOK = true) (hc : c.callee = .value f) (hf : A.ev f = some (.c (.f k caps))) (hk : callable P k = true) (hds : evsA A c.args.toList = some ds)
    (harg : argDs A.H ρ (ds ++ caps.map .c) = some (ds', B)) (hρ : ρ.Nodup) (hobjs : objsAt A.H ρ = some objs) (hm : Meets P k spec) (hs : spec ds' objs Q)
    (hR : ∀ d objs', Q d objs' → objs'.length = objs.length → (B = [] ∨ (d.ni = true ∧ ∀ o ∈ objs', Obj.ni o = true)) ∧ R (St.put { A with H := (settle (setObjs A.H ρ objs') d).2 } o.dst (settle (setObjs A.H ρ objs') d).1)) :
    Step P o A R := by
  intro g a w ⟨S, E, F, hr⟩ next Q0 hn
  have hopm : ∀ x ∈ c.args.toList, opdOK x = true := fun x hx => List.all_eq_true.1 hop x (by rw [ho]; simp only [Op.operands, Call.operands, Array.toList_append, List.mem_append]; exact .inr hx)
  have hopf : opdOK f = true := List.all_eq_true.1 hop f (by rw [ho]; simp [Op.operands, Call.operands, hc])
  obtain ⟨e1, e2⟩ := evsA_spec hds
  -- the callee
  have hfv := ev_rep hr hopf hf
  have hcs : ∃ cs : Array Value, a.eval f = .func (.func k) #[] cs ∧ Rep w S E (.vs caps cs.toList) [] := by
    generalize a.eval f = vf at hfv
    cases hfv with
    | c h => cases h with
      | f _ hh => exact ⟨_, rfl, hh⟩
  obtain ⟨cs, hfe, hcaps⟩ := hcs
  have hrun : (execOp a.eval o).run P w = .ok (.enter k (c.args.map a.eval ++ cs)) w := by
    have h1 : (execOp a.eval o).run P w = (invoke (.fn (.func k) cs) (#[] ++ c.args.map a.eval)).run P w := by
      simp only [execOp, ho, Sem.run_bind, resolve, hc, Deferred.ofValue, hfe, Sem.run_pure, Result.andThen_ok]
    rw [h1]
    simp only [invoke, Array.empty_append]
    exact run_callFunc hk
  -- the objects
  obtain ⟨ob1, ob2⟩ := objsAt_spec hobjs
  have hρH : ∀ r ∈ ρ, ∃ R p f, A.H[r]? = some (some R) ∧ E[r]? = some (some p) ∧ F[r]? = some f ∧ RootAt w S E R p f := by
    intro r hrm
    obtain ⟨i, hi⟩ := List.getElem?_of_mem hrm
    have hi' := lt_len hi
    obtain ⟨r', R, q1, q2, _⟩ := ob2 i (objs[i]'(by omega)) (List.getElem?_eq_getElem _)
    rw [hi] at q1; cases q1
    obtain ⟨p, f, h1, h2, h3⟩ := hr.root r R q2
    exact ⟨R, p, f, q2, h1, h2, h3⟩
  let pl : Nat → Pl := fun r => ((E[r]?).getD none).getD ⟨none, 0, 0, 0⟩
  let fl : Nat → List Nat := fun r => (F[r]?).getD []
  have hpls : ∀ (i r : Nat), ρ[i]? = some r → ∃ p f, E[r]? = some (some p) ∧ F[r]? = some f ∧ (ρ.map pl)[i]? = some p ∧ (ρ.map fl)[i]? = some f := by
    intro i r hi
    obtain ⟨R, p, f, _, h1, h2, _⟩ := hρH r (List.mem_of_getElem? hi)
    exact ⟨p, f, h1, h2, by simp [pl, hi, h1], by simp [fl, hi, h2]⟩
  -- the arguments
  have hvals : (ds ++ caps.map D.c).length = ((c.args.map a.eval).toList ++ cs.toList).length := by
    have := vs_len hcaps
    simp [e1] at this ⊢
    omega
  have hrep : ∀ (i : Nat) (d : D), (ds ++ caps.map D.c)[i]? = some d → RepD w S E d (((c.args.map a.eval).toList ++ cs.toList).getD i undef) := by
    intro i d hd
    have hla : (c.args.map a.eval).toList.length = ds.length := by simp [e1]
    by_cases hi : i < ds.length
    · rw [List.getElem?_append_left hi] at hd
      obtain ⟨x, k1, k2⟩ := e2 i d hd
      have := ev_rep hr (hopm x (List.mem_of_getElem? k1)) k2
      have hx : ((c.args.map a.eval).toList ++ cs.toList).getD i undef = a.eval x := by
        rw [List.getD_eq_getElem?_getD, List.getElem?_append_left (by omega), Array.toList_map, List.getElem?_map, k1]; rfl
      rw [hx]; exact this
    · rw [List.getElem?_append_right (by omega), List.getElem?_map, Option.map_eq_some_iff] at hd
      obtain ⟨y, k1, rfl⟩ := hd
      obtain ⟨_, k2⟩ := vs_get hcaps
      obtain ⟨v, f, m1, m2, m3⟩ := k2 _ y k1
      have : f = [] := List.eq_nil_iff_forall_not_mem.2 fun x hx => by cases m3 x hx
      subst this
      have hx : ((c.args.map a.eval).toList ++ cs.toList).getD i undef = v := by
        rw [List.getD_eq_getElem?_getD, List.getElem?_append_right (by omega), hla, m1]; rfl
      rw [hx]; exact .c m2
  obtain ⟨⟨n1, n2⟩, n3⟩ := argDs_sound hr (pls := ρ.map pl) (fun i r hi => by obtain ⟨p, f, h1, _, h3, _⟩ := hpls i r hi; exact ⟨p, h1, h3⟩) (vs := (c.args.map a.eval).toList ++ cs.toList) hvals hrep harg (fun r hr => hr)
  have hfl : ∀ b, b ∈ (ρ.map fl).flatten → ∃ r ∈ ρ, ∃ f, F[r]? = some f ∧ b ∈ f := by
    intro b hb
    obtain ⟨f, h1, h2⟩ := List.mem_flatten.1 hb
    obtain ⟨r, h3, rfl⟩ := List.mem_map.1 h1
    obtain ⟨R, p, f', _, _, k2, _⟩ := hρH r h3
    exact ⟨r, h3, f', k2, by simpa [fl, k2] using h2⟩
  have hobjsAt : ObjsAt w (fun b => S b ∨ Lent F B b) objs (ρ.map pl) (ρ.map fl) := by
    refine ⟨by simp [ob1], by simp [ob1], fun i ob hob => ?_⟩
    obtain ⟨r, R, q1, q2, q3, q4⟩ := ob2 i ob hob
    obtain ⟨p, f, h1, h2, h3, h4⟩ := hpls i r q1
    obtain ⟨p0, f0, t1, t2, t3⟩ := hr.root r R q2
    rw [h1] at t1; cases t1
    rw [h2] at t2; cases t2
    refine ⟨p, f, h3, h4, ?_⟩
    subst q4
    obtain ⟨g1, g2, g3, g4, g5⟩ := t3
    refine ⟨g1, g2, g3, g4, ?_⟩
    cases hat : p.at? with
    | none => rw [hat] at g5; exact g5
    | some bo =>
      rw [hat] at g5
      obtain ⟨fr, u1, u2, u3⟩ := g5
      exact ⟨fr, u1, u2, ((u3.ldat (rows_dat q3)).noenv (E' := []) rfl).mono (fun b hb => .inl hb) (.refl _ _) (fun _ _ => rfl)⟩
  have hmeet := hm ds' objs Q hs w (fun b => S b ∨ Lent F B b) (c.args.map a.eval ++ cs) (ρ.map pl) (ρ.map fl) (by rw [n1]; simpa using hvals)
    (fun i d hd => by
      have := n2 i d hd
      rwa [← Array.toList_append, show ((c.args.map a.eval ++ cs).toList.getD i undef) = (c.args.map a.eval ++ cs).getD i undef by
        rw [List.getD_eq_getElem?_getD, Array.getElem?_toList, Array.getD_eq_getD_getElem?]] at this)
    hobjsAt
    (by
      refine nodup_flat ?_ ?_
      · intro f hf
        obtain ⟨r, h3, rfl⟩ := List.mem_map.1 hf
        obtain ⟨R, p, f', _, _, k2, _⟩ := hρH r h3
        simp only [fl, k2, Option.getD_some]
        exact nodup_at hr.nodup k2
      · intro i j f f' x hi hj hx hx'
        rw [List.getElem?_map, Option.map_eq_some_iff] at hi hj
        obtain ⟨ri, i1, rfl⟩ := hi
        obtain ⟨rj, j1, rfl⟩ := hj
        obtain ⟨_, _, fi, _, _, ki, _⟩ := hρH ri (List.mem_of_getElem? i1)
        obtain ⟨_, _, fj, _, _, kj, _⟩ := hρH rj (List.mem_of_getElem? j1)
        have := apart hr ki kj (by simpa [fl, ki] using hx) (by simpa [fl, kj] using hx')
        subst this
        exact (List.getElem?_inj (lt_len i1) hρ).1 (i1.trans j1.symm))
    (by
      intro b hb
      obtain ⟨r, h1, f, h2, h3⟩ := hfl b hb
      refine ⟨?_, (hr.fsz b (flat_get h2 b h3)).1⟩
      rintro (h | ⟨r', m1, f', m2, m3⟩)
      · exact hr.fS b (flat_get h2 b h3) h
      · have := apart hr h2 m2 h3 m3
        subst this
        exact n3 r m1 h1)
    (by
      rintro b (h | ⟨r', m1, f', m2, m3⟩)
      · exact (hr.Ssz b h).1
      · exact (hr.fsz b (flat_get m2 b m3)).1)
  unfold Oper.wp
  rw [hrun, Oper.upon_enter]
  refine hmeet.mono ?_
  rintro e w' ⟨v, d, objs', rfl, hQ, hlo, hleft⟩
  obtain ⟨r1, r2⟩ := hR d objs' hQ hlo
  obtain ⟨S2, E2, F2, t1, t2⟩ := hr.afterCall hρ hobjs ⟨by simp, by simp⟩ hpls n3 hlo hleft r1
  exact hn _ _ _ r2 ⟨S2, E2, F2, t1.put t2⟩

end
end Go.Dl

namespace Go.Dl
open Go.RowKit

/-- What is known of functions: those that take data and give data; those that also change objects. -/
structure Fs where
  pure : FuncId → Option (List D → Option D)
  objs : FuncId → Option (List D → List Obj → Option (D × List Obj))

def Fs.none : Fs := ⟨fun _ => .none, fun _ => .none⟩

/-- A contract that says just what comes. -/
def detS (f : List D → List Obj → Option (D × List Obj)) : Spec := fun args objs Q => ∃ d os, f args objs = some (d, os) ∧ Q d os
def pureS (f : List D → Option D) : Spec := fun args objs Q => objs = [] ∧ ∃ d, f args = some d ∧ Q d []

structure FsOK (P : Program) (Φ : Fs) : Prop where
  pure : ∀ k f, Φ.pure k = some f → callable P k = true ∧ Meets P k (pureS f)
  objs : ∀ k f, Φ.objs k = some f → callable P k = true ∧ Meets P k (detS f)

/-- The roots that pointers name, each once. -/
def rootsC : C → List Nat
  | .p r _ _ => [r]
  | _ => []
def rootsD : D → List Nat
  | .c y => rootsC y
  | .agg xs => xs.flatMap rootsC
  | _ => []
def dedup : List Nat → List Nat
  | [] => []
  | x :: xs => let r := dedup xs; if r.contains x then r else x :: r

def callP (Φ : Fs) (ρ : Operand → Option D) (evs : List Operand → Option (List D)) (H : List (Option Root)) (c : Call) : Option (D × List (Option Root)) :=
  match c.callee with
  | .value f => match ρ f with
    | some (.c (.f k caps)) => match Φ.pure k, evs c.args.toList with
      | some F, some ds => match argDs H [] (ds ++ caps.map .c) with
        | some (ds', B) => match F ds' with
          | some d => if B.isEmpty || d.ni then some (settle H d) else none
          | none => none
        | none => none
      | _, _ => none
    | _ => none
  | _ => none

def callO (Φ : Fs) (ρ : Operand → Option D) (evs : List Operand → Option (List D)) (H : List (Option Root)) (c : Call) : Option (D × List (Option Root)) :=
  match c.callee with
  | .value f => match ρ f with
    | some (.c (.f k caps)) => match Φ.objs k, evs c.args.toList with
      | some F, some ds => let rs := dedup (rootsD (.agg (caps ++ ds.filterMap D.cell))) 
        match argDs H rs (ds ++ caps.map .c), objsAt H rs with
        | some (ds', B), some os => match F ds' os with
          | some (d, os') => if os'.length = os.length ∧ (B.isEmpty || (d.ni && os'.all Obj.ni)) = true then some (settle (setObjs H rs os') d) else none
          | none => none
        | _, _ => none
      | _, _ => none
    | _ => none
  | _ => none

def stepf (P : Program) (Φ : Fs) (A : St) (dst : Option Tmp) (op : Op) : Option St :=
  match op with
  | .call c => match c.callee with
    | .value _ => match callP Φ A.ev (evsA A) A.H c with
      | some r => some (A.with dst r)
      | none => (callO Φ A.ev (evsA A) A.H c).map (A.with dst)
    | _ => stepx P A dst op
  | op => stepx P A dst op

theorem dedup_nodup : ∀ l : List Nat, (dedup l).Nodup
  | [] => .nil
  | x :: xs => by
    simp only [dedup]
    split
    · exact dedup_nodup xs
    · rename_i h
      refine List.nodup_cons.2 ⟨fun hx => h ?_, dedup_nodup xs⟩
      simpa using hx

section
variable {P : Program} {Φ : Fs}

theorem stepf_ok (hΦ : FsOK P Φ) {o : Oper} {A A' : St} {R : St → Prop} (hop : o.op.operands.toList.all opdOK = true) (h : stepf P Φ A o.dst o.op = some A') (hR : R A') : Step P o A R := by
  unfold stepf at h
  split at h
  · rename_i c ho
    split at h
    · rename_i f hf
      split at h
      · rename_i r hr
        cases h
        unfold callP at hr
        rw [hf] at hr
        simp only at hr
        split at hr
        · rename_i k caps hev
          split at hr
          · rename_i F ds hF hds
            split at hr
            · rename_i ds' B harg
              split at hr
              · rename_i d hd
                split at hr
                · rename_i hB
                  cases hr
                  obtain ⟨h1, h2⟩ := hΦ.pure k F hF
                  refine step_call ho hop hf hev h1 hds harg .nil (objs := []) rfl h2 (Q := fun d' os => d' = d ∧ os = []) ⟨rfl, d, hd, rfl, rfl⟩ ?_
                  rintro _ _ ⟨rfl, rfl⟩ _
                  refine ⟨?_, hR⟩
                  rw [Bool.or_eq_true, List.isEmpty_iff] at hB
                  exact hB.imp id fun h => ⟨h, by simp⟩
                · cases hr
              · cases hr
            · cases hr
          · cases hr
        · cases hr
      · rename_i hr0
        cases hr : callO Φ A.ev (evsA A) A.H c with
        | none => rw [hr] at h; cases h
        | some r =>
          rw [hr] at h; cases h
          unfold callO at hr
          rw [hf] at hr
          simp only at hr
          split at hr
          · rename_i k caps hev
            split at hr
            · rename_i F ds hF hds
              split at hr
              · rename_i ds' B os harg hos
                split at hr
                · rename_i d os' hd
                  split at hr
                  · rename_i hB
                    cases hr
                    obtain ⟨h1, h2⟩ := hΦ.objs k F hF
                    refine step_call ho hop hf hev h1 hds harg (dedup_nodup _) hos h2 (Q := fun d' os'' => d' = d ∧ os'' = os') ⟨d, os', hd, rfl, rfl⟩ ?_
                    rintro _ _ ⟨rfl, rfl⟩ _
                    refine ⟨?_, hR⟩
                    have := hB.2
                    rw [Bool.or_eq_true, List.isEmpty_iff, Bool.and_eq_true, List.all_eq_true] at this
                    exact this
                  · cases hr
                · cases hr
              · cases hr
            · cases hr
          · cases hr
    · exact step_x hop h hR
  · exact step_x hop h hR

/-- One operation with its guard. -/
def xstep (P : Program) (Φ : Fs) (ops : Array Oper) (o : Oper) (A : St) : Option St :=
  match o.guard with
  | none => stepf P Φ A o.dst o.op
  | some (j, want) => match (ops[j]?).bind (·.dst) with
    | some t => match A.sl[t]? with
      | some (.c (.v (.bool b))) => if b = want then stepf P Φ A o.dst o.op else some (A.put o.dst (.t []))
      | some (.t []) => some (A.put o.dst (.t []))
      | _ => none
    | none => none

def runf (P : Program) (Φ : Fs) (ops : Array Oper) : List Oper → St → Option St
  | [], A => some A
  | o :: os, A => (xstep P Φ ops o A).bind (runf P Φ ops os)

/-- One operation of a region, from a state. -/
theorem xstep_wp (hΦ : FsOK P Φ) {ops : Array Oper} {i : Nat} {o : Oper} (ho : ops[i]? = some o) (hop : o.op.operands.toList.all opdOK = true) {A A' : St} (h : xstep P Φ ops o A = some A')
    {g : G} {a : Act} {w : World} (hs : Sat g A a w) {Q : Exit → Act → World → Prop} {K : Act → World → Prop} (hK : ∀ a' w', Sat g A' a' w' → K a' w') : wpOp P ops Q i K a w := by
  unfold wpOp
  simp only [ho]
  unfold xstep at h
  split at h
  · rename_i hg
    simp only [Region.wanted, hg, if_true]
    exact .inl (stepf_ok hΦ hop h (R := fun A => A = A') rfl g a w hs _ _ fun A1 a' w' e hs' => hK a' w' (e ▸ hs'))
  · rename_i j want hg
    split at h
    · rename_i t ht
      split at h
      · rename_i b hb
        obtain ⟨S, E, F, hr⟩ := id hs
        have hv : a.tmps.getD t undef = .bool b := bool_inv (hr.sl t _ hb)
        simp only [Region.wanted, hg, yielded_of ht hv]
        split at h
        · rename_i hw
          subst hw
          simp only [beq_self_eq_true, if_true]
          exact .inl (stepf_ok hΦ hop h (R := fun A => A = A') rfl g a w hs _ _ fun A1 a' w' e hs' => hK a' w' (e ▸ hs'))
        · rename_i hw
          have : (some b == some want) = false := by cases b <;> cases want <;> simp_all
          rw [this]
          simp only [Bool.false_eq_true, if_false]
          cases h
          exact hK _ _ ⟨S, E, F, hr.put (.t rfl (by simp))⟩
      · rename_i hb
        cases h
        obtain ⟨S, E, F, hr⟩ := id hs
        have hv := hr.sl t _ hb
        have hy : yielded ops a.tmps j = none := by
          unfold yielded
          rw [ht, Option.bind_some]
          generalize hval : a.tmps.getD t undef = v at hv
          rw [Array.getD_eq_getD_getElem?] at hval
          cases hv with
          | t _ _ =>
            cases hx : a.tmps[t]? with
            | none => rfl
            | some v => rw [hx] at hval; simp at hval; subst hval; rfl
        simp only [Region.wanted, hg, hy]
        have : ((none : Option Bool) == some want) = false := rfl
        rw [this]
        simp only [Bool.false_eq_true, if_false]
        exact hK _ _ ⟨S, E, F, hr.put (.t rfl (by simp))⟩
      · cases h
    · cases h

theorem runf_ops (hΦ : FsOK P Φ) {ops : Array Oper} (hok : opsOK ops = true) {g : G} {Q : Exit → Act → World → Prop} {A' : St} (hQ : ∀ a' w', Sat g A' a' w' → Q .normal a' w') :
    ∀ (n i : Nat) (A : St) (a : Act) (w : World), i + n = ops.size → runf P Φ ops (ops.toList.drop i) A = some A' → Sat g A a w → wpOps P ops Q (List.range' i n) a w := by
  intro n
  induction n with
  | zero =>
    intro i A a w hn h hs
    rw [List.drop_eq_nil_of_le (by simp; omega)] at h
    cases h
    exact hQ a w hs
  | succ n ih =>
    intro i A a w hn h hs
    have hi : i < ops.toList.length := by simp; omega
    rw [List.drop_eq_getElem_cons hi] at h
    simp only [runf] at h
    have ho : ops[i]? = some ops.toList[i] := by simp
    cases hx : xstep P Φ ops ops.toList[i] A with
    | none => rw [hx] at h; cases h
    | some A1 =>
      rw [hx] at h
      rw [List.range'_succ, wpOps_cons]
      exact xstep_wp hΦ ho (List.all_eq_true.1 hok _ (List.getElem_mem hi)) hx hs fun a' w' hs' => ih (i + 1) A1 a' w' (by omega) h hs'

theorem tri_runf (hΦ : FsOK P Φ) {id : Nat} {ops : Array Oper} {A A' : St} {Q : Exit → St → Prop} (hok : opsOK ops = true) (h : runf P Φ ops ops.toList A = some A') (hQ : Q .normal A') :
    Tri P (.region id ops false) A Q := by
  intro g a w hs
  refine wp_region ?_
  rw [List.range_eq_range']
  exact runf_ops hΦ hok (fun a' w' hs' => ⟨A', hs', hQ⟩) ops.size 0 A a w (by omega) (by simpa using h) hs

end
end Go.Dl

namespace Go.Dl
open Go.RowKit

/-- There is such a state. -/
def Ok (g : G) (A : St) : Prop := ∃ a w, Sat g A a w

section
variable {P : Program} {Φ : Fs}

theorem wp_some {o : Oper} {a : Act} {w : World} {p : Prop} (h : o.wp P a w (fun _ _ => p) (fun _ _ _ => p)) : p := by
  unfold Oper.wp at h
  generalize (execOp a.eval o).run P w = r at h
  cases r with
  | ok n w' =>
    cases n <;> simp only [Oper.upon] at h <;> try exact h
    case enter f args =>
      obtain ⟨e, w'', fr, h1, _⟩ := h []
      cases e with
      | returned v => exact h1
      | panicked c => exact h1
      | outgrown => obtain ⟨_, _, h1⟩ := h1; exact h1
    case row r args =>
      obtain ⟨v, w'', h1, _⟩ := h default []
      exact h1
  | halt x w' => cases x <;> simp only [Oper.upon] at h <;> exact h

theorem xstep_ok (hΦ : FsOK P Φ) {ops : Array Oper} {o : Oper} (hop : o.op.operands.toList.all opdOK = true) {A A' : St} (h : xstep P Φ ops o A = some A') {g : G} (hs : Ok g A) : Ok g A' := by
  obtain ⟨a, w, hs⟩ := hs
  have one : ∀ {A1 : St}, stepf P Φ A o.dst o.op = some A1 → Ok g A1 := fun {A1} h1 =>
    wp_some (stepf_ok hΦ hop h1 (R := fun A => A = A1) rfl g a w hs _ _ fun A2 a' w' e hs' => ⟨a', w', e ▸ hs'⟩)
  unfold xstep at h
  split at h
  · exact one h
  · split at h
    · split at h
      · split at h
        · exact one h
        · cases h
          obtain ⟨S, E, F, hr⟩ := hs
          exact ⟨a.put o.dst undef, w, S, E, F, hr.put (.t rfl (by simp))⟩
      · cases h
        obtain ⟨S, E, F, hr⟩ := hs
        exact ⟨a.put o.dst undef, w, S, E, F, hr.put (.t rfl (by simp))⟩
      · cases h
    · cases h

theorem Rep.inE {w : World} {S : Nat → Prop} {E : Env} {it : It} {fp : List Nat} (h : Rep w S E it fp) : ∀ r, it.no r = false → r < E.length := by
  induction h with
  | h hr _ => intro r h; simp [It.no, C.no] at h; omega
  | p hr _ => intro r h; simp [It.no, C.no] at h; omega
  | f hc _ ih => intro r h; exact ih r (by revert h; simp [It.no, C.no])
  | lcons hv hc hr ih1 ih2 =>
    intro r h
    rename_i dat c cs b off v f1 f2
    simp only [It.no, C.nos, Bool.or_eq_false_iff, Bool.and_eq_false_iff] at h
    rcases h.2 with k | k
    · exact ih1 r (by simp [It.no, h.1, k])
    · exact ih2 r (by simp [It.no, h.1, k])
  | un => intro r h; simp [It.no, C.no] at h
  | uo _ _ _ _ _ _ => intro r h; simp [It.no, C.no] at h
  | lb hv hz h0 hb hr ih2 =>
    intro r h
    simp only [It.no, C.nos, C.no, Bool.true_and] at h
    exact ih2 r (by simpa [It.no] using h)
  | vcons hc hr ih1 ih2 =>
    intro r h
    simp only [It.no, C.nos, Bool.and_eq_false_iff] at h
    rcases h with k | k
    · exact ih1 r (by simp [It.no, k])
    · exact ih2 r (by simp [It.no, k])
  | v _ => intro r h; simp [It.no, C.no] at h
  | nilI => intro r h; simp [It.no, C.no] at h
  | nilO => intro r h; simp [It.no, C.no] at h
  | imm _ _ _ _ _ => intro r h; simp [It.no, C.no] at h
  | own _ _ _ _ _ _ => intro r h; simp [It.no, C.no] at h
  | optr _ _ _ => intro r h; simp [It.no, C.no] at h
  | x => intro r h; simp [It.no, C.no] at h
  | m => intro r h; simp [It.no, C.no] at h
  | lnil => intro r h; simp [It.no, C.nos] at h
  | vnil => intro r h; simp [It.no, C.nos] at h

theorem nos_get {r : Nat} : ∀ {ds : List D}, D.nos r ds = false → ∃ (i : Nat) (d : D), ds[i]? = some d ∧ D.no r d = false
  | [], h => by simp [D.nos] at h
  | d :: ds, h => by
    simp only [D.nos, Bool.and_eq_false_iff] at h
    rcases h with h | h
    · exact ⟨0, d, rfl, h⟩
    · obtain ⟨i, d', h1, h2⟩ := nos_get h
      exact ⟨i + 1, d', by simpa using h1, h2⟩

theorem RepD.inE {w : World} {S : Nat → Prop} {E : Env} {d : D} {v : Value} (h : RepD w S E d v) : ∀ r, d.no r = false → r < E.length := by
  induction h with
  | top => intro r h; simp [D.no] at h
  | c h => intro r k; exact h.inE r (by simpa [It.no, D.no] using k)
  | agg h => intro r k; exact h.inE r (by simpa [It.no, D.no] using k)
  | q hS h => intro r h; simp [D.no] at h
  | t hn hh ih =>
    intro r k
    simp only [D.no] at k
    obtain ⟨i, d', h1, h2⟩ := nos_get k
    exact ih i d' h1 r h2

theorem constC_no {v : Value} (r : Nat) : (constC v).no r = true := by
  cases v <;> simp [constC, C.no]

theorem constCs_no (r : Nat) : ∀ l : List Value, C.nos r (l.map constC) = true
  | [] => rfl
  | v :: l => by simp [C.nos, constC_no, constCs_no r l]

theorem constD_no {v : Value} (r : Nat) : (constD v).no r = true := by
  cases v <;> simp [constD, D.no, constC_no, constCs_no]

theorem Ok.ev_in {g : G} {A : St} (h : Ok g A) {x : Operand} {d : D} (he : A.ev x = some d) (r : Nat) (hr : d.no r = false) : r < A.H.length := by
  obtain ⟨a, w, S, E, F, hs⟩ := h
  cases x with
  | tmp t => have := (hs.sl t d he).inE r hr; rw [hs.lE] at this; exact this
  | const v => simp only [St.ev, Option.some.injEq] at he; subst he; rw [constD_no] at hr; cases hr
  | func f => simp only [St.ev, Option.some.injEq] at he; subst he; simp [D.no, C.no, C.nos] at hr
  | global _ => cases he

/-- The classes of operations. -/
inductive Cl where
  | F | L | X | S | N
  deriving DecidableEq

def isIntT (P : Program) (t : TypeId) : Bool := match tk P t with | some (.int _) => true | _ => false

def cl (P : Program) (Φ : Fs) : Op → Cl
  | .move _ => .F
  | .assign _ => .F
  | .pick .. => .F
  | .nilCheck _ => .F
  | .binOp .. => .F
  | .unOp .. => .F
  | .fieldAddr .. => .F
  | .field .. => .F
  | .indexAddr .. => .F
  | .index .. => .F
  | .slice .. => .F
  | .extract .. => .F
  | .build .. => .F
  | .convert _ t _ => if isIntT P t then .F else .N
  | .load .. => .L
  | .store .. => .S
  | .alloc _ => .X
  | .box .. => .X
  | .buildSlice .. => .X
  | .makeSlice .. => .X
  | .call c => match c.callee with
    | .builtin .len => .F
    | .builtin .max => .F
    | .builtin .min => .F
    | .value (.func k) => if (Φ.pure k).isSome && (Φ.objs k).isNone then .X else .N
    | _ => .N
  | _ => .N

/-- What an operation does: what it gives, what the roots are then. -/
def act (P : Program) (Φ : Fs) (A : St) : Op → Option (D × List (Option Root))
  | .store t x v => match A.ev x, (A.ev v).bind D.cells with
    | some d, some cells => if tsz P t = cells.length ∧ tsz P t ≠ 0 then (storeA A.H cells d).map fun H => (.top, H) else none
    | _, _ => none
  | .alloc t => (tz P t).bind (boxA A.H)
  | .box _ x => ((A.ev x).bind D.cells).bind (boxA A.H)
  | .build t parts => (buildA P A.ev A.H t parts.toList).map fun d => (d, A.H)
  | .buildSlice t len parts => buildSliceA P A.ev A.H t len parts.toList
  | .makeSlice t l c => match (A.ev l).bind D.int, (A.ev c).bind D.int with
    | some l, some c => makeA P A.H t l c
    | _, _ => none
  | .call c => match c.callee with
    | .value _ => callP Φ A.ev (evsA A) A.H c
    | _ => (qbuiltin P A.ev A.H c).map fun d => (d, A.H)
  | .convert s t x => ((A.ev x).bind (qconv P s t)).map fun d => (d, A.H)
  | op => (qev P A.ev A.H op).map fun d => (d, A.H)

theorem with_same (A : St) (dst : Option Tmp) (d : D) : A.with dst (d, A.H) = A.put dst d := rfl

theorem map_map {α β γ : Type} (o : Option α) (f : α → β) (g : β → γ) : (o.map f).map g = o.map (fun x => g (f x)) := by cases o <;> rfl

theorem intT_of {t : TypeId} (h : isIntT P t = true) : ∃ k, tk P t = some (.int k) := by
  unfold isIntT at h
  split at h
  · exact ⟨_, by assumption⟩
  · cases h

theorem stepf_act {A : St} {op : Op} (hc : cl P Φ op ≠ .N) (dst : Option Tmp) : stepf P Φ A dst op = (act P Φ A op).map (A.with dst) := by
  unfold cl at hc
  split at hc <;> try (first | exact absurd rfl hc | (simp only [stepf, stepx, act, map_map, with_same]; done) | (simp only [stepf, stepx, act, map_map]; rfl))
  · -- convert
    rename_i s t x
    split at hc
    · rename_i ht
      obtain ⟨k, hk⟩ := intT_of ht
      simp only [stepf, stepx, act, map_map]
      cases hx : A.ev x with
      | none => rfl
      | some d =>
        simp only [Option.bind_some]
        cases hq : qconv P s t d with
        | some d' => rfl
        | none =>
          have h1 : bytesStr P A.H s t d = none := by unfold bytesStr; rw [hk]
          have h2 : strBytes P A.H s t d = none := by unfold strBytes; rw [hk]
          simp [h1, h2]
    · exact absurd rfl hc
  · rename_i t x v
    simp only [stepf, stepx, act]
    cases A.ev x with
    | none => rfl
    | some d =>
      cases (A.ev v).bind D.cells with
      | none => rfl
      | some cells =>
        simp only
        by_cases h : tsz P t = cells.length ∧ tsz P t ≠ 0
        · rw [if_pos h, if_pos h, map_map]; rfl
        · rw [if_neg h, if_neg h]; rfl
  · rename_i t l c
    simp only [stepf, stepx, act]
    cases (A.ev l).bind D.int with
    | none => rfl
    | some n => cases (A.ev c).bind D.int <;> rfl
  · rename_i c
    split at hc
    · rename_i h; simp only [stepf, stepx, act, h, map_map]; rfl
    · rename_i h; simp only [stepf, stepx, act, h, map_map]; rfl
    · rename_i h; simp only [stepf, stepx, act, h, map_map]; rfl
    · rename_i k h
      split at hc
      · rename_i hk
        rw [Bool.and_eq_true, Option.isNone_iff_eq_none] at hk
        simp only [stepf, act, h]
        cases hp : callP Φ A.ev (evsA A) A.H c with
        | some r => rfl
        | none =>
          have : callO Φ A.ev (evsA A) A.H c = none := by
            unfold callO
            rw [h]
            simp only [St.ev, hk.2]
          simp [this]
      · exact absurd rfl hc
    · exact absurd rfl hc

end
end Go.Dl

namespace Go.Dl
open Go.RowKit

/-- A root's shape: does it live, how many cells has an element? -/
def shp : Option (Option Root) → Option Nat
  | some (some R) => some R.es
  | _ => none

theorem liveR_shp {H : List (Option Root)} {r : Nat} : liveR H r = (shp H[r]?).isSome := by
  unfold liveR shp
  split <;> split <;> simp_all

theorem shp_cases {x y : Option (Option Root)} (h : shp x = shp y) : (∃ R R', x = some (some R) ∧ y = some (some R') ∧ R.es = R'.es) ∨ ((∀ R, x ≠ some (some R)) ∧ ∀ R, y ≠ some (some R)) := by
  unfold shp at h
  split at h
  · split at h
    · exact .inl ⟨_, _, rfl, rfl, by simpa using h⟩
    · cases h
  · split at h
    · cases h
    · rename_i h1 _ h2; exact .inr ⟨fun R e => h1 R e, fun R e => h2 R e⟩

section
variable {P : Program} {Φ : Fs} {H H' : List (Option Root)}

def Alike (H H' : List (Option Root)) (d : D) : Prop := ∀ r, d.no r = false → shp H[r]? = shp H'[r]?

theorem alike_p {r e c : Nat} (h : Alike H H' (.c (.p r e c))) : liveR H r = liveR H' r := by
  rw [liveR_shp, liveR_shp, h r (by simp [D.no, C.no])]
theorem alike_h {r l n : Nat} (h : Alike H H' (.c (.h r l n))) : shp H[r]? = shp H'[r]? := h r (by simp [D.no, C.no])
theorem alike_hl {r l n : Nat} (h : Alike H H' (.c (.h r l n))) : liveR H r = liveR H' r := by
  rw [liveR_shp, liveR_shp, alike_h h]

theorem qnil_alike {d : D} (h : Alike H H' d) : qnil H d = qnil H' d := by
  unfold qnil
  split <;> first | rfl | rw [alike_p h]

theorem qfieldAddr_alike {t : TypeId} {i : Nat} {d : D} (h : Alike H H' d) : qfieldAddr P H t i d = qfieldAddr P H' t i d := by
  unfold qfieldAddr
  split
  · split
    · split
      · rfl
      · split <;> first | rfl | rw [alike_p h]
    · rfl
  · rfl

theorem qindexAddr_alike {t : TypeId} {n : Int} {d : D} (h : Alike H H' d) : qindexAddr P H t d n = qindexAddr P H' t d n := by
  unfold qindexAddr
  split
  · rename_i e _
    split
    · rename_i r lo len
      rcases shp_cases (alike_h h) with ⟨R, R', h1, h2, h3⟩ | ⟨h1, h2⟩
      · rw [h1, h2]; simp only [h3]
      · cases k1 : H[r]? with
        | none => cases k2 : H'[r]? with
          | none => rfl
          | some y => cases y with
            | none => rfl
            | some R => exact absurd k2 (h2 R)
        | some x => cases x with
          | some R => exact absurd k1 (h1 R)
          | none => cases k2 : H'[r]? with
            | none => rfl
            | some y => cases y with
              | none => rfl
              | some R => exact absurd k2 (h2 R)
    · rfl
    · rfl
  · split <;> first | rfl | rw [alike_p h]
  · rfl

theorem qslice_alike {t : TypeId} {lo hi : Option (Option D)} {d : D} (h : Alike H H' d) : qslice P H t lo hi d = qslice P H' t lo hi d := by
  unfold qslice
  split
  · rfl
  · rfl
  · rename_i r l0 len
    split
    · rename_i e _
      rcases shp_cases (alike_h h) with ⟨R, R', h1, h2, h3⟩ | ⟨h1, h2⟩
      · rw [h1, h2]; simp only [h3]
      · cases k1 : H[r]? with
        | none => cases k2 : H'[r]? with
          | none => rfl
          | some y => cases y with
            | none => rfl
            | some R => exact absurd k2 (h2 R)
        | some x => cases x with
          | some R => exact absurd k1 (h1 R)
          | none => cases k2 : H'[r]? with
            | none => rfl
            | some y => cases y with
              | none => rfl
              | some R => exact absurd k2 (h2 R)
    · rfl
  · rfl

theorem qslice3_alike {t : TypeId} {lo hi mx : Option D} {d : D} (h : Alike H H' d) : qslice3 P H t lo hi mx d = qslice3 P H' t lo hi mx d := by
  unfold qslice3
  split
  · split
    · split
      · rfl
      · rw [alike_hl h]
      · rfl
    · rfl
  · rfl

theorem qlen_alike {t : TypeId} {d : D} (h : Alike H H' d) : qlen P H t d = qlen P H' t d := by
  unfold qlen
  split
  · rfl
  · rfl
  · rw [alike_hl h]
  · rfl
  · rfl

theorem qeq_alike {t : TypeId} {a b : D} (ha : Alike H H' a) (hb : Alike H H' b) : qeq P H t a b = qeq P H' t a b := by
  unfold qeq
  split
  · rfl
  · split <;> first | rfl | rw [alike_p ha] | rw [alike_p hb]
  · rfl
  · rfl
  · rfl

theorem qbin_alike {op : BinOp} {t : TypeId} {a b : D} (ha : Alike H H' a) (hb : Alike H H' b) : qbin P H op t a b = qbin P H' op t a b := by
  unfold qbin
  split
  · rfl
  · rfl
  · rfl
  · split
    · rw [qeq_alike ha hb]
    · rfl

theorem st_alike {c : C} (h : ∀ r, c.no r = false → shp H[r]? = shp H'[r]?) : c.st H = c.st H' := by
  cases c <;> simp only [C.st]
  case h r lo len => rw [liveR_shp, liveR_shp, h r (by simp [C.no])]
  case p r e c => rw [liveR_shp, liveR_shp, h r (by simp [C.no])]

theorem sts_alike : ∀ {cs : List C}, (∀ r, C.nos r cs = false → shp H[r]? = shp H'[r]?) → cs.all (C.st H) = cs.all (C.st H')
  | [], _ => rfl
  | c :: cs, h => by
    rw [List.all_cons, List.all_cons, st_alike (H := H) (H' := H') fun r hr => h r (by simp [C.nos, hr]), sts_alike fun r hr => h r (by simp [C.nos, hr])]

theorem cells_alike {d : D} {cs : List C} (h : Alike H H' d) (hc : d.cells = some cs) : cs.all (C.st H) = cs.all (C.st H') := by
  cases d <;> simp only [D.cells, Option.some.injEq, reduceCtorEq] at hc
  · subst hc; exact sts_alike fun r hr => h r (by simp only [C.nos, Bool.and_true] at hr; simpa [D.no] using hr)
  · subst hc; exact sts_alike fun r hr => h r (by simpa [D.no] using hr)

theorem partsA_alike {ρ ρ' : Operand → Option D} : ∀ {ps : List (Nat × Operand)}, (∀ x ∈ ps.map (·.2), ρ x = ρ' x ∧ ∀ d, ρ x = some d → Alike H H' d) → partsA ρ H ps = partsA ρ' H' ps
  | [], _ => rfl
  | (i, x) :: ps, h => by
    simp only [partsA]
    rw [partsA_alike (ps := ps) fun y hy => h y (by simp at hy ⊢; exact .inr hy)]
    obtain ⟨h1, h2⟩ := h x (by simp)
    rw [← h1]
    cases hx : ρ x with
    | none => rfl
    | some d =>
      simp only [Option.bind_some]
      cases hc : d.cells with
      | none => rfl
      | some cs => cases partsA ρ' H' ps with
        | none => rfl
        | some l => simp only; rw [cells_alike (h2 d hx) hc]

theorem omap_congr {ρ ρ' : Operand → Option D} {x : Option Operand} (h : ∀ y, x = some y → ρ y = ρ' y) : omap ρ x = omap ρ' x := by
  cases x with
  | none => rfl
  | some y => simp [omap, h y rfl]

theorem bind_alike {x y : Option D} {f g : D → Option D} (h : x = y) (hf : ∀ d, x = some d → f d = g d) : x.bind f = y.bind g := by
  subst h
  cases x with
  | none => rfl
  | some d => exact hf d rfl

/-- What a quiet operation gives depends on its operands and the shapes of the roots that they name. -/
theorem act_F {A A' : St} {op : Op} (hc : cl P Φ op = .F) (hev : ∀ x ∈ op.operands.toList, A.ev x = A'.ev x) (hH : ∀ x ∈ op.operands.toList, ∀ d, A.ev x = some d → Alike A.H A'.H d) :
    ∃ o : Option D, act P Φ A op = o.map (fun d => (d, A.H)) ∧ act P Φ A' op = o.map (fun d => (d, A'.H)) := by
  unfold cl at hc
  split at hc <;> try (first | cases hc | skip)
  all_goals simp only [act, qev]
  all_goals try (simp only [Op.operands] at hev hH)
  · exact ⟨_, rfl, by rw [hev _ (by simp)]⟩
  · exact ⟨_, rfl, by rw [hev _ (by simp)]⟩
  · rename_i c x y
    exact ⟨_, rfl, by rw [hev c (by simp), hev x (by simp), hev y (by simp)]⟩
  · exact ⟨_, rfl, congrArg _ (bind_alike (hev _ (by simp)).symm fun d hd => (qnil_alike (hH _ (by simp) d ((hev _ (by simp)).trans hd))).symm)⟩
  · rename_i op t x y ty
    refine ⟨_, rfl, ?_⟩
    rw [← hev x (by simp), ← hev y (by simp)]
    cases hx : A.ev x with
    | none => rfl
    | some d => cases hy : A.ev y with
      | none => rfl
      | some e => simp only; rw [qbin_alike (hH x (by simp) d hx) (hH y (by simp) e hy)]
  · exact ⟨_, rfl, by rw [hev _ (by simp)]⟩
  · exact ⟨_, rfl, congrArg _ (bind_alike (hev _ (by simp)).symm fun d hd => (qfieldAddr_alike (hH _ (by simp) d ((hev _ (by simp)).trans hd))).symm)⟩
  · exact ⟨_, rfl, by rw [hev _ (by simp)]⟩
  · rename_i t x i
    refine ⟨_, rfl, ?_⟩
    rw [← hev x (by simp), ← hev i (by simp)]
    cases hx : A.ev x with
    | none => rfl
    | some d => cases hy : (A.ev i).bind D.int with
      | none => rfl
      | some e => simp only; rw [qindexAddr_alike (hH x (by simp) d hx)]
  · rename_i t x i
    exact ⟨_, rfl, by rw [← hev x (by simp), ← hev i (by simp)]⟩
  · rename_i t x lo hi mx
    cases mx with
    | none =>
      refine ⟨_, rfl, congrArg _ ?_⟩
      have e1 : omap A'.ev lo = omap A.ev lo := omap_congr fun y hy => (hev y (by subst hy; simp)).symm
      have e2 : omap A'.ev hi = omap A.ev hi := omap_congr fun y hy => (hev y (by subst hy; simp)).symm
      simp only [e1, e2]
      exact bind_alike (hev _ (by simp)).symm fun d hd => (qslice_alike (hH _ (by simp) d ((hev _ (by simp)).trans hd))).symm
    | some mx =>
      cases lo with
      | none => exact ⟨none, rfl, rfl⟩
      | some lo =>
        cases hi with
        | none => exact ⟨none, rfl, rfl⟩
        | some hi =>
          refine ⟨_, rfl, congrArg _ ?_⟩
          simp only [← hev lo (by simp), ← hev hi (by simp), ← hev mx (by simp)]
          exact bind_alike (hev _ (by simp)).symm fun d hd => (qslice3_alike (hH _ (by simp) d ((hev _ (by simp)).trans hd))).symm
  · exact ⟨_, rfl, by rw [hev _ (by simp)]⟩
  · rename_i t ps
    refine ⟨_, rfl, congrArg _ ?_⟩
    unfold buildA
    rw [partsA_alike (ρ := A.ev) (ρ' := A'.ev) (H := A.H) (H' := A'.H) fun x hx => ⟨hev x (by simpa using hx), hH x (by simpa using hx)⟩]
  · split at hc
    · exact ⟨_, rfl, by rw [hev _ (by simp)]⟩
    · cases hc
  · rename_i c
    have hargs : ∀ x ∈ c.args.toList, A.ev x = A'.ev x := fun x hx => hev x (by simp [Call.operands, hx])
    have hargs' : ∀ x ∈ c.args.toList, ∀ d, A.ev x = some d → Alike A.H A'.H d := fun x hx => hH x (by simp [Call.operands, hx])
    split at hc
    · rename_i h
      simp only [qbuiltin, h]
      split
      · rename_i x t h1 h2
        exact ⟨_, rfl, congrArg _ (bind_alike (hargs x (by simp [h1])).symm fun d hd => (qlen_alike (hargs' x (by simp [h1]) d ((hargs x (by simp [h1])).trans hd))).symm)⟩
      · exact ⟨none, rfl, rfl⟩
    · rename_i h
      simp only [qbuiltin, h]
      split
      · rename_i x y h1
        exact ⟨_, rfl, by rw [hargs x (by simp [h1]), hargs y (by simp [h1])]⟩
      · exact ⟨none, rfl, rfl⟩
    · rename_i h
      simp only [qbuiltin, h]
      split
      · rename_i x y h1
        exact ⟨_, rfl, by rw [hargs x (by simp [h1]), hargs y (by simp [h1])]⟩
      · exact ⟨none, rfl, rfl⟩
    · split at hc <;> cases hc
    · cases hc

theorem act_L {A A' : St} {op : Op} (hc : cl P Φ op = .L) (hev : ∀ x ∈ op.operands.toList, A.ev x = A'.ev x) (hH : ∀ x ∈ op.operands.toList, ∀ d, A.ev x = some d → ∀ r, d.no r = false → A.H[r]? = A'.H[r]?) :
    ∃ o : Option D, act P Φ A op = o.map (fun d => (d, A.H)) ∧ act P Φ A' op = o.map (fun d => (d, A'.H)) := by
  unfold cl at hc
  split at hc <;> try (first | cases hc | skip)
  · split at hc <;> cases hc
  · rename_i t x
    simp only [act, qev]
    simp only [Op.operands] at hev hH
    refine ⟨_, rfl, congrArg _ (bind_alike (hev _ (by simp)).symm fun d hd => ?_)⟩
    have h1 := hH x (by simp) d ((hev _ (by simp)).trans hd)
    unfold qload
    congr 1
    unfold cellsAt
    split
    · rename_i r e c; rw [h1 r (by simp [D.no, C.no])]
    · rfl
    · rfl
  · split at hc <;> try cases hc
    split at hc <;> cases hc

end
end Go.Dl
