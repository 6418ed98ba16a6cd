/- 'Dl', part V: the state behind a call. -/
import Derived.Test.YtdhlelineoggkaaDlU
namespace Go.Dl
open Go.RowKit

def Obj.ni (o : Obj) : Bool := C.niRows o.rows

section
variable {P : Program} {g : G} {S : Nat → Prop} {E : Env} {F : List (List Nat)} {A : St} {a : Act} {w : World}

theorem niRow_flat : ∀ {rows : List (List C)}, C.niRows rows = true → C.niRow rows.flatten = true
  | [], _ => rfl
  | r :: rs, h => by
    simp only [C.niRows, Bool.and_eq_true] at h
    have app : ∀ (xs ys : List C), C.niRow xs = true → C.niRow ys = true → C.niRow (xs ++ ys) = true := by
      intro xs ys
      induction xs with
      | nil => intro _ h; exact h
      | cons y xs ih =>
        intro h1 h2
        simp only [C.niRow, Bool.and_eq_true, List.cons_append] at *
        exact ⟨h1.1, ih h1.2 h2⟩
    exact app _ _ h.1 (niRow_flat h.2)

theorem RepO1.mono {w : World} {S S' : Nat → Prop} {d : D} {v : Value} {fp : List Nat} (h : RepO1 w S d v fp) (hS : (∀ b, S b → S' b) ∨ d.ni1 = true) : RepO1 w S' d v fp := by
  cases d with
  | c y =>
    rcases hS with hS | hS
    · exact Rep.mono h hS (.refl _ _) (fun _ _ => rfl)
    · exact Rep.ni h hS
  | agg xs =>
    obtain ⟨arr, rfl, h⟩ := h
    rcases hS with hS | hS
    · exact ⟨arr, rfl, h.mono hS (.refl _ _) (fun _ _ => rfl)⟩
    · exact ⟨arr, rfl, h.ni hS⟩
  | top => exact h
  | q xs => exact h
  | t ds => exact h

theorem RepO.mono {w : World} {S S' : Nat → Prop} {d : D} {v : Value} {fp : List Nat} (h : RepO w S d v fp) (hS : (∀ b, S b → S' b) ∨ d.ni = true) : RepO w S' d v fp := by
  cases d with
  | t ds =>
    obtain ⟨arr, fps, h0, h1, h2, h3, h4⟩ := h
    refine ⟨arr, fps, h0, h1, h2, h3, fun i d' f hd hf => (h4 i d' f hd hf).mono ?_⟩
    rcases hS with hS | hS
    · exact .inl hS
    · exact .inr (List.all_eq_true.1 hS d' (List.mem_of_getElem? hd))
  | c y => exact RepO1.mono (d := .c y) h hS
  | agg xs => exact RepO1.mono (d := .agg xs) h hS
  | top => exact h
  | q xs => exact h

theorem flat_setAll {F : List (List Nat)} {ρ : List Nat} {fs : List (List Nat)} (hn : ρ.Nodup) (hl : ρ.length = fs.length) (hlt : ∀ r ∈ ρ, r < F.length) {b : Nat} :
    b ∈ (setAll F ρ fs).flatten → (b ∈ fs.flatten) ∨ ∃ r f, r ∉ ρ ∧ F[r]? = some f ∧ b ∈ f := by
  intro h
  obtain ⟨f, h1, h2⟩ := List.mem_flatten.1 h
  obtain ⟨r, hr, rfl⟩ := List.getElem_of_mem h1
  by_cases hm : r ∈ ρ
  · obtain ⟨i, hi⟩ := List.getElem?_of_mem hm
    have hi' := lt_len hi
    have := setAll_in ρ fs F hn hlt i r (fs[i]'(by omega)) hi (List.getElem?_eq_getElem _)
    rw [List.getElem?_eq_getElem hr] at this
    simp at this
    exact .inl (List.mem_flatten.2 ⟨fs[i]'(by omega), List.getElem_mem _, by rw [← this]; exact h2⟩)
  · have := setAll_out ρ fs F hm
    rw [List.getElem?_eq_getElem hr] at this
    exact .inr ⟨r, _, hm, this.symm, h2⟩

/-- Lists without a common element, each without a repetition. -/
theorem nodup_flat : ∀ {L : List (List Nat)}, (∀ f ∈ L, f.Nodup) → (∀ (i j : Nat) (f f' : List Nat) (x : Nat), L[i]? = some f → L[j]? = some f' → x ∈ f → x ∈ f' → i = j) → L.flatten.Nodup
  | [], _, _ => by simp
  | f :: L, h1, h2 => by
    rw [List.flatten_cons, List.nodup_append]
    refine ⟨h1 f (List.mem_cons_self ..), nodup_flat (fun f hf => h1 f (List.mem_cons_of_mem _ hf)) (fun i j f f' x hi hj hx hx' => ?_), ?_⟩
    · have := h2 (i + 1) (j + 1) f f' x (by simpa using hi) (by simpa using hj) hx hx'
      omega
    · intro x hx y hy hxy
      subst hxy
      obtain ⟨f', k1, k2⟩ := List.mem_flatten.1 hy
      obtain ⟨j, hj⟩ := List.getElem?_of_mem k1
      have := h2 0 (j + 1) f f' x rfl (by simpa using hj) hx k2
      omega

theorem apart_flat {F : List (List Nat)} (hn : F.flatten.Nodup) {r r' : Nat} {f f' : List Nat} {x : Nat} (h : F[r]? = some f) (h' : F[r']? = some f') (hx : x ∈ f) (hx' : x ∈ f') : r = r' := by
  rcases Nat.lt_trichotomy r r' with hlt | heq | hgt
  · exfalso
    have : x ∈ (F.take r').flatten := List.mem_flatten.2 ⟨f, List.mem_of_getElem? (by rw [List.getElem?_take, if_pos hlt]; exact h), hx⟩
    have e : F.flatten = (F.take r').flatten ++ (F.drop r').flatten := by rw [← List.flatten_append, List.take_append_drop]
    rw [e, List.nodup_append] at hn
    have hm : x ∈ (F.drop r').flatten := List.mem_flatten.2 ⟨f', List.mem_of_getElem? (i := 0) (by rw [List.getElem?_drop]; simpa using h'), hx'⟩
    exact hn.2.2 x this x hm rfl
  · exact heq
  · exfalso
    have : x ∈ (F.take r).flatten := List.mem_flatten.2 ⟨f', List.mem_of_getElem? (by rw [List.getElem?_take, if_pos hgt]; exact h'), hx'⟩
    have e : F.flatten = (F.take r).flatten ++ (F.drop r).flatten := by rw [← List.flatten_append, List.take_append_drop]
    rw [e, List.nodup_append] at hn
    have hm : x ∈ (F.drop r).flatten := List.mem_flatten.2 ⟨f, List.mem_of_getElem? (i := 0) (by rw [List.getElem?_drop]; simpa using h), hx⟩
    exact hn.2.2 x this x hm rfl

theorem Rel.afterCall {w' : World} (hr : Rel g S E F A a w) {ρ B : List Nat} {objs objs' : List Obj} {pls : List Pl} {fps : List (List Nat)} {v : Value} {d : D} (hρn : ρ.Nodup) (hobjs : objsAt A.H ρ = some objs)
    (hlen : pls.length = ρ.length ∧ fps.length = ρ.length) (hpls : ∀ (i r : Nat), ρ[i]? = some r → ∃ p f, E[r]? = some (some p) ∧ F[r]? = some f ∧ pls[i]? = some p ∧ fps[i]? = some f)
    (hBρ : ∀ r ∈ B, r ∉ ρ) (hl : objs'.length = objs.length) (left : Left w w' (fun b => S b ∨ Lent F B b) pls fps d v objs') (hni : B = [] ∨ (d.ni = true ∧ ∀ o ∈ objs', Obj.ni o = true)) :
    ∃ S'' E'' F'', Rel g S'' E'' F'' { A with H := (settle (setObjs A.H ρ objs') d).2 } a w' ∧ RepD w' S'' E'' (settle (setObjs A.H ρ objs') d).1 v := by
  obtain ⟨S', pls', fps', fpd, l1, l2, l3, l4, l5, l6, l7⟩ := left.rest
  obtain ⟨m1, m2, m3⟩ := l4
  obtain ⟨ob1, ob2⟩ := objsAt_spec hobjs
  have hρH : ∀ r ∈ ρ, ∃ R, A.H[r]? = some (some R) := by
    intro r hrm
    obtain ⟨i, hi⟩ := List.getElem?_of_mem hrm
    have hi' := lt_len hi
    obtain ⟨r', R, e1, e2, _⟩ := ob2 i (objs[i]'(by omega)) (List.getElem?_eq_getElem _)
    rw [hi] at e1; cases e1
    exact ⟨R, e2⟩
  have hρlt : ∀ r ∈ ρ, r < A.H.length := fun r hrm => by obtain ⟨R, hR⟩ := hρH r hrm; exact lt_len hR
  obtain ⟨s1, s2, s3⟩ := setObjs_eq (H := A.H) (ρ := ρ) (objs := objs') (by omega) hρn hρH
  have hlp : ρ.length = (pls'.map some).length := by simp; omega
  have hlf : ρ.length = fps'.length := by omega
  -- the memory that stays
  have hSS : ∀ b, S b → S' b ∧ ¬ Lent F B b := by
    intro b hb
    refine ⟨l1 b (.inl hb), ?_⟩
    rintro ⟨r, _, f, h1, h2⟩
    exact hr.fS b (flat_get h1 b h2) hb
  have hfpsF : ∀ b, b ∈ fps.flatten → b ∈ F.flatten := by
    intro b hb
    obtain ⟨f, h1, h2⟩ := List.mem_flatten.1 hb
    obtain ⟨i, hi⟩ := List.getElem?_of_mem h1
    have hi' := lt_len hi
    obtain ⟨p, f', e1, e2, e3, e4⟩ := hpls i (ρ[i]'(by omega)) (List.getElem?_eq_getElem _)
    rw [hi] at e4; cases e4
    exact flat_get e2 b h2
  have hfpsρ : ∀ {b r : Nat} {f : List Nat}, b ∈ fps.flatten → F[r]? = some f → b ∈ f → r ∈ ρ := by
    intro b r f hb hF hbf
    obtain ⟨f', h1, h2⟩ := List.mem_flatten.1 hb
    obtain ⟨i, hi⟩ := List.getElem?_of_mem h1
    have hi' := lt_len hi
    obtain ⟨p, f2, e1, e2, e3, e4⟩ := hpls i (ρ[i]'(by omega)) (List.getElem?_eq_getElem _)
    rw [hi] at e4; cases e4
    have := apart hr hF e2 hbf h2
    subst this
    exact List.getElem_mem _
  have hkeepS : ∀ b, S b → w'.heap[b]? = w.heap[b]? := fun b hb => left.keep b (hr.Ssz b hb).1 (fun h => hr.fS b (hfpsF b h) hb)
  have hkeepF : ∀ {r : Nat} {f : List Nat} {b : Nat}, r ∉ ρ → F[r]? = some f → b ∈ f → w'.heap[b]? = w.heap[b]? :=
    fun hrm hF hb => left.keep _ (hr.fsz _ (flat_get hF _ hb)).1 (fun h => hrm (hfpsρ h hF hb))
  have hE : EnvLe E (setAll E ρ (pls'.map some)) (fun _ => false) := by
    refine ⟨by rw [setAll_len]; exact Nat.le_refl _, fun r hrl _ q hq => ?_⟩
    by_cases hm : r ∈ ρ
    · obtain ⟨i, hi⟩ := List.getElem?_of_mem hm
      have hi' := lt_len hi
      obtain ⟨p, f, e1, e2, e3, e4⟩ := hpls i r hi
      have := setAll_in ρ (pls'.map some) E hρn (fun r hr' => by rw [hr.lE]; exact hρlt r hr') i r (some (pls'[i]'(by omega))) hi (by simp)
      rw [this] at hq
      cases hq
      exact ⟨p, e1, l7 i p _ e3 (List.getElem?_eq_getElem _)⟩
    · rw [setAll_out ρ _ E hm] at hq
      exact ⟨q, hq, q.le_refl⟩
  have hEok : ∀ ok : Nat → Bool, EnvLe E (setAll E ρ (pls'.map some)) ok := fun ok => ⟨hE.1, fun i hi _ q hq => hE.2 i hi rfl q hq⟩
  have hfps'old : ∀ b, b ∈ fps'.flatten → b ∈ fps.flatten ∨ w.heap.size ≤ b := fun b hb => (l6 b (List.mem_append_right _ hb)).2.2
  have hB0 : B = [] → ∀ b, ¬ Lent F B b := by
    rintro rfl b ⟨r, h, _⟩; cases h
  have hrel : Rel g (fun b => S' b ∧ ¬ Lent F B b) (setAll E ρ (pls'.map some)) (setAll F ρ fps') { A with H := setObjs A.H ρ objs' } a w' := by
    refine { len := hr.len, sl := ?_, defers := hr.defers, lE := by rw [setAll_len, s1]; exact hr.lE, lF := by rw [setAll_len, s1]; exact hr.lF, root := ?_, dead := ?_, nodup := ?_, fS := ?_, fsz := ?_, Ssz := ?_, S0 := fun b hb => hSS b (hr.S0 b hb), prot := ?_, size := Nat.le_trans hr.size left.size, os := left.os.trans hr.os, tape := left.tape.trans hr.tape, output := left.output.trans hr.output, fix := ?_ }
    · intro t d' hd
      exact (hr.sl t d' hd).mono hSS (hEok _) hkeepS
    · intro r R' hR'
      by_cases hm : r ∈ ρ
      · obtain ⟨i, hi⟩ := List.getElem?_of_mem hm
        have hi' := lt_len hi
        obtain ⟨R, e1, e2⟩ := s3 i r (objs'[i]'(by omega)) hi (List.getElem?_eq_getElem _)
        rw [e2] at hR'
        cases hR'
        obtain ⟨r2, R2, f1, f2, f3, f4⟩ := ob2 i (objs[i]'(by omega)) (List.getElem?_eq_getElem _)
        rw [hi] at f1; cases f1
        rw [e1] at f2; cases f2
        obtain ⟨p', f', k1, k2, k3⟩ := m3 i (objs'[i]'(by omega)) (List.getElem?_eq_getElem _)
        refine ⟨p', f', setAll_in ρ _ E hρn (fun r hr' => by rw [hr.lE]; exact hρlt r hr') i r (some p') hi (by rw [List.getElem?_map, k1]; rfl), setAll_in ρ fps' F hρn (fun r hr' => by rw [hr.lF]; exact hρlt r hr') i r f' hi k2, ?_⟩
        obtain ⟨g1, g2, g3, g4, g5⟩ := k3
        have hes : (objs'[i]'(by omega)).es = R.es := by
          obtain ⟨p, f, q1, q2, q3, q4⟩ := hpls i r hi
          have hle := l7 i p p' q3 k1
          obtain ⟨p0, f0, t1, t2, t3⟩ := hr.root r R e1
          rw [q1] at t1; cases t1
          have g1' : p'.es = (objs'[i]'(by omega)).es := g1
          rw [← g1', hle.2.1, t3.1]
        refine ⟨g1.trans hes, g2, g3, fun row hrow => (g4 row hrow).trans hes, ?_⟩
        cases hat : p'.at? with
        | none => rw [hat] at g5; exact g5
        | some bo =>
          obtain ⟨b, off⟩ := bo
          rw [hat] at g5
          obtain ⟨fr, u1, u2, u3⟩ := g5
          refine ⟨fr, u1, by show OwnBlock w' b (off + p'.m * R.es); rw [← hes]; exact u2, ?_⟩
          have u4 : Rep w' (fun b => S' b ∧ ¬ Lent F B b) [] (.l true (objs'[i]'(by omega)).rows.flatten b off) fr := by
            rcases hni with h0 | h0
            · exact u3.mono (fun b hb => ⟨hb, hB0 h0 b⟩) (.refl _ _) (fun _ _ => rfl)
            · exact u3.ni (niRow_flat (h0.2 _ (List.getElem_mem _)))
          have u5 := u4.noenv (E' := setAll E ρ (pls'.map some)) rfl
          cases hdat : R.dat with
          | true => exact u5
          | false =>
            have : ∀ {cs : List C} {off : Nat} {fp : List Nat} {b : Nat}, Rep w' (fun b => S' b ∧ ¬ Lent F B b) (setAll E ρ (pls'.map some)) (.l true cs b off) fp → Rep w' (fun b => S' b ∧ ¬ Lent F B b) (setAll E ρ (pls'.map some)) (.l false cs b off) fp := by
              intro cs
              induction cs with
              | nil => intro off fp b h; cases h; exact .lnil
              | cons c cs ih =>
                intro off fp b h
                cases h with
                | lcons hv h1 h2 => exact .lcons hv h1.undat (ih h2)
            exact this u5
      · have hR := hR'
        rw [s2 r hm] at hR
        obtain ⟨p, f, k1, k2, k3⟩ := hr.root r R' hR
        refine ⟨p, f, by rw [setAll_out ρ _ E hm]; exact k1, by rw [setAll_out ρ _ F hm]; exact k2, k3.mono hSS (hEok _) ?_⟩
        intro b hb
        rcases hb with hb | hb
        · exact hkeepS b hb
        · exact hkeepF hm k2 hb
    · intro r hR'
      by_cases hm : r ∈ ρ
      · obtain ⟨i, hi⟩ := List.getElem?_of_mem hm
        have hi' := lt_len hi
        obtain ⟨R, e1, e2⟩ := s3 i r (objs'[i]'(by omega)) hi (List.getElem?_eq_getElem _)
        rw [e2] at hR'; cases hR'
      · have hR := hR'
        rw [s2 r hm] at hR
        obtain ⟨k1, k2⟩ := hr.dead r hR
        exact ⟨by rw [setAll_out ρ _ E hm]; exact k1, by rw [setAll_out ρ _ F hm]; exact k2⟩
    · have l5' := (List.nodup_append.1 l5).2.1
      refine nodup_flat ?_ ?_
      · intro f hf
        obtain ⟨r, hrl, rfl⟩ := List.getElem_of_mem hf
        by_cases hm : r ∈ ρ
        · obtain ⟨i, hi⟩ := List.getElem?_of_mem hm
          have hi' := lt_len hi
          have := setAll_in ρ fps' F hρn (fun r hr' => by rw [hr.lF]; exact hρlt r hr') i r (fps'[i]'(by omega)) hi (List.getElem?_eq_getElem _)
          rw [List.getElem?_eq_getElem hrl] at this
          simp at this
          rw [this]
          exact nodup_at l5' (List.getElem?_eq_getElem (by omega))
        · have := setAll_out ρ fps' F hm
          rw [List.getElem?_eq_getElem hrl] at this
          exact nodup_at hr.nodup this.symm
      · intro i j f f' x hi hj hx hx'
        by_cases hmi : i ∈ ρ
        · obtain ⟨i1, hi1⟩ := List.getElem?_of_mem hmi
          have hi1' := lt_len hi1
          have e1 := setAll_in ρ fps' F hρn (fun r hr' => by rw [hr.lF]; exact hρlt r hr') i1 i (fps'[i1]'(by omega)) hi1 (List.getElem?_eq_getElem _)
          rw [hi] at e1
          cases e1
          by_cases hmj : j ∈ ρ
          · obtain ⟨j1, hj1⟩ := List.getElem?_of_mem hmj
            have hj1' := lt_len hj1
            have e2 := setAll_in ρ fps' F hρn (fun r hr' => by rw [hr.lF]; exact hρlt r hr') j1 j (fps'[j1]'(by omega)) hj1 (List.getElem?_eq_getElem _)
            rw [hj] at e2
            cases e2
            have := apart_flat l5' (List.getElem?_eq_getElem (by omega)) (List.getElem?_eq_getElem (by omega)) hx hx'
            subst this
            rw [hi1] at hj1; cases hj1; rfl
          · rw [setAll_out ρ _ F hmj] at hj
            exfalso
            have hxf : x ∈ fps'.flatten := List.mem_flatten.2 ⟨_, List.getElem_mem (by omega), hx⟩
            rcases hfps'old x hxf with h | h
            · exact hmj (hfpsρ h hj hx')
            · have := (hr.fsz x (flat_get hj x hx')).1; omega
        · rw [setAll_out ρ _ F hmi] at hi
          by_cases hmj : j ∈ ρ
          · obtain ⟨j1, hj1⟩ := List.getElem?_of_mem hmj
            have hj1' := lt_len hj1
            have e2 := setAll_in ρ fps' F hρn (fun r hr' => by rw [hr.lF]; exact hρlt r hr') j1 j (fps'[j1]'(by omega)) hj1 (List.getElem?_eq_getElem _)
            rw [hj] at e2
            cases e2
            exfalso
            have hxf : x ∈ fps'.flatten := List.mem_flatten.2 ⟨_, List.getElem_mem (by omega), hx'⟩
            rcases hfps'old x hxf with h | h
            · exact hmi (hfpsρ h hi hx)
            · have := (hr.fsz x (flat_get hi x hx)).1; omega
          · rw [setAll_out ρ _ F hmj] at hj
            exact apart hr hi hj hx hx'
    · intro b hb hS
      rcases flat_setAll hρn hlf (fun r hr' => by rw [hr.lF]; exact hρlt r hr') hb with h | ⟨r, f, hm, h1, h2⟩
      · exact (l6 b (List.mem_append_right _ h)).1 hS.1
      · have hbF := flat_get h1 b h2
        rcases (l2 b hS.1).2 with (h | h) | h | h
        · exact hr.fS b hbF h
        · exact hS.2 h
        · exact hm (hfpsρ h h1 h2)
        · have := (hr.fsz b hbF).1; omega
    · intro b hb
      rcases flat_setAll hρn hlf (fun r hr' => by rw [hr.lF]; exact hρlt r hr') hb with h | ⟨r, f, hm, h1, h2⟩
      · obtain ⟨_, k2, k3⟩ := l6 b (List.mem_append_right _ h)
        refine ⟨k2, ?_⟩
        rcases k3 with k3 | k3
        · exact (hr.fsz b (hfpsF b k3)).2
        · exact .inr (Nat.le_trans hr.size k3)
      · have hbF := flat_get h1 b h2
        exact ⟨Nat.lt_of_lt_of_le (hr.fsz b hbF).1 left.size, (hr.fsz b hbF).2⟩
    · intro b hb
      obtain ⟨k1, k2⟩ := l2 b hb.1
      refine ⟨k1, ?_⟩
      rcases k2 with (k2 | k2) | k2 | k2
      · exact (hr.Ssz b k2).2
      · exact absurd k2 hb.2
      · exact .inr (hr.fsz b (hfpsF b k2)).2
      · exact .inr (.inr (Nat.le_trans hr.size k2))
    · intro b h1 h2
      rw [left.keep b (Nat.lt_of_lt_of_le h1 hr.size) ?_]
      · exact hr.prot b h1 h2
      · intro h
        rcases (hr.fsz b (hfpsF b h)).2 with k | k
        · exact h2 k
        · omega
    · intro r q hq
      obtain ⟨h1, h2⟩ := hr.fix r q hq
      refine ⟨by show r < (setObjs A.H ρ objs').length; rw [s1]; exact h1, fun R' hR' => ?_⟩
      by_cases hm : r ∈ ρ
      · obtain ⟨i, hi⟩ := List.getElem?_of_mem hm
        have hi' := lt_len hi
        obtain ⟨R, e1, e2⟩ := s3 i r (objs'[i]'(by omega)) hi (List.getElem?_eq_getElem _)
        rw [e2] at hR'
        cases hR'
        obtain ⟨k1, k2⟩ := h2 R e1
        refine ⟨k1, fun p1 hp1 => ?_⟩
        obtain ⟨p, f, q1, q2, q3, q4⟩ := hpls i r hi
        have := setAll_in ρ (pls'.map some) E hρn (fun r hr' => by rw [hr.lE]; exact hρlt r hr') i r (some (pls'[i]'(by omega))) hi (by simp)
        rw [this] at hp1
        cases hp1
        exact (k2 p q1).trans (l7 i p _ q3 (List.getElem?_eq_getElem _))
      · have hR := hR'
        rw [s2 r hm] at hR
        obtain ⟨k1, k2⟩ := h2 R' hR
        exact ⟨k1, fun p1 hp1 => k2 p1 (by rwa [setAll_out ρ _ E hm] at hp1)⟩
  have hnew : New g (fun b => S' b ∧ ¬ Lent F B b) (setAll F ρ fps') w' fpd := by
    refine ⟨(List.nodup_append.1 l5).1, fun b hb => ?_⟩
    obtain ⟨k1, k2, k3⟩ := l6 b (List.mem_append_left _ hb)
    refine ⟨?_, fun h => k1 h.1, k2, ?_⟩
    · intro hh
      rcases flat_setAll hρn hlf (fun r hr' => by rw [hr.lF]; exact hρlt r hr') hh with h | ⟨r, f, hm, h1, h2⟩
      · exact (List.nodup_append.1 l5).2.2 b hb b h rfl
      · rcases k3 with k3 | k3
        · exact hm (hfpsρ k3 h1 h2)
        · have := (hr.fsz b (flat_get h1 b h2)).1; omega
    · rcases k3 with k3 | k3
      · exact (hr.fsz b (hfpsF b k3)).2
      · exact .inr (Nat.le_trans hr.size k3)
  obtain ⟨E2, F2, r1, r2, _, _⟩ := settle_sound hrel (d := d) (v := v) (l3.mono (by
    rcases hni with h0 | h0
    · exact .inl fun b hb => ⟨hb, hB0 h0 b⟩
    · exact .inr h0.1)) hnew
  exact ⟨_, E2, F2, r1, r2⟩

end
end Go.Dl
