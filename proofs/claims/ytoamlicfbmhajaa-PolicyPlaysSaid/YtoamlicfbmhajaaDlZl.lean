/- 'Dl', part Zl: a call that is handed a function with what it captured; own rows that stay from then on; an own slice cut short. -/
import Derived.Test.YtoamlicfbmhajaaDlZk
namespace Go.Dl
open Go.RowKit

/-- A result that nobody will change. -/
def D.frz : D → D
  | .c (.s true es rows) => if (rows.all fun row => row.all C.cp) = true then .c (.s false es rows) else .c (.s true es rows)
  | d => d

theorem rows_cp {rows : List (List C)} (h : (rows.all fun row => row.all C.cp) = true) : rows.flatten.all C.cp = true := by
  rw [List.all_eq_true]
  intro c hcm
  obtain ⟨row, hrow, hcr⟩ := List.mem_flatten.1 hcm
  exact List.all_eq_true.1 (List.all_eq_true.1 h row hrow) c hcr

theorem left_frz {w w' : World} {S : Nat → Prop} {pls : List Pl} {fps : List (List Nat)} {d : D} {v : Value} {objs' : List Obj} (h : Left w w' S pls fps d v objs') : Left w w' S pls fps d.frz v objs' := by
  unfold D.frz
  split
  · rename_i es rows
    split
    · rename_i hc
      refine ⟨h.size, h.keep, h.os, h.tape, h.output, ?_⟩
      obtain ⟨S', pls', fps', fpd, l1, l2, l3, l4, l5, l6, l7⟩ := h.rest
      have l3' : Rep w' S' [] (.k false (.s true es rows) v) fpd := l3
      cases l3' with
      | nilO => exact ⟨S', pls', fps', [], l1, l2, .nilI, l4, l5, l6, l7⟩
      | own hz hb hc' hl hr =>
        rename_i b off cap fp
        have hfp := cells_cp hr (rows_cp hc)
        subst hfp
        have hb6 := l6 b (by simp)
        refine ⟨fun x => S' x ∨ x = b, pls', fps', [], fun x hx => .inl (l1 x hx), fun x hx => ?_, ?_, ?_, ?_, ?_, l7⟩
        · rcases hx with hx | rfl
          · exact l2 x hx
          · exact ⟨hb6.2.1, .inr hb6.2.2⟩
        · exact .imm (.inr rfl) hc' hl (hr.mono (fun _ h => .inl h) (.refl _ _) (fun _ _ => rfl))
        · obtain ⟨m1, m2, m3⟩ := l4
          refine ⟨m1, m2, fun i ob hob => ?_⟩
          obtain ⟨p, f, k1, k2, k3⟩ := m3 i ob hob
          exact ⟨p, f, k1, k2, k3.mono (fun _ h => .inl h) (.refl _ _) (fun _ _ => rfl)⟩
        · simpa using (List.nodup_append.1 l5).2.1
        · intro x hx
          have hx' : x ∈ fps'.flatten := by simpa using hx
          obtain ⟨q1, q2, q3⟩ := l6 x (List.mem_append_right _ hx')
          refine ⟨?_, q2, q3⟩
          rintro (h | rfl)
          · exact q1 h
          · exact (List.nodup_append.1 l5).2.2 x (by simp) x hx' rfl
    · exact h
  · exact h

theorem meets_frz {P : Program} {k : FuncId} {spec : Spec} (h : Meets P k spec) : Meets P k (fun args objs Q => spec args objs (fun d os => Q d.frz os)) := by
  intro args objs Q hs w S vs pls fps h1 h2 h3 h4 h5 h6
  refine (h args objs _ hs w S vs pls fps h1 h2 h3 h4 h5 h6).mono ?_
  rintro e w' ⟨v, d, os, e1, hq, hl, left⟩
  exact ⟨v, d.frz, os, e1, hq, hl, left_frz left⟩

theorem meets_frzP {P : Program} {k : FuncId} {f : List D → Option D} (h : Meets P k (pureS f)) : Meets P k (pureS fun a => (f a).map D.frz) := by
  intro args objs Q hs
  refine meets_frz h args objs Q ?_
  obtain ⟨h1, d, h2, h3⟩ := hs
  cases hf : f args with
  | none => simp only [hf] at h2; cases h2
  | some d0 => simp only [hf] at h2; cases h2; exact ⟨h1, d0, hf, h3⟩

theorem meets_frzO {P : Program} {k : FuncId} {f : List D → List Obj → Option (D × List Obj)} (h : Meets P k (detS f)) : Meets P k (detS fun a o => (f a o).map fun r => (r.1.frz, r.2)) := by
  intro args objs Q hs
  refine meets_frz h args objs Q ?_
  obtain ⟨d, os, h2, h3⟩ := hs
  cases hf : f args objs with
  | none => simp only [hf] at h2; cases h2
  | some d0 => simp only [hf] at h2; cases h2; exact ⟨d0.1, d0.2, hf, h3⟩

/-- An argument; a function brings what it captured. -/
def argF (H : List (Option Root)) (ρ : List Nat) : D → Option (D × List Nat)
  | .c (.f k caps) => (argCs H ρ caps).map fun r => (.c (.f k r.1), r.2)
  | d => argD H ρ d

def argFs (H : List (Option Root)) (ρ : List Nat) : List D → Option (List D × List Nat)
  | [] => some ([], [])
  | d :: ds => match argF H ρ d, argFs H ρ ds with
    | some (d', l1), some (ds', l2) => some (d' :: ds', l1 ++ l2)
    | _, _ => none

section
variable {P : Program} {g : G} {S : Nat → Prop} {E : Env} {F : List (List Nat)} {A : St} {a : Act} {w : World}

theorem argF_sound (hr : Rel g S E F A a w) {ρ : List Nat} {pls : List Pl} (hp : ∀ (i r : Nat), ρ[i]? = some r → ∃ p, E[r]? = some (some p) ∧ pls[i]? = some p) {d d' : D} {v : Value} {B Bs : List Nat} (h : RepD w S E d v)
    (ha : argF A.H ρ d = some (d', B)) (hB : ∀ r ∈ B, r ∈ Bs) : RepD w (fun b => S b ∨ Lent F Bs b) (pls.map some) d' v ∧ ∀ r ∈ B, r ∉ ρ := by
  unfold argF at ha
  split at ha
  · rename_i k caps
    cases hc : argCs A.H ρ caps with
    | none => rw [hc] at ha; cases ha
    | some r =>
      rw [hc] at ha; cases ha
      cases h with
      | c h =>
        cases h with
        | f _ hh =>
          obtain ⟨h1, h2⟩ := argCs_sound hr hp hh hc hB
          exact ⟨.c (.f (.inl rfl) h1), h2⟩
  · exact argD_sound hr hp h ha hB

theorem argFs_sound (hr : Rel g S E F A a w) {ρ : List Nat} {pls : List Pl} (hp : ∀ (i r : Nat), ρ[i]? = some r → ∃ p, E[r]? = some (some p) ∧ pls[i]? = some p) : ∀ {ds ds' : List D} {vs : List Value} {B Bs : List Nat}, ds.length = vs.length →
    (∀ (i : Nat) (d : D), ds[i]? = some d → RepD w S E d (vs.getD i undef)) → argFs A.H ρ ds = some (ds', B) → (∀ r ∈ B, r ∈ Bs) →
    (ds'.length = ds.length ∧ ∀ (i : Nat) (d : D), ds'[i]? = some d → RepD w (fun b => S b ∨ Lent F Bs b) (pls.map some) d (vs.getD i undef)) ∧ ∀ r ∈ B, r ∉ ρ
  | [], ds', vs, B, Bs, hl, h, ha, hB => by cases ha; exact ⟨⟨rfl, by simp⟩, by simp⟩
  | d :: ds, ds', vs, B, Bs, hl, h, ha, hB => by
    simp only [argFs] at ha
    split at ha
    · rename_i d1 l1 ds1 l2 h1 h2
      cases ha
      cases vs with
      | nil => simp at hl
      | cons v vs =>
        obtain ⟨q1, q2⟩ := argF_sound hr hp (h 0 d rfl) h1 (fun r hr => hB r (List.mem_append_left _ hr))
        obtain ⟨⟨r0, r1⟩, r2⟩ := argFs_sound hr hp (vs := vs) (by simpa using hl) (fun i d hd => by have := h (i + 1) d (by simpa using hd); simpa using this) h2 (fun r hr => hB r (List.mem_append_right _ hr))
        refine ⟨⟨by simp [r0], fun i d' hd => ?_⟩, fun r hr => ?_⟩
        · cases i with
          | zero => simp at hd; subst hd; simpa using q1
          | succ i => have := r1 i d' (by simpa using hd); simpa using this
        · rcases List.mem_append.1 hr with h | h
          · exact q2 r h
          · exact r2 r h
    · cases ha

theorem step_callF {o : Oper} {c : Call} {A : St} {R : St → Prop} {k : FuncId} {caps : List C} {f : Operand} {ds ds' : List D} {ρ B : List Nat} {objs : List Obj} {spec : Spec} {Q : D → List Obj → Prop}
    (ho : o.op = .call c) (hop : o.op.operands.toList.all opdOK = true) (hc : c.callee = .value f) (hf : A.ev f = some (.c (.f k caps))) (hk : callable P k = true) (hds : evsA A c.args.toList = some ds)
    (harg : argFs A.H ρ (ds ++ caps.map .c) = some (ds', B)) (hρ : ρ.Nodup) (hobjs : objsAt A.H ρ = some objs) (hm : Meets P k spec) (hs : spec ds' objs Q)
    (hR : ∀ d objs', Q d objs' → objs'.length = objs.length → (B = [] ∨ (d.ni = true ∧ ∀ o ∈ objs', Obj.ni o = true)) ∧ R (St.put { A with H := (settle (setObjs A.H ρ objs') d).2 } o.dst (settle (setObjs A.H ρ objs') d).1)) :
    Step P o A R := by
  intro g a w ⟨S, E, F, hr⟩ next Q0 hn
  have hopm : ∀ x ∈ c.args.toList, opdOK x = true := fun x hx => List.all_eq_true.1 hop x (by rw [ho]; simp only [Op.operands, Call.operands, Array.toList_append, List.mem_append]; exact .inr hx)
  have hopf : opdOK f = true := List.all_eq_true.1 hop f (by rw [ho]; simp [Op.operands, Call.operands, hc])
  obtain ⟨e1, e2⟩ := evsA_spec hds
  -- the callee
  have hfv := ev_rep hr hopf hf
  have hcs : ∃ cs : Array Value, a.eval f = .func (.func k) #[] cs ∧ Rep w S E (.vs caps cs.toList) [] := by
    generalize a.eval f = vf at hfv
    cases hfv with
    | c h => cases h with
      | f _ hh => exact ⟨_, rfl, hh⟩
  obtain ⟨cs, hfe, hcaps⟩ := hcs
  have hrun : (execOp a.eval o).run P w = .ok (.enter k (c.args.map a.eval ++ cs)) w := by
    have h1 : (execOp a.eval o).run P w = (invoke (.fn (.func k) cs) (#[] ++ c.args.map a.eval)).run P w := by
      simp only [execOp, ho, Sem.run_bind, resolve, hc, Deferred.ofValue, hfe, Sem.run_pure, Result.andThen_ok]
    rw [h1]
    simp only [invoke, Array.empty_append]
    exact run_callFunc hk
  -- the objects
  obtain ⟨ob1, ob2⟩ := objsAt_spec hobjs
  have hρH : ∀ r ∈ ρ, ∃ R p f, A.H[r]? = some (some R) ∧ E[r]? = some (some p) ∧ F[r]? = some f ∧ RootAt w S E R p f := by
    intro r hrm
    obtain ⟨i, hi⟩ := List.getElem?_of_mem hrm
    have hi' := lt_len hi
    obtain ⟨r', R, q1, q2, _⟩ := ob2 i (objs[i]'(by omega)) (List.getElem?_eq_getElem _)
    rw [hi] at q1; cases q1
    obtain ⟨p, f, h1, h2, h3⟩ := hr.root r R q2
    exact ⟨R, p, f, q2, h1, h2, h3⟩
  let pl : Nat → Pl := fun r => ((E[r]?).getD none).getD ⟨none, 0, 0, 0⟩
  let fl : Nat → List Nat := fun r => (F[r]?).getD []
  have hpls : ∀ (i r : Nat), ρ[i]? = some r → ∃ p f, E[r]? = some (some p) ∧ F[r]? = some f ∧ (ρ.map pl)[i]? = some p ∧ (ρ.map fl)[i]? = some f := by
    intro i r hi
    obtain ⟨R, p, f, _, h1, h2, _⟩ := hρH r (List.mem_of_getElem? hi)
    exact ⟨p, f, h1, h2, by simp [pl, hi, h1], by simp [fl, hi, h2]⟩
  -- the arguments
  have hvals : (ds ++ caps.map D.c).length = ((c.args.map a.eval).toList ++ cs.toList).length := by
    have := vs_len hcaps
    simp [e1] at this ⊢
    omega
  have hrep : ∀ (i : Nat) (d : D), (ds ++ caps.map D.c)[i]? = some d → RepD w S E d (((c.args.map a.eval).toList ++ cs.toList).getD i undef) := by
    intro i d hd
    have hla : (c.args.map a.eval).toList.length = ds.length := by simp [e1]
    by_cases hi : i < ds.length
    · rw [List.getElem?_append_left hi] at hd
      obtain ⟨x, k1, k2⟩ := e2 i d hd
      have := ev_rep hr (hopm x (List.mem_of_getElem? k1)) k2
      have hx : ((c.args.map a.eval).toList ++ cs.toList).getD i undef = a.eval x := by
        rw [List.getD_eq_getElem?_getD, List.getElem?_append_left (by omega), Array.toList_map, List.getElem?_map, k1]; rfl
      rw [hx]; exact this
    · rw [List.getElem?_append_right (by omega), List.getElem?_map, Option.map_eq_some_iff] at hd
      obtain ⟨y, k1, rfl⟩ := hd
      obtain ⟨_, k2⟩ := vs_get hcaps
      obtain ⟨v, f, m1, m2, m3⟩ := k2 _ y k1
      have : f = [] := List.eq_nil_iff_forall_not_mem.2 fun x hx => by cases m3 x hx
      subst this
      have hx : ((c.args.map a.eval).toList ++ cs.toList).getD i undef = v := by
        rw [List.getD_eq_getElem?_getD, List.getElem?_append_right (by omega), hla, m1]; rfl
      rw [hx]; exact .c m2
  obtain ⟨⟨n1, n2⟩, n3⟩ := argFs_sound hr (pls := ρ.map pl) (fun i r hi => by obtain ⟨p, f, h1, _, h3, _⟩ := hpls i r hi; exact ⟨p, h1, h3⟩) (vs := (c.args.map a.eval).toList ++ cs.toList) hvals hrep harg (fun r hr => hr)
  have hfl : ∀ b, b ∈ (ρ.map fl).flatten → ∃ r ∈ ρ, ∃ f, F[r]? = some f ∧ b ∈ f := by
    intro b hb
    obtain ⟨f, h1, h2⟩ := List.mem_flatten.1 hb
    obtain ⟨r, h3, rfl⟩ := List.mem_map.1 h1
    obtain ⟨R, p, f', _, _, k2, _⟩ := hρH r h3
    exact ⟨r, h3, f', k2, by simpa [fl, k2] using h2⟩
  have hobjsAt : ObjsAt w (fun b => S b ∨ Lent F B b) objs (ρ.map pl) (ρ.map fl) := by
    refine ⟨by simp [ob1], by simp [ob1], fun i ob hob => ?_⟩
    obtain ⟨r, R, q1, q2, q3, q4⟩ := ob2 i ob hob
    obtain ⟨p, f, h1, h2, h3, h4⟩ := hpls i r q1
    obtain ⟨p0, f0, t1, t2, t3⟩ := hr.root r R q2
    rw [h1] at t1; cases t1
    rw [h2] at t2; cases t2
    refine ⟨p, f, h3, h4, ?_⟩
    subst q4
    obtain ⟨g1, g2, g3, g4, g5⟩ := t3
    refine ⟨g1, g2, g3, g4, ?_⟩
    cases hat : p.at? with
    | none => rw [hat] at g5; exact g5
    | some bo =>
      rw [hat] at g5
      obtain ⟨fr, u1, u2, u3⟩ := g5
      exact ⟨fr, u1, u2, ((u3.ldat (rows_dat q3)).noenv (E' := []) rfl).mono (fun b hb => .inl hb) (.refl _ _) (fun _ _ => rfl)⟩
  have hmeet := hm ds' objs Q hs w (fun b => S b ∨ Lent F B b) (c.args.map a.eval ++ cs) (ρ.map pl) (ρ.map fl) (by rw [n1]; simpa using hvals)
    (fun i d hd => by
      have := n2 i d hd
      rwa [← Array.toList_append, show ((c.args.map a.eval ++ cs).toList.getD i undef) = (c.args.map a.eval ++ cs).getD i undef by
        rw [List.getD_eq_getElem?_getD, Array.getElem?_toList, Array.getD_eq_getD_getElem?]] at this)
    hobjsAt
    (by
      refine nodup_flat ?_ ?_
      · intro f hf
        obtain ⟨r, h3, rfl⟩ := List.mem_map.1 hf
        obtain ⟨R, p, f', _, _, k2, _⟩ := hρH r h3
        simp only [fl, k2, Option.getD_some]
        exact nodup_at hr.nodup k2
      · intro i j f f' x hi hj hx hx'
        rw [List.getElem?_map, Option.map_eq_some_iff] at hi hj
        obtain ⟨ri, i1, rfl⟩ := hi
        obtain ⟨rj, j1, rfl⟩ := hj
        obtain ⟨_, _, fi, _, _, ki, _⟩ := hρH ri (List.mem_of_getElem? i1)
        obtain ⟨_, _, fj, _, _, kj, _⟩ := hρH rj (List.mem_of_getElem? j1)
        have := apart hr ki kj (by simpa [fl, ki] using hx) (by simpa [fl, kj] using hx')
        subst this
        exact (List.getElem?_inj (lt_len i1) hρ).1 (i1.trans j1.symm))
    (by
      intro b hb
      obtain ⟨r, h1, f, h2, h3⟩ := hfl b hb
      refine ⟨?_, (hr.fsz b (flat_get h2 b h3)).1⟩
      rintro (h | ⟨r', m1, f', m2, m3⟩)
      · exact hr.fS b (flat_get h2 b h3) h
      · have := apart hr h2 m2 h3 m3
        subst this
        exact n3 r m1 h1)
    (by
      rintro b (h | ⟨r', m1, f', m2, m3⟩)
      · exact (hr.Ssz b h).1
      · exact (hr.fsz b (flat_get m2 b m3)).1)
  unfold Oper.wp
  rw [hrun, Oper.upon_enter]
  refine hmeet.mono ?_
  rintro e w' ⟨v, d, objs', rfl, hQ, hlo, hleft⟩
  obtain ⟨r1, r2⟩ := hR d objs' hQ hlo
  obtain ⟨S2, E2, F2, t1, t2⟩ := hr.afterCall hρ hobjs ⟨by simp, by simp⟩ hpls n3 hlo hleft r1
  exact hn _ _ _ r2 ⟨S2, E2, F2, t1.put t2⟩


/-- The head of an own row, as an own slice. -/
theorem outC_take (hr : Rel g S E F A a w) {n len : Nat} {N : Root} {v : Value} (hN : A.H[n]? = some (some N)) (c1 : N.dat = true) (c0 : N.es ≠ 0) (hlen : len ≤ N.rows.length) (hcp : (N.rows.all fun row => row.all C.cp) = true)
    (h : Rep w S E (.k false (.h n 0 len) v) []) : ∃ fp, Rep w S [] (.k false (.s true N.es (N.rows.take len)) v) fp ∧ (∀ x ∈ fp, ∃ r ∈ [n], ∃ f, F[r]? = some f ∧ x ∈ f) ∧ fp.Nodup := by
  obtain ⟨p, f, h1, h2, h3, h4⟩ := handle_live hr hN (.c h)
  obtain ⟨g1, g2, g3, g4, g5⟩ := h3
  obtain ⟨k1, k2⟩ := h4
  have hlen' : (N.rows.take len).length = len := by rw [List.length_take]; omega
  cases hat : p.at? with
  | none =>
    rw [hat] at k2 g5
    obtain ⟨ad, rfl⟩ := k2
    obtain ⟨e1, _, _⟩ := g5
    rw [e1, List.take_nil]
    exact ⟨[], .nilO, by simp, by simp⟩
  | some bo =>
    obtain ⟨b, off⟩ := bo
    rw [hat] at k2 g5
    obtain ⟨ad, cap, rfl, q2, q3, q4⟩ := k2
    obtain ⟨fr, rfl, e2, e3⟩ := g5
    by_cases hcap0 : cap = 0
    · subst hcap0
      have : len = 0 := by omega
      subst this
      rw [List.take_zero]
      exact ⟨[], .nilO, by simp, by simp⟩
    · have had : ad = ⟨b, off, none⟩ := by
        rcases q4 with q4 | q4
        · exact absurd q4 hcap0
        · rw [q4]; simp
      subst had
      rw [c1] at e3
      obtain ⟨f1, f2, f3, hff, hr2⟩ := flatten_sub g4 e3 0 len (by omega)
      rw [List.drop_zero] at hr2
      have hr2 : Rep w S E (.l true (N.rows.take len).flatten b off) f2 := by simpa using hr2
      have hf2 : f2 = [] := by
        refine cells_cp hr2 (rows_cp ?_)
        rw [List.all_eq_true]
        intro row hrow
        exact List.all_eq_true.1 hcp row (List.mem_of_mem_take hrow)
      subst hf2
      have := Rep.own (dat := false) (S := S) (w := w) (E := []) (es := N.es) (rows := N.rows.take len) (b := b) (off := off) (cap := cap) (fp := []) c0 (by
          obtain ⟨arr, el, z, m1, m2, m3⟩ := e2
          refine ⟨arr, el, z, m1, ?_, m3⟩
          have := Nat.mul_le_mul_right N.es (show cap ≤ p.m by omega)
          omega) (by rw [hlen']; exact q2) (fun r hr => g4 r (List.mem_of_mem_take hr)) (hr2.noenv rfl)
      rw [hlen'] at this
      exact ⟨[b], this, fun x hx => ⟨n, by simp, _, h2, by rw [List.mem_singleton.1 hx]; exact List.mem_cons_self ..⟩, by simp⟩

def closeT (A : St) (r e c : Nat) : Option St :=
  match A.H[r]? with
  | some (some R) => if R.dat = true then none else match R.rows[e]? with
    | some row => match row[c]? with
      | some (.h n 0 len) => match A.H[n]? with
        | some (some N) => if N.dat = true ∧ N.es ≠ 0 ∧ len ≤ N.rows.length ∧ (N.rows.all fun row => row.all C.cp) = true then
            some ⟨A.sl.map (D.kill n), ((killH n (A.H.set r (some ⟨false, R.es, R.rows.set e (row.set c .x)⟩))).set n none).set r
              (some ⟨false, R.es, ((R.rows.set e (row.set c .x)).map fun row => row.map (C.kill n)).set e (((row.set c .x).map (C.kill n)).set c (.s true N.es (N.rows.take len)))⟩)⟩ else none
        | _ => none
      | _ => none
    | none => none
  | _ => none

theorem closeT_sat {A' : St} {r e c : Nat} (ho : closeT A r e c = some A') (hs : Sat g A a w) : Sat g A' a w := by
  obtain ⟨S, E, F, hr⟩ := hs
  unfold closeT at ho
  split at ho
  · rename_i R hR
    split at ho
    · cases ho
    · rename_i hd
      have hd : R.dat = false := by simpa using hd
      split at ho
      · rename_i row hrow
        split at ho
        · rename_i n len hc
          split at ho
          · rename_i N hN
            split at ho
            · rename_i hcond
              cases ho
              have hnr : n ≠ r := fun h => by
                subst h
                rw [hR] at hN; cases hN
                rw [hd] at hcond; cases hcond.1
              obtain ⟨v, fc, f1, f3, b, p, h1, h2, h3, h4, ⟨off, ha, hv⟩, h5⟩ := hr.cellAt hR hd hrow hc
              have hfc : fc = [] := by cases h3; rfl
              subst hfc
              obtain ⟨fp, k1, k2, k3⟩ := outC_take hr hN hcond.1 hcond.2.1 hcond.2.2.1 hcond.2.2.2 h3
              have q1 := hr.refoot (f' := b :: (f1 ++ ([] ++ f3))) hR h1 h2 (h5 .x [] .x) h4 (fun x hx => .inl hx) hd.symm
              rw [set_same h2] at q1
              have q3 := (q1.kill n).dropRoot n
              have hRx : ((St.kill n { A with H := A.H.set r (some ⟨false, R.es, R.rows.set e (row.set c .x)⟩) }).H.set n none)[r]? = some (some ⟨false, R.es, (R.rows.set e (row.set c .x)).map fun row => row.map (C.kill n)⟩) := by
                rw [List.getElem?_set_ne hnr]
                simp only [St.kill, killH, List.getElem?_map]
                rw [List.getElem?_set_self (lt_len hR)]
                rfl
              obtain ⟨v2, fc2, g1, g3, b2, p2, u1, u2, u3, u4, ⟨off2, hb, hv2⟩, u5⟩ := q3.cellAt (r := r) (e := e) (c := c) (c0 := .x) hRx rfl
                (by rw [List.getElem?_map, List.getElem?_set_self (lt_len hrow)]; rfl) (by rw [List.getElem?_map, List.getElem?_set_self (lt_len hc)]; rfl)
              cases u3
              rw [List.getElem?_set_ne hnr, h1] at u1
              cases u1
              rw [ha] at hb
              cases hb
              rw [hv] at hv2
              cases hv2
              have hsub : ∀ x ∈ fp, ∃ f, F[n]? = some f ∧ x ∈ f := by
                intro x hx
                obtain ⟨i, hi, f, m1, m2⟩ := k2 x hx
                rw [List.mem_singleton] at hi
                subst hi
                exact ⟨f, m1, m2⟩
              have hout : ∀ x ∈ fp, x ∉ (F.set n []).flatten := by
                intro x hx hm
                obtain ⟨f, m1, m2⟩ := hsub x hx
                obtain ⟨f', m3, m4⟩ := List.mem_flatten.1 hm
                obtain ⟨i, hi⟩ := List.getElem?_of_mem m3
                rw [List.getElem?_set] at hi
                split at hi
                · rename_i hni
                  rw [if_pos (lt_len m1)] at hi
                  cases hi; cases m4
                · rename_i hni
                  exact hni (apart hr m1 hi m2 m4)
              have t5 := q3.refoot (f' := b :: (g1 ++ (fp ++ g3))) hRx (by rw [List.getElem?_set_ne hnr]; exact h1) u2 (u5 (.s true N.es (N.rows.take len)) fp (k1.noenv (.inr rfl))) (by
                have y1 := List.nodup_cons.1 u4
                have y2 := List.nodup_append.1 y1.2
                have sub : ∀ x, x ∈ b :: (g1 ++ ([] ++ g3)) → x ∈ (F.set n []).flatten := flat_get u2
                have no : ∀ x ∈ fp, x ∉ b :: (g1 ++ ([] ++ g3)) := fun x hx h => hout x hx (sub x h)
                refine List.nodup_cons.2 ⟨fun h => ?_, List.nodup_append.2 ⟨y2.1, List.nodup_append.2 ⟨k3, by simpa using y2.2.1, fun x hx y hy hxy => ?_⟩, fun x hx y hy hxy => ?_⟩⟩
                · rcases List.mem_append.1 h with h | h
                  · exact y1.1 (List.mem_append_left _ h)
                  · rcases List.mem_append.1 h with h | h
                    · exact no b h (List.mem_cons_self ..)
                    · exact y1.1 (List.mem_append_right _ (by simpa using h))
                · subst hxy
                  exact no x hx (List.mem_cons_of_mem _ (List.mem_append_right _ (by simpa using hy)))
                · subst hxy
                  rcases List.mem_append.1 hy with h | h
                  · exact no x h (List.mem_cons_of_mem _ (List.mem_append_left _ hx))
                  · exact y2.2.2 x hx x (by simpa using h) rfl) (by
                intro x hx
                rcases List.mem_cons.1 hx with h | h
                · left; rw [h]; exact List.mem_cons_self ..
                · rcases List.mem_append.1 h with h | h
                  · left; exact List.mem_cons_of_mem _ (List.mem_append_left _ h)
                  · rcases List.mem_append.1 h with h | h
                    · right
                      obtain ⟨f, m1, m2⟩ := hsub x h
                      exact ⟨hout x h, hr.fS x (flat_get m1 x m2), hr.fsz x (flat_get m1 x m2)⟩
                    · left; exact List.mem_cons_of_mem _ (List.mem_append_right _ (by simpa using h))) rfl
              exact ⟨S, _, _, t5⟩
            · cases ho
          · cases ho
        · cases ho
      · cases ho
  · cases ho


theorem tri_closeT {code : Code} {Q : Exit → St → Prop} {A' : St} (r e c : Nat) (ho : closeT A r e c = some A') (h : Tri P code A' Q) : Tri P code A Q :=
  Tri.weak (fun _ _ _ hs => closeT_sat ho hs) h

end

section
variable {P : Program} {Φ : Fs}

theorem rr_callF {ops : Array Oper} {o : Oper} {os : List Oper} {A : St} {K : St → Prop} {c : Call} {k : FuncId} {caps : List C} {f : Operand} {ds ds' : List D} {ρ B : List Nat} {objs objs' : List Obj} {spec : Spec} {d : D}
    (hg : o.guard = none) (ho : o.op = .call c) (hop : o.op.operands.toList.all opdOK = true) (hc : c.callee = .value f) (hf : A.ev f = some (.c (.f k caps))) (hk : callable P k = true) (hds : evsA A c.args.toList = some ds)
    (harg : argFs A.H ρ (ds ++ caps.map .c) = some (ds', B)) (hρ : ρ.Nodup) (hobjs : objsAt A.H ρ = some objs) (hm : Meets P k spec) (hs : spec ds' objs (fun d' os' => d' = d ∧ os' = objs'))
    (hB : B = [] ∨ (d.ni = true ∧ ∀ o ∈ objs', Obj.ni o = true)) (h : RunR P ops os (St.put { A with H := (settle (setObjs A.H ρ objs') d).2 } o.dst (settle (setObjs A.H ρ objs') d).1) K) : RunR P ops (o :: os) A K := by
  refine rr_step (R := fun A' => A' = St.put { A with H := (settle (setObjs A.H ρ objs') d).2 } o.dst (settle (setObjs A.H ρ objs') d).1) hg (step_callF ho hop hc hf hk hds harg hρ hobjs hm hs ?_) (by rintro _ rfl; exact h)
  rintro _ _ ⟨rfl, rfl⟩ _
  exact ⟨hB, rfl⟩


/-- A function with what it captures. -/
theorem evs_vs {g : G} {S : Nat → Prop} {E : Env} {F : List (List Nat)} {A : St} {a : Act} {w : World} (hr : Rel g S E F A a w) : ∀ {xs : List Operand} {caps : List C}, (∀ x ∈ xs, opdOK x = true) → evsA A xs = some (caps.map .c) → Rep w S E (.vs caps (xs.map a.eval)) []
  | [], caps, _, h => by
    cases caps with
    | nil => exact .vnil
    | cons c cs => simp [evsA] at h
  | x :: xs, caps, hop, h => by
    simp only [evsA] at h
    split at h
    · rename_i d ds h1 h2
      cases caps with
      | nil => simp at h
      | cons c cs =>
        simp only [List.map_cons, Option.some.injEq, List.cons.injEq] at h
        obtain ⟨rfl, rfl⟩ := h
        have hx := ev_rep hr (hop x (List.mem_cons_self ..)) h1
        cases hx with
        | c hx => exact .vcons (f1 := []) (f2 := []) hx (evs_vs hr (fun y hy => hop y (List.mem_cons_of_mem _ hy)) h2)
    · cases h

theorem step_makeFunc {o : Oper} {A : St} {k : FuncId} {cap : Array Operand} {caps : List C} (ho : o.op = .makeFunc (.func k) #[] cap) (hop : cap.toList.all opdOK = true) (hd : evsA A cap.toList = some (caps.map .c)) : Step P o A (fun A' => A' = A.put o.dst (.c (.f k caps))) := by
  intro g a w ⟨S, E, F, hr⟩ next Q hn
  have h1 : (execOp a.eval o).run P w = .ok (.value (.func (.func k) #[] (cap.map a.eval))) w := by
    simp [execOp, ho, Instr.makeFunc, Sem.run_bind, Sem.run_pure, Sem.run]
  unfold Oper.wp
  rw [h1]
  refine hn _ _ _ rfl ⟨S, E, F, hr.put (.c (.f (.inl rfl) ?_))⟩
  have := evs_vs hr (fun x hx => List.all_eq_true.1 hop x hx) hd
  simpa using this

theorem rr_makeFunc {ops : Array Oper} {o : Oper} {os : List Oper} {A : St} {K : St → Prop} {k : FuncId} {cap : Array Operand} {caps : List C} (hg : o.guard = none) (ho : o.op = .makeFunc (.func k) #[] cap) (hop : cap.toList.all opdOK = true) (hd : evsA A cap.toList = some (caps.map .c))
    (h : RunR P ops os (A.put o.dst (.c (.f k caps))) K) : RunR P ops (o :: os) A K :=
  rr_step hg (step_makeFunc ho hop hd) (by rintro _ rfl; exact h)

/-- A nil slice in a slot, as an empty slice that is nobody's. -/
def nilS (A : St) (t es : Nat) : Option St :=
  match A.sl[t]? with
  | some (.c (.s true _ [])) => some ⟨A.sl.set t (.c (.s false es [])), A.H⟩
  | _ => none

theorem nilS_sat {g : G} {A A' : St} {a : Act} {w : World} {t es : Nat} (ho : nilS A t es = some A') (hs : Sat g A a w) : Sat g A' a w := by
  obtain ⟨S, E, F, hr⟩ := hs
  unfold nilS at ho
  split at ho
  · rename_i es0 ht
    cases ho
    have hv := hr.sl t _ ht
    generalize hval : a.tmps.getD t undef = v at hv
    have hn : ∃ ad, v = .slice ad 0 0 := by
      cases hv with
      | c h =>
        generalize hfp : ([] : List Nat) = fp at h
        cases h with
        | nilO => exact ⟨_, rfl⟩
        | own _ _ _ _ _ => cases hfp
    obtain ⟨ad, rfl⟩ := hn
    refine ⟨S, E, F, { hr with len := by rw [List.length_set]; exact hr.len, sl := ?_ }⟩
    intro i d hd
    rw [List.getElem?_set] at hd
    split at hd
    · rename_i hti
      subst hti
      rw [if_pos (lt_len ht)] at hd
      cases hd
      rw [hval]; exact .c .nilI
    · exact hr.sl i d hd
  · cases ho

theorem tri_nilS {code : Code} {Q : Exit → St → Prop} {A A' : St} (t es : Nat) (ho : nilS A t es = some A') (h : Tri P code A' Q) : Tri P code A Q :=
  Tri.weak (fun _ _ _ hs => nilS_sat ho hs) h

/-- One piece of code behind another, with what holds between. -/
theorem seq_cut {x z : Code} {A : St} {Q : Exit → St → Prop} (I : St → Prop) (h2 : ∀ A', I A' → Tri P z A' Q) (h1 : Tri P x A (thenQ I Q)) : Tri P (.seq x z) A Q :=
  tri_seq (h1.mono fun e A' h => by cases e <;> first | exact h2 A' h | exact h)

end
end Go.Dl
