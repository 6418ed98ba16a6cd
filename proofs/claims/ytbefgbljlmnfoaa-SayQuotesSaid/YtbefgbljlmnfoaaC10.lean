/- 'Dl', part Zl: a call that is handed a function with what it captured; own rows that stay from then on; an own slice cut short; 'Dl', part Zm: regions of open order that load from one root and store into another; The walks of the lexer's small functions; The walks of strings.IndexByte. -/
import Derived.Test.YtbefgbljlmnfoaaC09
import Derived.Lib.Bytealg
import Derived.Laws.Externs
namespace Go.Dl
open Go.RowKit

/-- A result that nobody will change. -/
def D.frz : D → D
  | .c (.s true es rows) => if (rows.all fun row => row.all C.cp) = true then .c (.s false es rows) else .c (.s true es rows)
  | d => d

theorem rows_cp {rows : List (List C)} (h : (rows.all fun row => row.all C.cp) = true) : rows.flatten.all C.cp = true := by
  rw [List.all_eq_true]
  intro c hcm
  obtain ⟨row, hrow, hcr⟩ := List.mem_flatten.1 hcm
  exact List.all_eq_true.1 (List.all_eq_true.1 h row hrow) c hcr

theorem left_frz {w w' : World} {S : Nat → Prop} {pls : List Pl} {fps : List (List Nat)} {d : D} {v : Value} {objs' : List Obj} (h : Left w w' S pls fps d v objs') : Left w w' S pls fps d.frz v objs' := by
  unfold D.frz
  split
  · rename_i es rows
    split
    · rename_i hc
      refine ⟨h.size, h.keep, h.os, h.tape, h.output, ?_⟩
      obtain ⟨S', pls', fps', fpd, l1, l2, l3, l4, l5, l6, l7⟩ := h.rest
      have l3' : Rep w' S' [] (.k false (.s true es rows) v) fpd := l3
      cases l3' with
      | nilO => exact ⟨S', pls', fps', [], l1, l2, .nilI, l4, l5, l6, l7⟩
      | own hz hb hc' hl hr =>
        rename_i b off cap fp
        have hfp := cells_cp hr (rows_cp hc)
        subst hfp
        have hb6 := l6 b (by simp)
        refine ⟨fun x => S' x ∨ x = b, pls', fps', [], fun x hx => .inl (l1 x hx), fun x hx => ?_, ?_, ?_, ?_, ?_, l7⟩
        · rcases hx with hx | rfl
          · exact l2 x hx
          · exact ⟨hb6.2.1, .inr hb6.2.2⟩
        · exact .imm (.inr rfl) hc' hl (hr.mono (fun _ h => .inl h) (.refl _ _) (fun _ _ => rfl))
        · obtain ⟨m1, m2, m3⟩ := l4
          refine ⟨m1, m2, fun i ob hob => ?_⟩
          obtain ⟨p, f, k1, k2, k3⟩ := m3 i ob hob
          exact ⟨p, f, k1, k2, k3.mono (fun _ h => .inl h) (.refl _ _) (fun _ _ => rfl)⟩
        · simpa using (List.nodup_append.1 l5).2.1
        · intro x hx
          have hx' : x ∈ fps'.flatten := by simpa using hx
          obtain ⟨q1, q2, q3⟩ := l6 x (List.mem_append_right _ hx')
          refine ⟨?_, q2, q3⟩
          rintro (h | rfl)
          · exact q1 h
          · exact (List.nodup_append.1 l5).2.2 x (by simp) x hx' rfl
    · exact h
  · exact h

theorem meets_frz {P : Program} {k : FuncId} {spec : Spec} (h : Meets P k spec) : Meets P k (fun args objs Q => spec args objs (fun d os => Q d.frz os)) := by
  intro args objs Q hs w S vs pls fps h1 h2 h3 h4 h5 h6
  refine (h args objs _ hs w S vs pls fps h1 h2 h3 h4 h5 h6).mono ?_
  rintro e w' ⟨v, d, os, e1, hq, hl, left⟩
  exact ⟨v, d.frz, os, e1, hq, hl, left_frz left⟩

theorem meets_frzP {P : Program} {k : FuncId} {f : List D → Option D} (h : Meets P k (pureS f)) : Meets P k (pureS fun a => (f a).map D.frz) := by
  intro args objs Q hs
  refine meets_frz h args objs Q ?_
  obtain ⟨h1, d, h2, h3⟩ := hs
  cases hf : f args with
  | none => simp only [hf] at h2; cases h2
  | some d0 => simp only [hf] at h2; cases h2; exact ⟨h1, d0, hf, h3⟩

theorem meets_frzO {P : Program} {k : FuncId} {f : List D → List Obj → Option (D × List Obj)} (h : Meets P k (detS f)) : Meets P k (detS fun a o => (f a o).map fun r => (r.1.frz, r.2)) := by
  intro args objs Q hs
  refine meets_frz h args objs Q ?_
  obtain ⟨d, os, h2, h3⟩ := hs
  cases hf : f args objs with
  | none => simp only [hf] at h2; cases h2
  | some d0 => simp only [hf] at h2; cases h2; exact ⟨d0.1, d0.2, hf, h3⟩

/-- An argument; a function brings what it captured. -/
def argF (H : List (Option Root)) (ρ : List Nat) : D → Option (D × List Nat)
  | .c (.f k caps) => (argCs H ρ caps).map fun r => (.c (.f k r.1), r.2)
  | d => argD H ρ d

def argFs (H : List (Option Root)) (ρ : List Nat) : List D → Option (List D × List Nat)
  | [] => some ([], [])
  | d :: ds => match argF H ρ d, argFs H ρ ds with
    | some (d', l1), some (ds', l2) => some (d' :: ds', l1 ++ l2)
    | _, _ => none

section
variable {P : Program} {g : G} {S : Nat → Prop} {E : Env} {F : List (List Nat)} {A : St} {a : Act} {w : World}

theorem argF_sound (hr : Rel g S E F A a w) {ρ : List Nat} {pls : List Pl} (hp : ∀ (i r : Nat), ρ[i]? = some r → ∃ p, E[r]? = some (some p) ∧ pls[i]? = some p) {d d' : D} {v : Value} {B Bs : List Nat} (h : RepD w S E d v)
    (ha : argF A.H ρ d = some (d', B)) (hB : ∀ r ∈ B, r ∈ Bs) : RepD w (fun b => S b ∨ Lent F Bs b) (pls.map some) d' v ∧ ∀ r ∈ B, r ∉ ρ := by
  unfold argF at ha
  split at ha
  · rename_i k caps
    cases hc : argCs A.H ρ caps with
    | none => rw [hc] at ha; cases ha
    | some r =>
      rw [hc] at ha; cases ha
      cases h with
      | c h =>
        cases h with
        | f _ hh =>
          obtain ⟨h1, h2⟩ := argCs_sound hr hp hh hc hB
          exact ⟨.c (.f (.inl rfl) h1), h2⟩
  · exact argD_sound hr hp h ha hB

theorem argFs_sound (hr : Rel g S E F A a w) {ρ : List Nat} {pls : List Pl} (hp : ∀ (i r : Nat), ρ[i]? = some r → ∃ p, E[r]? = some (some p) ∧ pls[i]? = some p) : ∀ {ds ds' : List D} {vs : List Value} {B Bs : List Nat}, ds.length = vs.length →
    (∀ (i : Nat) (d : D), ds[i]? = some d → RepD w S E d (vs.getD i undef)) → argFs A.H ρ ds = some (ds', B) → (∀ r ∈ B, r ∈ Bs) →
    (ds'.length = ds.length ∧ ∀ (i : Nat) (d : D), ds'[i]? = some d → RepD w (fun b => S b ∨ Lent F Bs b) (pls.map some) d (vs.getD i undef)) ∧ ∀ r ∈ B, r ∉ ρ
  | [], ds', vs, B, Bs, hl, h, ha, hB => by cases ha; exact ⟨⟨rfl, by simp⟩, by simp⟩
  | d :: ds, ds', vs, B, Bs, hl, h, ha, hB => by
    simp only [argFs] at ha
    split at ha
    · rename_i d1 l1 ds1 l2 h1 h2
      cases ha
      cases vs with
      | nil => simp at hl
      | cons v vs =>
        obtain ⟨q1, q2⟩ := argF_sound hr hp (h 0 d rfl) h1 (fun r hr => hB r (List.mem_append_left _ hr))
        obtain ⟨⟨r0, r1⟩, r2⟩ := argFs_sound hr hp (vs := vs) (by simpa using hl) (fun i d hd => by have := h (i + 1) d (by simpa using hd); simpa using this) h2 (fun r hr => hB r (List.mem_append_right _ hr))
        refine ⟨⟨by simp [r0], fun i d' hd => ?_⟩, fun r hr => ?_⟩
        · cases i with
          | zero => simp at hd; subst hd; simpa using q1
          | succ i => have := r1 i d' (by simpa using hd); simpa using this
        · rcases List.mem_append.1 hr with h | h
          · exact q2 r h
          · exact r2 r h
    · cases ha

theorem step_callF {o : Oper} {c : Call} {A : St} {R : St → Prop} {k : FuncId} {caps : List C} {f : Operand} {ds ds' : List D} {ρ B : List Nat} {objs : List Obj} {spec : Spec} {Q : D → List Obj → Prop}
    (ho : o.op = .call c) (hop : o.op.operands.toList.all opdOK = true) (hc : c.callee = .value f) (hf : A.ev f = some (.c (.f k caps))) (hk : callable P k = true) (hds : evsA A c.args.toList = some ds)
    (harg : argFs A.H ρ (ds ++ caps.map .c) = some (ds', B)) (hρ : ρ.Nodup) (hobjs : objsAt A.H ρ = some objs) (hm : Meets P k spec) (hs : spec ds' objs Q)
    (hR : ∀ d objs', Q d objs' → objs'.length = objs.length → (B = [] ∨ (d.ni = true ∧ ∀ o ∈ objs', Obj.ni o = true)) ∧ R (St.put { A with H := (settle (setObjs A.H ρ objs') d).2 } o.dst (settle (setObjs A.H ρ objs') d).1)) :
    Step P o A R := by
  intro g a w ⟨S, E, F, hr⟩ next Q0 hn
  have hopm : ∀ x ∈ c.args.toList, opdOK x = true := fun x hx => List.all_eq_true.1 hop x (by rw [ho]; simp only [Op.operands, Call.operands, Array.toList_append, List.mem_append]; exact .inr hx)
  have hopf : opdOK f = true := List.all_eq_true.1 hop f (by rw [ho]; simp [Op.operands, Call.operands, hc])
  obtain ⟨e1, e2⟩ := evsA_spec hds
  -- the callee
  have hfv := ev_rep hr hopf hf
  have hcs : ∃ cs : Array Value, a.eval f = .func (.func k) #[] cs ∧ Rep w S E (.vs caps cs.toList) [] := by
    generalize a.eval f = vf at hfv
    cases hfv with
    | c h => cases h with
      | f _ hh => exact ⟨_, rfl, hh⟩
  obtain ⟨cs, hfe, hcaps⟩ := hcs
  have hrun : (execOp a.eval o).run P w = .ok (.enter k (c.args.map a.eval ++ cs)) w := by
    have h1 : (execOp a.eval o).run P w = (invoke (.fn (.func k) cs) (#[] ++ c.args.map a.eval)).run P w := by
      simp only [execOp, ho, Sem.run_bind, resolve, hc, Deferred.ofValue, hfe, Sem.run_pure, Result.andThen_ok]
    rw [h1]
    simp only [invoke, Array.empty_append]
    exact run_callFunc hk
  -- the objects
  obtain ⟨ob1, ob2⟩ := objsAt_spec hobjs
  have hρH : ∀ r ∈ ρ, ∃ R p f, A.H[r]? = some (some R) ∧ E[r]? = some (some p) ∧ F[r]? = some f ∧ RootAt w S E R p f := by
    intro r hrm
    obtain ⟨i, hi⟩ := List.getElem?_of_mem hrm
    have hi' := lt_len hi
    obtain ⟨r', R, q1, q2, _⟩ := ob2 i (objs[i]'(by omega)) (List.getElem?_eq_getElem _)
    rw [hi] at q1; cases q1
    obtain ⟨p, f, h1, h2, h3⟩ := hr.root r R q2
    exact ⟨R, p, f, q2, h1, h2, h3⟩
  let pl : Nat → Pl := fun r => ((E[r]?).getD none).getD ⟨none, 0, 0, 0⟩
  let fl : Nat → List Nat := fun r => (F[r]?).getD []
  have hpls : ∀ (i r : Nat), ρ[i]? = some r → ∃ p f, E[r]? = some (some p) ∧ F[r]? = some f ∧ (ρ.map pl)[i]? = some p ∧ (ρ.map fl)[i]? = some f := by
    intro i r hi
    obtain ⟨R, p, f, _, h1, h2, _⟩ := hρH r (List.mem_of_getElem? hi)
    exact ⟨p, f, h1, h2, by simp [pl, hi, h1], by simp [fl, hi, h2]⟩
  -- the arguments
  have hvals : (ds ++ caps.map D.c).length = ((c.args.map a.eval).toList ++ cs.toList).length := by
    have := vs_len hcaps
    simp [e1] at this ⊢
    omega
  have hrep : ∀ (i : Nat) (d : D), (ds ++ caps.map D.c)[i]? = some d → RepD w S E d (((c.args.map a.eval).toList ++ cs.toList).getD i undef) := by
    intro i d hd
    have hla : (c.args.map a.eval).toList.length = ds.length := by simp [e1]
    by_cases hi : i < ds.length
    · rw [List.getElem?_append_left hi] at hd
      obtain ⟨x, k1, k2⟩ := e2 i d hd
      have := ev_rep hr (hopm x (List.mem_of_getElem? k1)) k2
      have hx : ((c.args.map a.eval).toList ++ cs.toList).getD i undef = a.eval x := by
        rw [List.getD_eq_getElem?_getD, List.getElem?_append_left (by omega), Array.toList_map, List.getElem?_map, k1]; rfl
      rw [hx]; exact this
    · rw [List.getElem?_append_right (by omega), List.getElem?_map, Option.map_eq_some_iff] at hd
      obtain ⟨y, k1, rfl⟩ := hd
      obtain ⟨_, k2⟩ := vs_get hcaps
      obtain ⟨v, f, m1, m2, m3⟩ := k2 _ y k1
      have : f = [] := List.eq_nil_iff_forall_not_mem.2 fun x hx => by cases m3 x hx
      subst this
      have hx : ((c.args.map a.eval).toList ++ cs.toList).getD i undef = v := by
        rw [List.getD_eq_getElem?_getD, List.getElem?_append_right (by omega), hla, m1]; rfl
      rw [hx]; exact .c m2
  obtain ⟨⟨n1, n2⟩, n3⟩ := argFs_sound hr (pls := ρ.map pl) (fun i r hi => by obtain ⟨p, f, h1, _, h3, _⟩ := hpls i r hi; exact ⟨p, h1, h3⟩) (vs := (c.args.map a.eval).toList ++ cs.toList) hvals hrep harg (fun r hr => hr)
  have hfl : ∀ b, b ∈ (ρ.map fl).flatten → ∃ r ∈ ρ, ∃ f, F[r]? = some f ∧ b ∈ f := by
    intro b hb
    obtain ⟨f, h1, h2⟩ := List.mem_flatten.1 hb
    obtain ⟨r, h3, rfl⟩ := List.mem_map.1 h1
    obtain ⟨R, p, f', _, _, k2, _⟩ := hρH r h3
    exact ⟨r, h3, f', k2, by simpa [fl, k2] using h2⟩
  have hobjsAt : ObjsAt w (fun b => S b ∨ Lent F B b) objs (ρ.map pl) (ρ.map fl) := by
    refine ⟨by simp [ob1], by simp [ob1], fun i ob hob => ?_⟩
    obtain ⟨r, R, q1, q2, q3, q4⟩ := ob2 i ob hob
    obtain ⟨p, f, h1, h2, h3, h4⟩ := hpls i r q1
    obtain ⟨p0, f0, t1, t2, t3⟩ := hr.root r R q2
    rw [h1] at t1; cases t1
    rw [h2] at t2; cases t2
    refine ⟨p, f, h3, h4, ?_⟩
    subst q4
    obtain ⟨g1, g2, g3, g4, g5⟩ := t3
    refine ⟨g1, g2, g3, g4, ?_⟩
    cases hat : p.at? with
    | none => rw [hat] at g5; exact g5
    | some bo =>
      rw [hat] at g5
      obtain ⟨fr, u1, u2, u3⟩ := g5
      exact ⟨fr, u1, u2, ((u3.ldat (rows_dat q3)).noenv (E' := []) rfl).mono (fun b hb => .inl hb) (.refl _ _) (fun _ _ => rfl)⟩
  have hmeet := hm ds' objs Q hs w (fun b => S b ∨ Lent F B b) (c.args.map a.eval ++ cs) (ρ.map pl) (ρ.map fl) (by rw [n1]; simpa using hvals)
    (fun i d hd => by
      have := n2 i d hd
      rwa [← Array.toList_append, show ((c.args.map a.eval ++ cs).toList.getD i undef) = (c.args.map a.eval ++ cs).getD i undef by
        rw [List.getD_eq_getElem?_getD, Array.getElem?_toList, Array.getD_eq_getD_getElem?]] at this)
    hobjsAt
    (by
      refine nodup_flat ?_ ?_
      · intro f hf
        obtain ⟨r, h3, rfl⟩ := List.mem_map.1 hf
        obtain ⟨R, p, f', _, _, k2, _⟩ := hρH r h3
        simp only [fl, k2, Option.getD_some]
        exact nodup_at hr.nodup k2
      · intro i j f f' x hi hj hx hx'
        rw [List.getElem?_map, Option.map_eq_some_iff] at hi hj
        obtain ⟨ri, i1, rfl⟩ := hi
        obtain ⟨rj, j1, rfl⟩ := hj
        obtain ⟨_, _, fi, _, _, ki, _⟩ := hρH ri (List.mem_of_getElem? i1)
        obtain ⟨_, _, fj, _, _, kj, _⟩ := hρH rj (List.mem_of_getElem? j1)
        have := apart hr ki kj (by simpa [fl, ki] using hx) (by simpa [fl, kj] using hx')
        subst this
        exact (List.getElem?_inj (lt_len i1) hρ).1 (i1.trans j1.symm))
    (by
      intro b hb
      obtain ⟨r, h1, f, h2, h3⟩ := hfl b hb
      refine ⟨?_, (hr.fsz b (flat_get h2 b h3)).1⟩
      rintro (h | ⟨r', m1, f', m2, m3⟩)
      · exact hr.fS b (flat_get h2 b h3) h
      · have := apart hr h2 m2 h3 m3
        subst this
        exact n3 r m1 h1)
    (by
      rintro b (h | ⟨r', m1, f', m2, m3⟩)
      · exact (hr.Ssz b h).1
      · exact (hr.fsz b (flat_get m2 b m3)).1)
  unfold Oper.wp
  rw [hrun, Oper.upon_enter]
  refine hmeet.mono ?_
  rintro e w' ⟨v, d, objs', rfl, hQ, hlo, hleft⟩
  obtain ⟨r1, r2⟩ := hR d objs' hQ hlo
  obtain ⟨S2, E2, F2, t1, t2⟩ := hr.afterCall hρ hobjs ⟨by simp, by simp⟩ hpls n3 hlo hleft r1
  exact hn _ _ _ r2 ⟨S2, E2, F2, t1.put t2⟩


/-- The head of an own row, as an own slice. -/
theorem outC_take (hr : Rel g S E F A a w) {n len : Nat} {N : Root} {v : Value} (hN : A.H[n]? = some (some N)) (c1 : N.dat = true) (c0 : N.es ≠ 0) (hlen : len ≤ N.rows.length) (hcp : (N.rows.all fun row => row.all C.cp) = true)
    (h : Rep w S E (.k false (.h n 0 len) v) []) : ∃ fp, Rep w S [] (.k false (.s true N.es (N.rows.take len)) v) fp ∧ (∀ x ∈ fp, ∃ r ∈ [n], ∃ f, F[r]? = some f ∧ x ∈ f) ∧ fp.Nodup := by
  obtain ⟨p, f, h1, h2, h3, h4⟩ := handle_live hr hN (.c h)
  obtain ⟨g1, g2, g3, g4, g5⟩ := h3
  obtain ⟨k1, k2⟩ := h4
  have hlen' : (N.rows.take len).length = len := by rw [List.length_take]; omega
  cases hat : p.at? with
  | none =>
    rw [hat] at k2 g5
    obtain ⟨ad, rfl⟩ := k2
    obtain ⟨e1, _, _⟩ := g5
    rw [e1, List.take_nil]
    exact ⟨[], .nilO, by simp, by simp⟩
  | some bo =>
    obtain ⟨b, off⟩ := bo
    rw [hat] at k2 g5
    obtain ⟨ad, cap, rfl, q2, q3, q4⟩ := k2
    obtain ⟨fr, rfl, e2, e3⟩ := g5
    by_cases hcap0 : cap = 0
    · subst hcap0
      have : len = 0 := by omega
      subst this
      rw [List.take_zero]
      exact ⟨[], .nilO, by simp, by simp⟩
    · have had : ad = ⟨b, off, none⟩ := by
        rcases q4 with q4 | q4
        · exact absurd q4 hcap0
        · rw [q4]; simp
      subst had
      rw [c1] at e3
      obtain ⟨f1, f2, f3, hff, hr2⟩ := flatten_sub g4 e3 0 len (by omega)
      rw [List.drop_zero] at hr2
      have hr2 : Rep w S E (.l true (N.rows.take len).flatten b off) f2 := by simpa using hr2
      have hf2 : f2 = [] := by
        refine cells_cp hr2 (rows_cp ?_)
        rw [List.all_eq_true]
        intro row hrow
        exact List.all_eq_true.1 hcp row (List.mem_of_mem_take hrow)
      subst hf2
      have := Rep.own (dat := false) (S := S) (w := w) (E := []) (es := N.es) (rows := N.rows.take len) (b := b) (off := off) (cap := cap) (fp := []) c0 (by
          obtain ⟨arr, el, z, m1, m2, m3⟩ := e2
          refine ⟨arr, el, z, m1, ?_, m3⟩
          have := Nat.mul_le_mul_right N.es (show cap ≤ p.m by omega)
          omega) (by rw [hlen']; exact q2) (fun r hr => g4 r (List.mem_of_mem_take hr)) (hr2.noenv rfl)
      rw [hlen'] at this
      exact ⟨[b], this, fun x hx => ⟨n, by simp, _, h2, by rw [List.mem_singleton.1 hx]; exact List.mem_cons_self ..⟩, by simp⟩

def closeT (A : St) (r e c : Nat) : Option St :=
  match A.H[r]? with
  | some (some R) => if R.dat = true then none else match R.rows[e]? with
    | some row => match row[c]? with
      | some (.h n 0 len) => match A.H[n]? with
        | some (some N) => if N.dat = true ∧ N.es ≠ 0 ∧ len ≤ N.rows.length ∧ (N.rows.all fun row => row.all C.cp) = true then
            some ⟨A.sl.map (D.kill n), ((killH n (A.H.set r (some ⟨false, R.es, R.rows.set e (row.set c .x)⟩))).set n none).set r
              (some ⟨false, R.es, ((R.rows.set e (row.set c .x)).map fun row => row.map (C.kill n)).set e (((row.set c .x).map (C.kill n)).set c (.s true N.es (N.rows.take len)))⟩)⟩ else none
        | _ => none
      | _ => none
    | none => none
  | _ => none

theorem closeT_sat {A' : St} {r e c : Nat} (ho : closeT A r e c = some A') (hs : Sat g A a w) : Sat g A' a w := by
  obtain ⟨S, E, F, hr⟩ := hs
  unfold closeT at ho
  split at ho
  · rename_i R hR
    split at ho
    · cases ho
    · rename_i hd
      have hd : R.dat = false := by simpa using hd
      split at ho
      · rename_i row hrow
        split at ho
        · rename_i n len hc
          split at ho
          · rename_i N hN
            split at ho
            · rename_i hcond
              cases ho
              have hnr : n ≠ r := fun h => by
                subst h
                rw [hR] at hN; cases hN
                rw [hd] at hcond; cases hcond.1
              obtain ⟨v, fc, f1, f3, b, p, h1, h2, h3, h4, ⟨off, ha, hv⟩, h5⟩ := hr.cellAt hR hd hrow hc (by simp)
              have hfc : fc = [] := by cases h3; rfl
              subst hfc
              obtain ⟨fp, k1, k2, k3⟩ := outC_take hr hN hcond.1 hcond.2.1 hcond.2.2.1 hcond.2.2.2 h3
              have q1 := hr.refoot (f' := b :: (f1 ++ ([] ++ f3))) hR h1 h2 (h5 .x [] .x) h4 (fun x hx => .inl hx) hd.symm
              rw [set_same h2] at q1
              have q3 := (q1.kill n).dropRoot n
              have hRx : ((St.kill n { A with H := A.H.set r (some ⟨false, R.es, R.rows.set e (row.set c .x)⟩) }).H.set n none)[r]? = some (some ⟨false, R.es, (R.rows.set e (row.set c .x)).map fun row => row.map (C.kill n)⟩) := by
                rw [List.getElem?_set_ne hnr]
                simp only [St.kill, killH, List.getElem?_map]
                rw [List.getElem?_set_self (lt_len hR)]
                rfl
              obtain ⟨v2, fc2, g1, g3, b2, p2, u1, u2, u3, u4, ⟨off2, hb, hv2⟩, u5⟩ := q3.cellAt (r := r) (e := e) (c := c) (c0 := .x) hRx rfl
                (by rw [List.getElem?_map, List.getElem?_set_self (lt_len hrow)]; rfl) (by rw [List.getElem?_map, List.getElem?_set_self (lt_len hc)]; rfl) (by simp)
              cases u3
              rw [List.getElem?_set_ne hnr, h1] at u1
              cases u1
              rw [ha] at hb
              cases hb
              rw [hv] at hv2
              cases hv2
              have hsub : ∀ x ∈ fp, ∃ f, F[n]? = some f ∧ x ∈ f := by
                intro x hx
                obtain ⟨i, hi, f, m1, m2⟩ := k2 x hx
                rw [List.mem_singleton] at hi
                subst hi
                exact ⟨f, m1, m2⟩
              have hout : ∀ x ∈ fp, x ∉ (F.set n []).flatten := by
                intro x hx hm
                obtain ⟨f, m1, m2⟩ := hsub x hx
                obtain ⟨f', m3, m4⟩ := List.mem_flatten.1 hm
                obtain ⟨i, hi⟩ := List.getElem?_of_mem m3
                rw [List.getElem?_set] at hi
                split at hi
                · rename_i hni
                  rw [if_pos (lt_len m1)] at hi
                  cases hi; cases m4
                · rename_i hni
                  exact hni (apart hr m1 hi m2 m4)
              have t5 := q3.refoot (f' := b :: (g1 ++ (fp ++ g3))) hRx (by rw [List.getElem?_set_ne hnr]; exact h1) u2 (u5 (.s true N.es (N.rows.take len)) fp (k1.noenv (.inr rfl))) (by
                have y1 := List.nodup_cons.1 u4
                have y2 := List.nodup_append.1 y1.2
                have sub : ∀ x, x ∈ b :: (g1 ++ ([] ++ g3)) → x ∈ (F.set n []).flatten := flat_get u2
                have no : ∀ x ∈ fp, x ∉ b :: (g1 ++ ([] ++ g3)) := fun x hx h => hout x hx (sub x h)
                refine List.nodup_cons.2 ⟨fun h => ?_, List.nodup_append.2 ⟨y2.1, List.nodup_append.2 ⟨k3, by simpa using y2.2.1, fun x hx y hy hxy => ?_⟩, fun x hx y hy hxy => ?_⟩⟩
                · rcases List.mem_append.1 h with h | h
                  · exact y1.1 (List.mem_append_left _ h)
                  · rcases List.mem_append.1 h with h | h
                    · exact no b h (List.mem_cons_self ..)
                    · exact y1.1 (List.mem_append_right _ (by simpa using h))
                · subst hxy
                  exact no x hx (List.mem_cons_of_mem _ (List.mem_append_right _ (by simpa using hy)))
                · subst hxy
                  rcases List.mem_append.1 hy with h | h
                  · exact no x h (List.mem_cons_of_mem _ (List.mem_append_left _ hx))
                  · exact y2.2.2 x hx x (by simpa using h) rfl) (by
                intro x hx
                rcases List.mem_cons.1 hx with h | h
                · left; rw [h]; exact List.mem_cons_self ..
                · rcases List.mem_append.1 h with h | h
                  · left; exact List.mem_cons_of_mem _ (List.mem_append_left _ h)
                  · rcases List.mem_append.1 h with h | h
                    · right
                      obtain ⟨f, m1, m2⟩ := hsub x h
                      exact ⟨hout x h, hr.fS x (flat_get m1 x m2), hr.fsz x (flat_get m1 x m2)⟩
                    · left; exact List.mem_cons_of_mem _ (List.mem_append_right _ (by simpa using h))) rfl
              exact ⟨S, _, _, t5⟩
            · cases ho
          · cases ho
        · cases ho
      · cases ho
  · cases ho


theorem tri_closeT {code : Code} {Q : Exit → St → Prop} {A' : St} (r e c : Nat) (ho : closeT A r e c = some A') (h : Tri P code A' Q) : Tri P code A Q :=
  Tri.weak (fun _ _ _ hs => closeT_sat ho hs) h

end

section
variable {P : Program} {Φ : Fs}

theorem rr_callF {ops : Array Oper} {o : Oper} {os : List Oper} {A : St} {K : St → Prop} {c : Call} {k : FuncId} {caps : List C} {f : Operand} {ds ds' : List D} {ρ B : List Nat} {objs objs' : List Obj} {spec : Spec} {d : D}
    (hg : o.guard = none) (ho : o.op = .call c) (hop : o.op.operands.toList.all opdOK = true) (hc : c.callee = .value f) (hf : A.ev f = some (.c (.f k caps))) (hk : callable P k = true) (hds : evsA A c.args.toList = some ds)
    (harg : argFs A.H ρ (ds ++ caps.map .c) = some (ds', B)) (hρ : ρ.Nodup) (hobjs : objsAt A.H ρ = some objs) (hm : Meets P k spec) (hs : spec ds' objs (fun d' os' => d' = d ∧ os' = objs'))
    (hB : B = [] ∨ (d.ni = true ∧ ∀ o ∈ objs', Obj.ni o = true)) (h : RunR P ops os (St.put { A with H := (settle (setObjs A.H ρ objs') d).2 } o.dst (settle (setObjs A.H ρ objs') d).1) K) : RunR P ops (o :: os) A K := by
  refine rr_step (R := fun A' => A' = St.put { A with H := (settle (setObjs A.H ρ objs') d).2 } o.dst (settle (setObjs A.H ρ objs') d).1) hg (step_callF ho hop hc hf hk hds harg hρ hobjs hm hs ?_) (by rintro _ rfl; exact h)
  rintro _ _ ⟨rfl, rfl⟩ _
  exact ⟨hB, rfl⟩


/-- A function with what it captures. -/
theorem evs_vs {g : G} {S : Nat → Prop} {E : Env} {F : List (List Nat)} {A : St} {a : Act} {w : World} (hr : Rel g S E F A a w) : ∀ {xs : List Operand} {caps : List C}, (∀ x ∈ xs, opdOK x = true) → evsA A xs = some (caps.map .c) → Rep w S E (.vs caps (xs.map a.eval)) []
  | [], caps, _, h => by
    cases caps with
    | nil => exact .vnil
    | cons c cs => simp [evsA] at h
  | x :: xs, caps, hop, h => by
    simp only [evsA] at h
    split at h
    · rename_i d ds h1 h2
      cases caps with
      | nil => simp at h
      | cons c cs =>
        simp only [List.map_cons, Option.some.injEq, List.cons.injEq] at h
        obtain ⟨rfl, rfl⟩ := h
        have hx := ev_rep hr (hop x (List.mem_cons_self ..)) h1
        cases hx with
        | c hx => exact .vcons (f1 := []) (f2 := []) hx (evs_vs hr (fun y hy => hop y (List.mem_cons_of_mem _ hy)) h2)
    · cases h

theorem step_makeFunc {o : Oper} {A : St} {k : FuncId} {cap : Array Operand} {caps : List C} (ho : o.op = .makeFunc (.func k) #[] cap) (hop : cap.toList.all opdOK = true) (hd : evsA A cap.toList = some (caps.map .c)) : Step P o A (fun A' => A' = A.put o.dst (.c (.f k caps))) := by
  intro g a w ⟨S, E, F, hr⟩ next Q hn
  have h1 : (execOp a.eval o).run P w = .ok (.value (.func (.func k) #[] (cap.map a.eval))) w := by
    simp [execOp, ho, Instr.makeFunc, Sem.run_bind, Sem.run_pure, Sem.run]
  unfold Oper.wp
  rw [h1]
  refine hn _ _ _ rfl ⟨S, E, F, hr.put (.c (.f (.inl rfl) ?_))⟩
  have := evs_vs hr (fun x hx => List.all_eq_true.1 hop x hx) hd
  simpa using this

theorem rr_makeFunc {ops : Array Oper} {o : Oper} {os : List Oper} {A : St} {K : St → Prop} {k : FuncId} {cap : Array Operand} {caps : List C} (hg : o.guard = none) (ho : o.op = .makeFunc (.func k) #[] cap) (hop : cap.toList.all opdOK = true) (hd : evsA A cap.toList = some (caps.map .c))
    (h : RunR P ops os (A.put o.dst (.c (.f k caps))) K) : RunR P ops (o :: os) A K :=
  rr_step hg (step_makeFunc ho hop hd) (by rintro _ rfl; exact h)

/-- A nil slice in a slot, as an empty slice that is nobody's. -/
def nilS (A : St) (t es : Nat) : Option St :=
  match A.sl[t]? with
  | some (.c (.s true _ [])) => some ⟨A.sl.set t (.c (.s false es [])), A.H⟩
  | _ => none

theorem nilS_sat {g : G} {A A' : St} {a : Act} {w : World} {t es : Nat} (ho : nilS A t es = some A') (hs : Sat g A a w) : Sat g A' a w := by
  obtain ⟨S, E, F, hr⟩ := hs
  unfold nilS at ho
  split at ho
  · rename_i es0 ht
    cases ho
    have hv := hr.sl t _ ht
    generalize hval : a.tmps.getD t undef = v at hv
    have hn : ∃ ad, v = .slice ad 0 0 := by
      cases hv with
      | c h =>
        generalize hfp : ([] : List Nat) = fp at h
        cases h with
        | nilO => exact ⟨_, rfl⟩
        | own _ _ _ _ _ => cases hfp
    obtain ⟨ad, rfl⟩ := hn
    refine ⟨S, E, F, { hr with len := by rw [List.length_set]; exact hr.len, sl := ?_ }⟩
    intro i d hd
    rw [List.getElem?_set] at hd
    split at hd
    · rename_i hti
      subst hti
      rw [if_pos (lt_len ht)] at hd
      cases hd
      rw [hval]; exact .c .nilI
    · exact hr.sl i d hd
  · cases ho

theorem tri_nilS {code : Code} {Q : Exit → St → Prop} {A A' : St} (t es : Nat) (ho : nilS A t es = some A') (h : Tri P code A' Q) : Tri P code A Q :=
  Tri.weak (fun _ _ _ hs => nilS_sat ho hs) h

/-- One piece of code behind another, with what holds between. -/
theorem seq_cut {x z : Code} {A : St} {Q : Exit → St → Prop} (I : St → Prop) (h2 : ∀ A', I A' → Tri P z A' Q) (h1 : Tri P x A (thenQ I Q)) : Tri P (.seq x z) A Q :=
  tri_seq (h1.mono fun e A' h => by cases e <;> first | exact h2 A' h | exact h)

end
end Go.Dl

namespace Go.Dl
open Go.RowKit

section
variable {P : Program} {Φ : Fs}

def SwapK (P : Program) (Φ : Fs) (K : St → Prop) (ops : Array Oper) (x y : Oper) : Prop :=
  ∀ (g : G) (A A1 A2 : St), Ok g A → K A → xstep P Φ ops x A = some A1 → xstep P Φ ops y A1 = some A2 → ∃ B, xstep P Φ ops y A = some B ∧ xstep P Φ ops x B = some A2

def Keep (P : Program) (Φ : Fs) (K : St → Prop) (ops : Array Oper) : Prop := ∀ o ∈ ops.toList, ∀ A A' : St, K A → xstep P Φ ops o A = some A' → K A'

def SwapsK (P : Program) (Φ : Fs) (K : St → Prop) (ops : Array Oper) : Prop :=
  (∀ (j : Nat) (y : Oper), ops[j]? = some y → ∀ e ∈ y.after, Region.binds .any e = true → e.on < j) ∧
  ∀ (i j : Nat) (x y : Oper), i < j → ops[i]? = some x → ops[j]? = some y → reach ops ops.size j i = false → SwapK P Φ K ops x y

theorem frontK {K : St → Prop} (hΦ : FsOK P Φ) {ops : Array Oper} (hok : opsOK ops = true) (hK : Keep P Φ K ops) (hsw : SwapsK P Φ K ops) {g : G} {j : Nat} {y : Oper} (hy : ops[j]? = some y) {post : List Nat} {Af : St} :
    ∀ (pre : List Nat) (A : St), Ok g A → K A → (∀ i ∈ pre, i < j ∧ reach ops ops.size j i = false) → runI P Φ ops (pre ++ j :: post) A = some Af →
      ∃ B, xstep P Φ ops y A = some B ∧ runI P Φ ops (pre ++ post) B = some Af := by
  intro pre
  induction pre with
  | nil =>
    intro A _ _ _ h
    simp only [List.nil_append, runI, hy] at h
    cases hx : xstep P Φ ops y A with
    | none => rw [hx] at h; cases h
    | some B => rw [hx] at h; exact ⟨B, rfl, h⟩
  | cons i pre ih =>
    intro A hA hkA hall h
    simp only [List.cons_append, runI] at h
    cases hi : ops[i]? with
    | none => rw [hi] at h; cases h
    | some x =>
      rw [hi] at h
      simp only at h
      cases hx : xstep P Φ ops x A with
      | none => rw [hx] at h; cases h
      | some A1 =>
        rw [hx] at h
        have hin : x ∈ ops.toList := by simpa using Array.mem_of_getElem? hi
        have hA1 := xstep_ok hΦ (List.all_eq_true.1 hok x hin) hx hA
        obtain ⟨B1, h1, h2⟩ := ih A1 hA1 (hK x hin A A1 hkA hx) (fun k hk => hall k (List.mem_cons_of_mem _ hk)) h
        obtain ⟨q1, q2⟩ := hall i (List.mem_cons_self ..)
        obtain ⟨B, k1, k2⟩ := hsw.2 i j x y q1 hi hy q2 g A A1 B1 hA hkA hx h1
        refine ⟨B, k1, ?_⟩
        simp only [List.cons_append, runI, hi, k2]
        exact h2

theorem wpAny_runK {K : St → Prop} (hΦ : FsOK P Φ) {ops : Array Oper} (hok : opsOK ops = true) (hK : Keep P Φ K ops) (hsw : SwapsK P Φ K ops) {g : G} {Q : Exit → Act → World → Prop} {Af : St} (hQ : ∀ a' w', Sat g Af a' w' → Q .normal a' w') :
    ∀ (fuel : Nat) (listed : Array Bool) (A : St) (a : Act) (w : World), listed.size = ops.size → (remI ops listed).length ≤ fuel → Closed ops listed → Sat g A a w → K A →
      runI P Φ ops (remI ops listed) A = some Af → wpAny P .any ops Q fuel listed a w := by
  have least : ∀ listed : Array Bool, listed.size = ops.size → Region.ready .any ops listed = [] → remI ops listed = [] := by
    intro listed hsz hr
    cases hrem : remI ops listed with
    | nil => rfl
    | cons k rest =>
      exfalso
      have hk := mem_remI.1 (show k ∈ remI ops listed by rw [hrem]; exact List.mem_cons_self ..)
      have hsort := remI_sorted ops listed
      rw [hrem, List.pairwise_cons] at hsort
      have : k ∈ Region.ready .any ops listed := by
        refine mem_ready.2 ⟨hk.2, ops[k]'hk.1, Array.getElem?_eq_getElem hk.1, fun e he hb => ?_⟩
        have hlt := hsw.1 k _ (Array.getElem?_eq_getElem hk.1) e he hb
        rw [← getD_both (by omega)]
        refine Classical.byContradiction fun hn => ?_
        have hm : e.on ∈ remI ops listed := mem_remI.2 ⟨by omega, by simpa using hn⟩
        rw [hrem] at hm
        rcases List.mem_cons.1 hm with h | h
        · omega
        · have := hsort.1 _ h; omega
      rw [hr] at this
      cases this
  intro fuel
  induction fuel with
  | zero =>
    intro listed A a w hsz hl hcl hs hkA h
    have : remI ops listed = [] := List.length_eq_zero_iff.1 (by omega)
    rw [this] at h
    cases h
    refine ⟨?_, hQ a w hs⟩
    cases hr : Region.ready .any ops listed with
    | nil => rfl
    | cons i l =>
      exfalso
      obtain ⟨h0, o, ho, _⟩ := mem_ready.1 (show i ∈ Region.ready .any ops listed by rw [hr]; exact List.mem_cons_self ..)
      have : i ∈ remI ops listed := mem_remI.2 ⟨(Array.getElem?_eq_some_iff.1 ho).1, h0⟩
      rw [‹remI ops listed = []›] at this
      cases this
  | succ fuel ih =>
    intro listed A a w hsz hl hcl hs hkA h
    refine ⟨fun hr => ?_, fun j hj => ?_⟩
    · rw [least listed hsz hr] at h
      cases h
      exact hQ a w hs
    · obtain ⟨h0, y, hy, hall⟩ := mem_ready.1 hj
      have hjs := (Array.getElem?_eq_some_iff.1 hy).1
      have hm : j ∈ remI ops listed := mem_remI.2 ⟨hjs, h0⟩
      obtain ⟨pre, post, hsplit⟩ := List.append_of_mem hm
      have hsort := remI_sorted ops listed
      rw [hsplit, List.pairwise_append, List.pairwise_cons] at hsort
      obtain ⟨_, ⟨s2, _⟩, s3⟩ := hsort
      rw [hsplit] at h
      obtain ⟨B, k1, k2⟩ := frontK hΦ hok hK hsw hy pre A ⟨a, w, hs⟩ hkA (fun i hi => by
        refine ⟨s3 i hi j (List.mem_cons_self ..), ?_⟩
        refine Classical.byContradiction fun hn => ?_
        have hl := reach_listed hcl ops.size j i (by simpa using hn) fun o ho => by rw [hy] at ho; cases ho; exact hall
        have hi' := mem_remI.1 (show i ∈ remI ops listed by rw [hsplit]; exact List.mem_append_left _ hi)
        rw [getD_both (by omega), hl] at hi'
        cases hi'.2) h
      have hin : y ∈ ops.toList := by simpa using Array.mem_of_getElem? hy
      refine xstep_wp hΦ hy (List.all_eq_true.1 hok y hin) k1 hs fun a' w' hs' => ?_
      have hrem : remI ops (listed.setIfInBounds j true) = pre ++ post := by
        have e1 : remI ops (listed.setIfInBounds j true) = (remI ops listed).filter (fun k => k != j) := by
          unfold remI
          rw [List.filter_filter]
          refine List.filter_congr fun k hk => ?_
          by_cases hkj : k = j
          · subst hkj
            simp [hsz ▸ hjs]
          · rw [getD_set_ne true (Ne.symm hkj)]; simp [hkj]
        rw [e1, hsplit, List.filter_append, List.filter_cons_of_neg (by simp)]
        rw [List.filter_eq_self.2 fun k hk => by have := s3 k hk j (List.mem_cons_self ..); simp; omega,
          List.filter_eq_self.2 fun k hk => by have := s2 k hk; simp; omega]
      refine ih _ B a' w' (by simp [hsz]) (by rw [hrem]; rw [hsplit] at hl; simp at hl ⊢; omega) ?_ hs' (hK y hin A B hkA k1) (by rw [hrem]; exact k2)
      intro i o ho hli e he hb
      by_cases hij : i = j
      · subst hij
        rw [hy] at ho; cases ho
        exact getD_set_true (hall e he hb)
      · rw [getD_set_ne false (Ne.symm hij)] at hli
        exact getD_set_true (hcl i o ho hli e he hb)

/-- A region that draws its order: the same, with what is known of the states between. -/
theorem tri_anyK {K : St → Prop} (hm : P.follows .mixedOrders = true) (hΦ : FsOK P Φ) {id : Nat} {ops : Array Oper} {A A' : St} {Q : Exit → St → Prop} (hok : opsOK ops = true) (hK : Keep P Φ K ops) (hsw : SwapsK P Φ K ops) (hkA : K A)
    (h : runf P Φ ops ops.toList A = some A') (hQ : Q .normal A') : Tri P (.region id ops true) A Q := by
  intro g a w hs
  refine wp_region_any hm ?_
  have h0 : remI ops (Array.replicate ops.size false) = List.range ops.size := by
    unfold remI
    refine List.filter_eq_self.2 fun i hi => ?_
    have := List.mem_range.1 hi
    simp [this]
  refine wpAny_runK hΦ hok hK hsw (Af := A') (fun a' w' hs' => ⟨A', hs', hQ⟩) ops.size _ A a _ (by simp) (by rw [h0]; simp) ?_ (hs.drawn _ (Nat.le_succ _)) hkA ?_
  · intro j o ho hl e he hb
    have hj := (Array.getElem?_eq_some_iff.1 ho).1
    simp [hj] at hl
  · rw [h0, List.range_eq_range', ← runI_range ops.size 0 A (by omega)]
    simpa using h


/-- A store leaves the other roots as they are. -/
theorem store_other {A : St} {t : TypeId} {b v : Operand} {d d' : D} {H2 : List (Option Root)} (hb : A.ev b = some d') (h : act P Φ A (.store t b v) = some (d, H2)) (r : Nat) (hr : d'.no r = true) : A.H[r]? = H2[r]? := by
  simp only [act, hb] at h
  split at h <;> try cases h
  rename_i d1 cells h1 h2
  cases h1
  split at h <;> try cases h
  cases hs : storeA A.H cells d' with
  | none => rw [hs] at h; cases h
  | some H1 =>
    rw [hs] at h; cases h
    unfold storeA at hs
    split at hs <;> try cases hs
    rename_i r' e c
    split at hs <;> try cases hs
    split at hs <;> try cases hs
    split at hs <;> try cases hs
    have hne : r' ≠ r := by simpa [D.no, C.no] using hr
    rw [List.getElem?_set_ne hne]

theorem act_store_some {A : St} {t : TypeId} {b v : Operand} {d : D} {H2 : List (Option Root)} (h : act P Φ A (.store t b v) = some (d, H2)) : ∃ d', A.ev b = some d' := by
  simp only [act] at h
  split at h
  · rename_i d1 _ h1 _; exact ⟨d1, h1⟩
  · cases h

theorem swap_ls {K : St → Prop} {ops : Array Oper} {x y : Oper} {t t' : TypeId} {a b v : Operand} (hx0 : x.guard = none) (hy0 : y.guard = none) (hx : x.op = .load t a) (hy : y.op = .store t' b v) (hap : x.apart ops y = true)
    (hab : ∀ A, K A → ∀ d d', A.ev a = some d → A.ev b = some d' → ∀ r, d.no r = false → d'.no r = true) : SwapK P Φ K ops x y := by
  intro g A A1 A2 hA hkA h1 h2
  obtain ⟨p1, p2, p3⟩ := Oper.apart_spec hap
  have hcx : cl P Φ x.op = .L := by rw [hx]; rfl
  have hcy : cl P Φ y.op = .S := by rw [hy]; rfl
  have hxN : cl P Φ x.op ≠ .N := by rw [hcx]; intro h; cases h
  have hyN : cl P Φ y.op ≠ .N := by rw [hcy]; intro h; cases h
  rw [xstep_gact hxN] at h1
  rw [xstep_gact hyN] at h2
  cases hgx : gact P Φ ops x A with
  | none => rw [hgx] at h1; cases h1
  | some rx =>
    rw [hgx] at h1; cases h1
    cases hgy : gact P Φ ops y (A.with x.dst rx) with
    | none => rw [hgy] at h2; cases h2
    | some ry =>
      rw [hgy] at h2; cases h2
      obtain ⟨d, H1⟩ := rx
      obtain ⟨e, H2⟩ := ry
      have hH1 : H1 = A.H := by
        obtain ⟨o, h1, _⟩ := gact_quiet (A := A) (A' := A) (ops := ops) (.inr hcx) (fun _ _ => rfl) (fun _ _ _ _ _ _ _ => rfl) (fun _ _ _ _ _ _ _ => rfl)
        rw [h1] at hgx
        cases o <;> simp at hgx
        exact hgx.2.symm
      subst hH1
      have hy1 : gact P Φ ops y A = some (e, H2) := by
        rw [gact_congr hyN (A' := A.with x.dst (d, A.H)) (agree_with p1) (with_H (r := (d, A.H))).symm]; exact hgy
      refine ⟨A.with y.dst (e, H2), by rw [xstep_gact hyN, hy1]; rfl, ?_⟩
      have hyact : act P Φ A (.store t' b v) = some (e, H2) := by
        have := hy1
        unfold gact at this
        rw [hy0] at this
        rw [← hy]; exact this
      obtain ⟨db, hdb⟩ := act_store_some hyact
      have hx1 : gact P Φ ops x (A.with y.dst (e, H2)) = some (d, H2) := by
        obtain ⟨o, h1, h2⟩ := gact_quiet (A := A) (A' := A.with y.dst (e, H2)) (ops := ops) (.inr hcx) (agree_with p3)
          (fun hF z hz dz hdz r hr => by rw [hcx] at hF; cases hF)
          (fun hL z hz dz hdz r hr => by
            rw [with_H]
            rw [hx] at hz
            have hz : z = a := by simpa [Op.operands] using hz
            subst hz
            exact store_other hdb hyact r (hab A hkA dz db hdz hdb r hr))
        rw [h1] at hgx
        rw [h2, with_H]
        cases o <;> simp at hgx
        rw [hgx]; rfl
      rw [xstep_gact hxN, hx1]
      simp only [Option.map_some]
      rw [with_comm (H2 := H2) p2]

theorem swap_sl {K : St → Prop} {ops : Array Oper} {x y : Oper} {t t' : TypeId} {a b v : Operand} (hx0 : x.guard = none) (hy0 : y.guard = none) (hx : x.op = .store t' b v) (hy : y.op = .load t a) (hap : x.apart ops y = true)
    (hab : ∀ A, K A → ∀ d d', A.ev a = some d → A.ev b = some d' → ∀ r, d.no r = false → d'.no r = true) : SwapK P Φ K ops x y := by
  intro g A A1 A2 hA hkA h1 h2
  obtain ⟨p1, p2, p3⟩ := Oper.apart_spec hap
  have hcx : cl P Φ x.op = .S := by rw [hx]; rfl
  have hcy : cl P Φ y.op = .L := by rw [hy]; rfl
  have hxN : cl P Φ x.op ≠ .N := by rw [hcx]; intro h; cases h
  have hyN : cl P Φ y.op ≠ .N := by rw [hcy]; intro h; cases h
  rw [xstep_gact hxN] at h1
  rw [xstep_gact hyN] at h2
  cases hgx : gact P Φ ops x A with
  | none => rw [hgx] at h1; cases h1
  | some rx =>
    rw [hgx] at h1; cases h1
    cases hgy : gact P Φ ops y (A.with x.dst rx) with
    | none => rw [hgy] at h2; cases h2
    | some ry =>
      rw [hgy] at h2; cases h2
      obtain ⟨d, H1⟩ := rx
      obtain ⟨e, H2⟩ := ry
      have hxact : act P Φ A (.store t' b v) = some (d, H1) := by
        have := hgx
        unfold gact at this
        rw [hx0] at this
        rw [← hx]; exact this
      obtain ⟨db, hdb⟩ := act_store_some hxact
      obtain ⟨o, q1, q2⟩ := gact_quiet (A := A) (A' := A.with x.dst (d, H1)) (ops := ops) (o := y) (.inr hcy) (agree_with p1)
        (fun hF z hz dz hdz r hr => by rw [hcy] at hF; cases hF)
        (fun hL z hz dz hdz r hr => by
          rw [with_H]
          rw [hy] at hz
          have hz : z = a := by simpa [Op.operands] using hz
          subst hz
          exact store_other hdb hxact r (hab A hkA dz db hdz hdb r hr))
      rw [q2, with_H] at hgy
      cases o with
      | none => simp at hgy
      | some e0 =>
        simp only [Option.map_some, Option.some.injEq, Prod.mk.injEq] at hgy
        obtain ⟨rfl, rfl⟩ := hgy
        refine ⟨A.with y.dst (e0, A.H), by rw [xstep_gact hyN, q1]; rfl, ?_⟩
        have hx1 : gact P Φ ops x (A.with y.dst (e0, A.H)) = some (d, H1) := by
          rw [← gact_congr hxN (A := A) (agree_with p3) (with_H (r := (e0, A.H))).symm]; exact hgx
        rw [xstep_gact hxN, hx1]
        exact congrArg some (with_comm (H2 := A.H) (H3 := H1) p2).symm

/-- Slots that speak of one root at most. -/
def Tagged (tg : List (Nat × Nat)) (A : St) : Prop := ∀ t r, (t, r) ∈ tg → ∀ d, A.sl[t]? = some d → ∀ r', d.no r' = false → r' = r

def tagOp (tg : List (Nat × Nat)) (o : Oper) : Bool :=
  tg.all fun e => o.dst != some e.1 || match o.op with
    | .move (.tmp s) => tg.contains (s, e.2)
    | .nilCheck (.tmp s) => tg.contains (s, e.2)
    | .fieldAddr _ (.tmp s) _ => tg.contains (s, e.2)
    | _ => false

theorem tag_keep {tg : List (Nat × Nat)} {ops : Array Oper} (h1 : (ops.toList.all fun o => cl P Φ o.op != .N) = true) (h2 : (ops.toList.all (tagOp tg)) = true) : Keep P Φ (Tagged tg) ops := by
  intro o ho A A' hA hx
  have hN : cl P Φ o.op ≠ .N := by have := List.all_eq_true.1 h1 o ho; simpa using this
  have ht := List.all_eq_true.1 h2 o ho
  rw [xstep_gact hN] at hx
  cases hg : gact P Φ ops o A with
  | none => rw [hg] at hx; cases hx
  | some rd =>
    rw [hg] at hx; cases hx
    obtain ⟨d0, H0⟩ := rd
    intro t r htr d hd r' hr'
    by_cases hdst : o.dst = some t
    · unfold tagOp at ht
      have ht := List.all_eq_true.1 ht (t, r) htr
      simp only [hdst, bne_self_eq_false, Bool.false_or] at ht
      have hd0 : d = d0 := by
        unfold St.with St.put at hd
        rw [hdst] at hd
        simp only [List.getElem?_set] at hd
        split at hd
        · split at hd
          · cases hd; rfl
          · cases hd
        · rename_i hh; exact absurd trivial hh
      subst hd0
      have key : act P Φ A o.op = some (d, H0) ∨ d = .t [] := by
        unfold gact at hg
        split at hg
        · exact .inl hg
        · split at hg <;> try cases hg
          split at hg <;> try cases hg
          · split at hg
            · exact .inl hg
            · cases hg; exact .inr rfl
          · exact .inr rfl
      rcases key with key | rfl
      · cases hop : o.op <;> rw [hop] at ht <;> first | (simp at ht; done) | skip
        · rename_i x
          cases x <;> first | (simp at ht; done) | skip
          rename_i s
          rw [hop] at key
          simp only [act, qev, St.ev] at key
          cases hs : A.sl[s]? with
          | none => rw [hs] at key; cases key
          | some ds =>
            rw [hs] at key; cases key
            exact hA s r (by simpa using ht) d hs r' hr'
        · rename_i x
          cases x <;> first | (simp at ht; done) | skip
          rename_i s
          rw [hop] at key
          simp only [act, qev, St.ev] at key
          cases hs : A.sl[s]? with
          | none => rw [hs] at key; cases key
          | some ds =>
            rw [hs] at key
            simp only [Option.bind_some] at key
            refine hA s r (by simpa using ht) ds hs r' ?_
            unfold qnil at key
            split at key
            · split at key
              · cases key; exact hr'
              · cases key
            · cases key; exact hr'
            · cases key; exact hr'
            · cases key
        · rename_i ty x i
          cases x <;> first | (simp at ht; done) | skip
          rename_i s
          rw [hop] at key
          simp only [act, qev, St.ev] at key
          cases hs : A.sl[s]? with
          | none => rw [hs] at key; cases key
          | some ds =>
            rw [hs] at key
            simp only [Option.bind_some] at key
            refine hA s r (by simpa using ht) ds hs r' ?_
            unfold qfieldAddr at key
            split at key <;> try cases key
            split at key <;> try cases key
            split at key
            · cases key
            · split at key
              · split at key
                · cases key; simpa [D.no, C.no] using hr'
                · cases key
              · cases key
                exact absurd hr' (by simp [D.no])
              · cases key
      · simp [D.no, D.nos] at hr'
    · rw [with_sl hdst] at hd
      exact hA t r htr d hd r' hr'

def apartTag (tg : List (Nat × Nat)) (a b : Nat) : Bool := tg.any fun e => e.1 == a && tg.any fun f => f.1 == b && e.2 != f.2

theorem apartTag_spec {tg : List (Nat × Nat)} {a b : Nat} (h : apartTag tg a b = true) {A : St} (hA : Tagged tg A) {d d' : D} (h1 : A.ev (.tmp a) = some d) (h2 : A.ev (.tmp b) = some d') (r : Nat) (hr : d.no r = false) : d'.no r = true := by
  unfold apartTag at h
  rw [List.any_eq_true] at h
  obtain ⟨⟨t, r1⟩, m1, h⟩ := h
  rw [Bool.and_eq_true, beq_iff_eq, List.any_eq_true] at h
  obtain ⟨rfl, ⟨t', r2⟩, m2, h⟩ := h
  rw [Bool.and_eq_true, beq_iff_eq] at h
  obtain ⟨rfl, hne⟩ := h
  have e1 := hA _ _ m1 d h1 r hr
  cases hd : d'.no r with
  | true => rfl
  | false =>
    have e2 := hA _ _ m2 d' h2 r hd
    simp only [bne_iff_ne, ne_eq] at hne
    exact absurd (e1.symm.trans e2) hne

def lsOK (tg : List (Nat × Nat)) (x y : Oper) : Bool :=
  x.guard.isNone && y.guard.isNone && match x.op, y.op with
    | .load _ (.tmp a), .store _ (.tmp b) _ => apartTag tg a b
    | .store _ (.tmp b) _, .load _ (.tmp a) => apartTag tg a b
    | _, _ => false

theorem lsOK_swap {tg : List (Nat × Nat)} {ops : Array Oper} {x y : Oper} (h : lsOK tg x y = true) (hap : x.apart ops y = true) : SwapK P Φ (Tagged tg) ops x y := by
  unfold lsOK at h
  rw [Bool.and_eq_true, Bool.and_eq_true, Option.isNone_iff_eq_none, Option.isNone_iff_eq_none] at h
  obtain ⟨⟨h1, h2⟩, h⟩ := h
  split at h
  · rename_i hx hy
    exact swap_ls h1 h2 hx hy hap fun A hA d d' e1 e2 r hr => apartTag_spec h hA e1 e2 r hr
  · rename_i hx hy
    exact swap_sl h1 h2 hx hy hap fun A hA d d' e1 e2 r hr => apartTag_spec h hA e1 e2 r hr
  · cases h

/-- May the order be open, where slots speak of these roots? -/
def anyOKK (P : Program) (Φ : Fs) (tg : List (Nat × Nat)) (ops : Array Oper) : Bool :=
  (ops.toList.all fun o => cl P Φ o.op != .N) && ops.toList.all (tagOp tg) &&
  (List.range ops.size).all fun j => match ops[j]? with
    | none => true
    | some y => (y.after.toList.all fun e => !Region.binds .any e || decide (e.on < j)) && (List.range j).all fun i => reach ops ops.size j i || match ops[i]? with
      | some z => (okCl (cl P Φ z.op) (cl P Φ y.op) || lsOK tg z y) && z.apart ops y
      | none => true

theorem anyOKK_spec {tg : List (Nat × Nat)} {ops : Array Oper} (h : anyOKK P Φ tg ops = true) : Keep P Φ (Tagged tg) ops ∧ SwapsK P Φ (Tagged tg) ops := by
  unfold anyOKK at h
  rw [Bool.and_eq_true, Bool.and_eq_true] at h
  obtain ⟨⟨hN, hT⟩, h⟩ := h
  refine ⟨tag_keep hN hT, ?_⟩
  rw [List.all_eq_true] at h
  have h' : ∀ (j : Nat) (y : Oper), ops[j]? = some y → (y.after.toList.all fun e => !Region.binds .any e || decide (e.on < j)) = true ∧
      ((List.range j).all fun i => reach ops ops.size j i || match ops[i]? with
        | some x => (okCl (cl P Φ x.op) (cl P Φ y.op) || lsOK tg x y) && x.apart ops y
        | none => true) = true := by
    intro j y hy
    have := h j (List.mem_range.2 (Array.getElem?_eq_some_iff.1 hy).1)
    rw [hy] at this
    simpa only [Bool.and_eq_true] using this
  refine ⟨fun j y hy e he hb => ?_, fun i j x y hij hx hy hr => ?_⟩
  · have := List.all_eq_true.1 (h' j y hy).1 e (by simpa using he)
    rw [hb] at this
    simpa using this
  · have := List.all_eq_true.1 (h' j y hy).2 i (List.mem_range.2 hij)
    rw [hr, hx, Bool.false_or, Bool.and_eq_true, Bool.or_eq_true] at this
    rcases this with ⟨h1 | h1, h2⟩
    · intro g A A1 A2 hA _ k1 k2
      exact swap_ok h1 h2 g A A1 A2 hA k1 k2
    · exact lsOK_swap h1 h2

def ktag (sl : List D) (tg : List (Nat × Nat)) : Bool := tg.all fun e => match sl[e.1]? with
  | some (.c (.p r _ _)) => r == e.2
  | some .top => true
  | none => true
  | _ => false

theorem ktag_spec {A : St} {tg : List (Nat × Nat)} (h : ktag A.sl tg = true) : Tagged tg A := by
  intro t r htr d hd r' hr'
  have := List.all_eq_true.1 h (t, r) htr
  simp only [hd] at this
  split at this
  · rename_i r0 e c hh
    cases hh
    have h1 : r0 = r := by simpa using this
    have h2 : r0 = r' := by simpa [D.no, C.no] using hr'
    omega
  · rename_i hh; cases hh; simp [D.no] at hr'
  · rename_i hh; cases hh
  · cases this

theorem seq_anyK {A A' : St} {Q : Exit → St → Prop} (tg : List (Nat × Nat)) (hm : P.follows .mixedOrders = true) (hΦ : FsOK P Φ) {id : Nat} {l : List Oper} {y : Code} (hok : opsOK l.toArray = true) (hsw : anyOKK P Φ tg l.toArray = true) (hk : ktag A.sl tg = true) (h : runf P Φ l.toArray l A = some A') (hy : Tri P y A' Q) :
    Tri P (.seq (.region id l.toArray true) y) A Q :=
  tri_seq (tri_anyK hm hΦ hok (anyOKK_spec hsw).1 (anyOKK_spec hsw).2 (ktag_spec hk) (by simpa using h) hy)

theorem any_endK {A A' : St} {Q : Exit → St → Prop} (tg : List (Nat × Nat)) (hm : P.follows .mixedOrders = true) (hΦ : FsOK P Φ) {id : Nat} {l : List Oper} (hok : opsOK l.toArray = true) (hsw : anyOKK P Φ tg l.toArray = true) (hk : ktag A.sl tg = true) (h : runf P Φ l.toArray l A = some A') (hQ : Q .normal A') :
    Tri P (.region id l.toArray true) A Q :=
  tri_anyK hm hΦ hok (anyOKK_spec hsw).1 (anyOKK_spec hsw).2 (ktag_spec hk) (by simpa using h) hQ

end
end Go.Dl

namespace Go.Dl
open Go.RowKit
open Go.Proofs
set_option linter.unusedSimpArgs false
set_option linter.unusedVariables false

def isLetter (c : Int) : Bool := (decide (97 ≤ c) && decide (c ≤ 122)) || (decide (65 ≤ c) && decide (c ≤ 90)) || decide (c = 95)
def isDigit (c : Int) : Bool := decide (48 ≤ c) && decide (c ≤ 57)
def isWordC (c : Int) : Bool := isLetter c || isDigit c
def notNL (c : Int) : Bool := !decide (c = 10)

def pU8 (f : Int → Bool) : List D → Option D
  | [.c (.v (.int .u8 c))] => some (dB (f c))
  | _ => none

theorem meets53 : Meets Try.prog 53 (pureS (pU8 isLetter)) := by
  refine meets_of_tri (show Try.prog.funcs[53]? = some Try.f53 by kernel_rfl) rfl (n := 21) rfl (rs := [ResultVar.tmp 2]) rfl ?_
  rintro args objs Q ⟨rfl, d, hd, hQ⟩
  unfold pU8 at hd
  split at hd
  · rename_i c
    cases hd
    refine seq_run ok0 rfl (by repeat (first | with_reducible exact runf_nil | refine runf_cons (by simp only [xstep, stepf, stepx, qev, St.ev, St.put, constD, constC, List.set_cons_zero, List.set_cons_succ, List.replicate, List.length_cons, List.length_nil, List.cons_append, List.nil_append, List.map_nil, Option.map_some, Nat.reduceSub, Option.some.injEq, Nat.zero_add]; rfl) ?_)) ?_
    by_cases h1 : 97 ≤ c
    · by_cases h2 : c ≤ 122
      · refine seq_run ok0 rfl (by repeat (first | with_reducible exact runf_nil | refine runf_cons (by simp only [xstep, stepf, stepx, qev, St.ev, St.put, qpick, qint, qshift, isEq, qeq, isShift, qbin, constD, constC, List.getElem?_cons_zero, List.getElem?_cons_succ, List.set_cons_zero, List.set_cons_succ, Option.bind_some, Option.map_some, Option.map_none, if_true, if_false, decide_true, cond_true, List.getElem?_toArray, Option.some.injEq, reduceCtorEq, Bool.false_eq_true, tk5, eq_true h1, eq_true h2]; rfl) ?_)) ?_
        refine tri_ret (ends_ret (by simp only [outRes, resDs, resD, outD, outC, C.dat, List.getElem?_cons_zero, List.getElem?_cons_succ, Option.map_some, if_true, Option.some.injEq]; rfl) rfl .nil (by simp) ?_)
        simpa [isLetter, h1, h2, dB] using hQ
      · refine seq_run ok0 rfl (by repeat (first | with_reducible exact runf_nil | refine runf_cons (by simp only [xstep, stepf, stepx, qev, St.ev, St.put, qpick, qint, qshift, isShift, qbin, constD, constC, List.getElem?_cons_zero, List.getElem?_cons_succ, List.set_cons_zero, List.set_cons_succ, Option.bind_some, Option.map_some, Option.map_none, if_true, if_false, decide_true, decide_false, cond_true, cond_false, List.getElem?_toArray, Option.some.injEq, Bool.false_eq_true, eq_true h1, eq_false h2, show (65 ≤ c) = True from eq_true (by omega), show (c ≤ 90) = False from eq_false (by omega), show (c = 95) = False from eq_false (by omega)]; rfl) ?_)) ?_
        refine tri_ret (ends_ret (by simp only [outRes, resDs, resD, outD, outC, C.dat, List.getElem?_cons_zero, List.getElem?_cons_succ, Option.map_some, if_true, Option.some.injEq]; rfl) rfl .nil (by simp) ?_)
        simpa [isLetter, h1, h2, show ¬ c ≤ 90 by omega, show ¬ c = 95 by omega, dB] using hQ
    · by_cases h3 : 65 ≤ c
      · by_cases h4 : c ≤ 90
        · refine seq_run ok0 rfl (by repeat (first | with_reducible exact runf_nil | refine runf_cons (by simp only [xstep, stepf, stepx, qev, St.ev, St.put, qpick, qint, qshift, isEq, qeq, isShift, qbin, constD, constC, List.getElem?_cons_zero, List.getElem?_cons_succ, List.set_cons_zero, List.set_cons_succ, Option.bind_some, Option.map_some, Option.map_none, if_true, if_false, decide_true, decide_false, cond_true, cond_false, List.getElem?_toArray, Option.some.injEq, reduceCtorEq, Bool.false_eq_true, tk5, eq_false h1, eq_true h3, eq_true h4]; rfl) ?_)) ?_
          refine tri_ret (ends_ret (by simp only [outRes, resDs, resD, outD, outC, C.dat, List.getElem?_cons_zero, List.getElem?_cons_succ, Option.map_some, if_true, Option.some.injEq]; rfl) rfl .nil (by simp) ?_)
          simpa [isLetter, h3, h4, dB] using hQ
        · refine seq_run ok0 rfl (by repeat (first | with_reducible exact runf_nil | refine runf_cons (by simp only [xstep, stepf, stepx, qev, St.ev, St.put, qpick, qint, qshift, isEq, isShift, qbin, constD, constC, List.getElem?_cons_zero, List.getElem?_cons_succ, List.set_cons_zero, List.set_cons_succ, Option.bind_some, Option.map_some, Option.map_none, if_true, if_false, decide_true, decide_false, cond_true, cond_false, List.getElem?_toArray, Option.some.injEq, Bool.false_eq_true, eq_false h1, eq_true h3, eq_false h4]; rfl) ?_)) ?_
          refine tri_ret (ends_ret (by simp only [outRes, resDs, resD, outD, outC, C.dat, List.getElem?_cons_zero, List.getElem?_cons_succ, Option.map_some, if_true, Option.some.injEq]; rfl) rfl .nil (by simp) ?_)
          simpa [isLetter, h1, h4, dB] using hQ
      · refine seq_run ok0 rfl (by repeat (first | with_reducible exact runf_nil | refine runf_cons (by simp only [xstep, stepf, stepx, qev, St.ev, St.put, qpick, qint, qshift, isEq, isShift, qbin, constD, constC, List.getElem?_cons_zero, List.getElem?_cons_succ, List.set_cons_zero, List.set_cons_succ, Option.bind_some, Option.map_some, Option.map_none, if_true, if_false, decide_false, cond_false, List.getElem?_toArray, Option.some.injEq, Bool.false_eq_true, eq_false h1, eq_false h3]; rfl) ?_)) ?_
        refine tri_ret (ends_ret (by simp only [outRes, resDs, resD, outD, outC, C.dat, List.getElem?_cons_zero, List.getElem?_cons_succ, Option.map_some, if_true, Option.some.injEq]; rfl) rfl .nil (by simp) ?_)
        simpa [isLetter, h1, h3, dB] using hQ
  · cases hd

theorem meets56 : Meets Try.prog 56 (pureS (pU8 isDigit)) := by
  refine meets_of_tri (show Try.prog.funcs[56]? = some Try.f56 by kernel_rfl) rfl (n := 9) rfl (rs := [ResultVar.tmp 2]) rfl ?_
  rintro args objs Q ⟨rfl, d, hd, hQ⟩
  unfold pU8 at hd
  split at hd
  · rename_i c
    cases hd
    refine seq_run ok0 rfl (by repeat (first | with_reducible exact runf_nil | refine runf_cons (by simp only [xstep, stepf, stepx, qev, St.ev, St.put, constD, constC, List.set_cons_zero, List.set_cons_succ, List.replicate, List.length_cons, List.length_nil, List.cons_append, List.nil_append, List.map_nil, Option.map_some, Nat.reduceSub, Option.some.injEq, Nat.zero_add]; rfl) ?_)) ?_
    by_cases h1 : 48 ≤ c
    · refine seq_run ok0 rfl (by repeat (first | with_reducible exact runf_nil | refine runf_cons (by simp only [xstep, stepf, stepx, qev, St.ev, St.put, qpick, qint, qshift, isShift, qbin, constD, constC, List.getElem?_cons_zero, List.getElem?_cons_succ, List.set_cons_zero, List.set_cons_succ, Option.bind_some, Option.map_some, Option.map_none, if_true, if_false, decide_true, cond_true, List.getElem?_toArray, Option.some.injEq, Bool.false_eq_true, eq_true h1]; rfl) ?_)) ?_
      refine tri_ret (ends_ret (by simp only [outRes, resDs, resD, outD, outC, C.dat, List.getElem?_cons_zero, List.getElem?_cons_succ, Option.map_some, if_true, Option.some.injEq]; rfl) rfl .nil (by simp) ?_)
      simpa [isDigit, h1, dB] using hQ
    · refine seq_run ok0 rfl (by repeat (first | with_reducible exact runf_nil | refine runf_cons (by simp only [xstep, stepf, stepx, qev, St.ev, St.put, qpick, qint, qshift, isEq, isShift, qbin, constD, constC, List.getElem?_cons_zero, List.getElem?_cons_succ, List.set_cons_zero, List.set_cons_succ, Option.bind_some, Option.map_some, Option.map_none, if_true, if_false, decide_false, cond_false, List.getElem?_toArray, Option.some.injEq, Bool.false_eq_true, eq_false h1]; rfl) ?_)) ?_
      refine tri_ret (ends_ret (by simp only [outRes, resDs, resD, outD, outC, C.dat, List.getElem?_cons_zero, List.getElem?_cons_succ, Option.map_some, if_true, Option.some.injEq]; rfl) rfl .nil (by simp) ?_)
      simpa [isDigit, h1, dB] using hQ
  · cases hd

def FsL1 : Fs := { Fs.none with pure := fun k => if k = 53 then some (pU8 isLetter) else if k = 56 then some (pU8 isDigit) else none }
theorem okL1 : FsOK Try.prog FsL1 := by
  refine ⟨fun k f h => ?_, fun _ _ h => (by cases h)⟩
  simp only [FsL1] at h
  split at h
  · rename_i hk; subst hk; cases h; exact ⟨by kernel_rfl, meets53⟩
  split at h
  · rename_i hk; subst hk; cases h; exact ⟨by kernel_rfl, meets56⟩
  · cases h

theorem meets55 : Meets Try.prog 55 (pureS (pU8 isWordC)) := by
  refine meets_of_tri (show Try.prog.funcs[55]? = some Try.f55 by kernel_rfl) rfl (n := 9) rfl (rs := [ResultVar.tmp 2]) rfl ?_
  rintro args objs Q ⟨rfl, d, hd, hQ⟩
  unfold pU8 at hd
  split at hd
  · rename_i c
    cases hd
    have hl : pU8 isLetter [.c (.v (.int .u8 c))] = some (dB (isLetter c)) := rfl
    have hd : pU8 isDigit [.c (.v (.int .u8 c))] = some (dB (isDigit c)) := rfl
    refine seq_run ok0 rfl (by repeat (first | with_reducible exact runf_nil | refine runf_cons (by simp only [xstep, stepf, stepx, qev, St.ev, St.put, constD, constC, List.set_cons_zero, List.set_cons_succ, List.replicate, List.length_cons, List.length_nil, List.cons_append, List.nil_append, List.map_nil, Option.map_some, Nat.reduceSub, Option.some.injEq, Nat.zero_add]; rfl) ?_)) ?_
    cases h : isLetter c with
    | true =>
      rw [h] at hl
      refine seq_run okL1 rfl (by repeat (first | with_reducible exact runf_nil | refine runf_cons (by simp only [xstep, stepf, stepx, evsA, qev, St.ev, St.put, St.with, C.cpy, qpick, C.cp, C.dat, constD, constC, List.getElem?_cons_zero, List.getElem?_cons_succ, List.set_cons_zero, List.set_cons_succ, List.append_nil, List.map_nil, Option.bind_some, Option.map_some, Option.map_none, Nat.reduceEqDiff, if_true, if_false, cond_true, List.getElem?_toArray, Option.some.injEq, reduceCtorEq, Bool.and_self, Bool.or_true, dB, callP, callO, Fs.none, argDs, argD, argC, D.ni, D.ni1, C.ni, settle, settle1, settleC, List.isEmpty_nil, FsL1, hl]; rfl) ?_)) ?_
      refine tri_ret (ends_ret (by simp only [outRes, resDs, resD, outD, outC, C.dat, List.getElem?_cons_zero, List.getElem?_cons_succ, Option.map_some, if_true, Option.some.injEq]; rfl) rfl .nil (by simp) ?_)
      simpa [isWordC, h, dB] using hQ
    | false =>
      rw [h] at hl
      refine seq_run okL1 rfl (by repeat (first | with_reducible exact runf_nil | refine runf_cons (by simp only [xstep, stepf, stepx, evsA, qev, St.ev, St.put, St.with, C.cpy, qpick, C.cp, C.dat, constD, constC, List.getElem?_cons_zero, List.getElem?_cons_succ, List.set_cons_zero, List.set_cons_succ, List.append_nil, List.map_nil, Option.bind_some, Option.map_some, Nat.reduceEqDiff, if_true, if_false, cond_false, List.getElem?_toArray, Option.some.injEq, Bool.and_self, Bool.or_true, dB, callP, Fs.none, argDs, argD, argC, D.ni, D.ni1, C.ni, settle, settle1, settleC, List.isEmpty_nil, FsL1, hl, hd]; rfl) ?_)) ?_
      refine tri_ret (ends_ret (by simp only [outRes, resDs, resD, outD, outC, C.dat, List.getElem?_cons_zero, List.getElem?_cons_succ, Option.map_some, if_true, Option.some.injEq]; rfl) rfl .nil (by simp) ?_)
      simpa [isWordC, h, dB] using hQ
  · cases hd

theorem meets71 : Meets Try.prog 71 (pureS (pU8 notNL)) := by
  refine meets_of_tri (show Try.prog.funcs[71]? = some Try.f71 by kernel_rfl) rfl (n := 5) rfl (rs := [ResultVar.tmp 2]) rfl ?_
  rintro args objs Q ⟨rfl, d, hd, hQ⟩
  unfold pU8 at hd
  split at hd
  · rename_i c
    cases hd
    refine seq_run ok0 rfl (by repeat (first | with_reducible exact runf_nil | refine runf_cons (by simp only [xstep, stepf, stepx, qev, St.ev, St.put, constD, constC, List.set_cons_zero, List.set_cons_succ, List.replicate, List.length_cons, List.length_nil, List.cons_append, List.nil_append, List.map_nil, Option.map_some, Nat.reduceSub, Option.some.injEq, Nat.zero_add]; rfl) ?_)) ?_
    refine seq_run ok0 rfl (by repeat (first | with_reducible exact runf_nil | refine runf_cons (by simp only [xstep, stepf, stepx, qev, St.ev, St.put, qint, qshift, isShift, qbin, constD, constC, List.getElem?_cons_zero, List.getElem?_cons_succ, List.set_cons_zero, List.set_cons_succ, Option.map_some, Option.map_none, if_true, if_false, Option.some.injEq, Bool.false_eq_true]; rfl) ?_)) ?_
    refine tri_ret (ends_ret (by simp only [outRes, resDs, resD, outD, outC, C.dat, List.getElem?_cons_zero, List.getElem?_cons_succ, Option.map_some, if_true, Option.some.injEq]; rfl) rfl .nil (by simp) ?_)
    simpa [notNL, dB] using hQ
  · cases hd

end Go.Dl

namespace Go.Dl
open Go.RowKit
open Go.Proofs
set_option linter.unusedSimpArgs false
set_option linter.unusedVariables false

def idxB (s : ByteArray) (c : Int) : Int := Lib.indexByte s.data.toList c.toNat.toUInt8

theorem run_idx (s : ByteArray) (c : Int) (w : World) : (callFunc 83 #[.string s, .int .u8 c]).run Try.prog w = .ok (.value (.int .i64 (idxB s c))) w := by
  rw [run_callFunc_extern (fn := Try.f83) (by kernel_rfl) (by kernel_rfl) (by kernel_rfl) (by kernel_rfl) (e := Extern.BytealgIndexByte.indexByte) (by kernel_rfl), Lib.run_indexByteString]
  rfl

theorem indexByte_range : ∀ (l : List UInt8) (c : UInt8), -1 ≤ Lib.indexByte l c ∧ Lib.indexByte l c < l.length + 1
  | [], c => by simp [Lib.indexByte]
  | b :: l, c => by
    have := indexByte_range l c
    simp only [Lib.indexByte, List.length_cons]
    split
    · omega
    · split
      · omega
      · omega

theorem exec_ext2 {P : Program} {w w' : World} {o : Oper} {c : Call} {k : FuncId} {x y : Operand} {e : Operand → Value} {v u v' : Value} (ho : o.op = .call c) (hc : c.callee = .value (.func k)) (ha : c.args = #[x, y])
    (hf : e (.func k) = .func (.func k) #[] #[]) (hx : e x = v) (hy : e y = u) (h : (callFunc k #[v, u]).run P w = .ok (.value v') w') : (execOp e o).run P w = .ok (.value v') w' := by
  simp only [execOp, ho, Sem.run_bind, resolve, hc, Deferred.ofValue, hf, Sem.run_pure, Result.andThen_ok]
  have harr : (#[] ++ c.args.map e ++ #[] : Array Value) = #[v, u] := by rw [ha]; simp [hx, hy]
  simp only [invoke]
  rw [harr]
  exact h

def pIdxB : List D → Option D
  | [.c (.v (.string s)), .c (.v (.int .u8 c))] => if s.size ≤ 1000000 then some (dI (idxB s c)) else none
  | _ => none

theorem meets73 : Meets Try.prog 73 (pureS pIdxB) := by
  refine meets_of_tri (show Try.prog.funcs[73]? = some Try.f73 by kernel_rfl) rfl (n := 8) rfl (rs := [ResultVar.tmp 4]) rfl ?_
  rintro args objs Q ⟨rfl, d, hd, hQ⟩
  unfold pIdxB at hd
  split at hd
  · rename_i s c
    split at hd
    · rename_i hs
      cases hd
      refine seq_run ok0 rfl (by repeat (first | with_reducible exact runf_nil | refine runf_cons (by simp only [xstep, stepf, stepx, qev, St.ev, St.put, constD, constC, List.set_cons_zero, List.set_cons_succ, List.replicate, List.length_cons, List.length_nil, List.cons_append, List.nil_append, List.map_nil, Option.map_some, Nat.reduceAdd, Nat.reduceSub, Option.some.injEq, Nat.zero_add]; rfl) ?_)) ?_
      refine seq_runR ?_
      refine rr_det ok0 rfl (by simp only [xstep, stepf, stepx, qev, St.ev, St.put, List.getElem?_cons_zero, List.set_cons_zero, List.set_cons_succ, Option.map_some, Option.some.injEq]; rfl) ?_
      refine rr_det ok0 rfl (by simp only [xstep, stepf, stepx, qev, St.ev, St.put, List.getElem?_cons_zero, List.getElem?_cons_succ, List.set_cons_zero, List.set_cons_succ, Option.map_some, Option.some.injEq]; rfl) ?_
      refine rr_gen (T := fun v => v = .int .i64 (idxB s c)) rfl rfl ?_ ?_
      · intro e w S E he hc hf
        have h5 := sc_of (he (.tmp 5) (by simp [Op.operands, Call.operands]) _ rfl)
        have h6 := sc_of (he (.tmp 6) (by simp [Op.operands, Call.operands]) _ rfl)
        refine ⟨_, w, exec_ext2 rfl rfl rfl (hf _) h5 h6 (run_idx s c w), .inl rfl, ?_, rfl⟩
        have hr := indexByte_range s.data.toList c.toNat.toUInt8
        have hl : s.data.toList.length = s.size := B_length s
        show (decide (-9223372036854775808 ≤ Lib.indexByte s.data.toList c.toNat.toUInt8) && decide (Lib.indexByte s.data.toList c.toNat.toUInt8 ≤ 9223372036854775807)) = true
        rw [Bool.and_eq_true, decide_eq_true_eq, decide_eq_true_eq]
        omega
      rintro _ rfl
      refine rr_det ok0 rfl (by simp only [xstep, stepf, stepx, qev, St.ev, St.put, List.getElem?_cons_zero, List.getElem?_cons_succ, List.set_cons_zero, List.set_cons_succ, Option.map_some, Option.some.injEq]; rfl) (rr_nil ?_)
      refine tri_ret (ends_ret (by simp only [outRes, resDs, resD, outD, outC, C.dat, List.getElem?_cons_zero, List.getElem?_cons_succ, Option.map_some, if_true, Option.some.injEq]; rfl) rfl (by simp) (by simp) ?_)
      exact hQ
    · cases hd
  · cases hd

def FsL2 : Fs := { Fs.none with pure := fun k => if k = 73 then some pIdxB else none }
theorem okL2 : FsOK Try.prog FsL2 := by
  refine ⟨fun k f h => ?_, fun _ _ h => (by cases h)⟩
  simp only [FsL2] at h
  split at h
  · rename_i hk; subst hk; cases h; exact ⟨by kernel_rfl, meets73⟩
  · cases h

theorem meets58 : Meets Try.prog 58 (pureS pIdxB) := by
  refine meets_of_tri (show Try.prog.funcs[58]? = some Try.f58 by kernel_rfl) rfl (n := 8) rfl (rs := [ResultVar.tmp 4]) rfl ?_
  rintro args objs Q ⟨rfl, d, hd, hQ⟩
  unfold pIdxB at hd
  split at hd
  · rename_i s c
    split at hd
    · rename_i hs
      cases hd
      have hI : pIdxB [.c (.v (.string s)), .c (.v (.int .u8 c))] = some (dI (idxB s c)) := if_pos hs
      refine seq_run ok0 rfl (by repeat (first | with_reducible exact runf_nil | refine runf_cons (by simp only [xstep, stepf, stepx, qev, St.ev, St.put, constD, constC, List.set_cons_zero, List.set_cons_succ, List.replicate, List.length_cons, List.length_nil, List.cons_append, List.nil_append, List.map_nil, Option.map_some, Nat.reduceAdd, Nat.reduceSub, Option.some.injEq, Nat.zero_add]; rfl) ?_)) ?_
      refine seq_run okL2 rfl (by repeat (first | with_reducible exact runf_nil | refine runf_cons (by simp only [xstep, stepf, stepx, evsA, qev, St.ev, St.put, St.with, C.cpy, C.cp, C.dat, List.getElem?_cons_zero, List.getElem?_cons_succ, List.set_cons_zero, List.set_cons_succ, List.append_nil, List.map_nil, Option.map_some, if_true, Option.some.injEq, Bool.and_self, Bool.or_true, dI, callP, Fs.none, argDs, argD, argC, D.ni, D.ni1, C.ni, settle, settle1, settleC, List.isEmpty_nil, FsL2, hI]; rfl) ?_)) ?_
      refine tri_ret (ends_ret (by simp only [outRes, resDs, resD, outD, outC, C.dat, List.getElem?_cons_zero, List.getElem?_cons_succ, Option.map_some, if_true, Option.some.injEq]; rfl) rfl (by simp) (by simp) ?_)
      exact hQ
    · cases hd
  · cases hd

end Go.Dl
