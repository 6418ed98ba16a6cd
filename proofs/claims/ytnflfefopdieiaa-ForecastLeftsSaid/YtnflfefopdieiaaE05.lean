/- 'Dl', part Wa: a call that is handed a function with what it captured; 'Dl', part X: operations with calls of known functions, as one function; 'Dl', part Y: when two operations may change places; 'Dl', part Z: on what an operation depends; 'Dl', part Za: what an operation leaves; when two may change places; 'Dl', part Zb: regions that draw their order; 'Dl', part Zc: states of which less is said; facts that a state holds; loops; 'Dl', part Ze: rules for walking straight on. -/
import Derived.Test.YtnflfefopdieiaaE04
set_option linter.all false
namespace Go.Dl
open Go.RowKit
/-- An argument; a function brings what it captured. -/
def argF (H : List (Option Root)) (ρ : List Nat) : D → Option (D × List Nat)
  | .c (.f k caps) => (argCs H ρ caps).map fun r => (.c (.f k r.1), r.2)
  | d => argD H ρ d
def argFs (H : List (Option Root)) (ρ : List Nat) : List D → Option (List D × List Nat)
  | [] => some ([], [])
  | d :: ds => match argF H ρ d, argFs H ρ ds with
    | some (d', l1), some (ds', l2) => some (d' :: ds', l1 ++ l2)
    | _, _ => none
section
variable {P : Program} {g : G} {S : Nat → Prop} {E : Env} {F : List (List Nat)} {A : St} {a : Act} {w : World}
theorem argF_sound (hr : Rel g S E F A a w) {ρ : List Nat} {pls : List Pl} (hp : ∀ (i r : Nat), ρ[i]? = some r → ∃ p, E[r]? = some (some p) ∧ pls[i]? = some p) {d d' : D} {v : Value} {B Bs : List Nat} (h : RepD w S E d v)
    (ha : argF A.H ρ d = some (d', B)) (hB : ∀ r ∈ B, r ∈ Bs) : RepD w (fun b => S b ∨ Lent F Bs b) (pls.map some) d' v ∧ ∀ r ∈ B, r ∉ ρ := by
  unfold argF at ha
  split at ha
  · rename_i k caps
    cases hc : argCs A.H ρ caps with
    | none => rw [hc] at ha; cases ha
    | some r =>
      rw [hc] at ha; cases ha
      cases h with
      | c h =>
        cases h with
        | f _ hh =>
          obtain ⟨h1, h2⟩ := argCs_sound hr hp hh hc hB
          exact ⟨.c (.f (.inl rfl) h1), h2⟩
  · exact argD_sound hr hp h ha hB
theorem argFs_sound (hr : Rel g S E F A a w) {ρ : List Nat} {pls : List Pl} (hp : ∀ (i r : Nat), ρ[i]? = some r → ∃ p, E[r]? = some (some p) ∧ pls[i]? = some p) : ∀ {ds ds' : List D} {vs : List Value} {B Bs : List Nat}, ds.length = vs.length →
    (∀ (i : Nat) (d : D), ds[i]? = some d → RepD w S E d (vs.getD i undef)) → argFs A.H ρ ds = some (ds', B) → (∀ r ∈ B, r ∈ Bs) →
    (ds'.length = ds.length ∧ ∀ (i : Nat) (d : D), ds'[i]? = some d → RepD w (fun b => S b ∨ Lent F Bs b) (pls.map some) d (vs.getD i undef)) ∧ ∀ r ∈ B, r ∉ ρ
  | [], ds', vs, B, Bs, hl, h, ha, hB => by cases ha; exact ⟨⟨rfl, by simp⟩, by simp⟩
  | d :: ds, ds', vs, B, Bs, hl, h, ha, hB => by
    simp only [argFs] at ha
    split at ha
    · rename_i d1 l1 ds1 l2 h1 h2
      cases ha
      cases vs with
      | nil => simp at hl
      | cons v vs =>
        obtain ⟨q1, q2⟩ := argF_sound hr hp (h 0 d rfl) h1 (fun r hr => hB r (List.mem_append_left _ hr))
        obtain ⟨⟨r0, r1⟩, r2⟩ := argFs_sound hr hp (vs := vs) (by simpa using hl) (fun i d hd => by have := h (i + 1) d (by simpa using hd); simpa using this) h2 (fun r hr => hB r (List.mem_append_right _ hr))
        refine ⟨⟨by simp [r0], fun i d' hd => ?_⟩, fun r hr => ?_⟩
        · cases i with
          | zero => simp at hd; subst hd; simpa using q1
          | succ i => have := r1 i d' (by simpa using hd); simpa using this
        · rcases List.mem_append.1 hr with h | h
          · exact q2 r h
          · exact r2 r h
    · cases ha
theorem step_callF {o : Oper} {c : Call} {A : St} {R : St → Prop} {k : FuncId} {caps : List C} {f : Operand} {ds ds' : List D} {ρ B : List Nat} {objs : List Obj} {spec : Spec} {Q : D → List Obj → Prop}
    (ho : o.op = .call c) (hop : o.op.operands.toList.all opdOK = true) (hc : c.callee = .value f) (hf : A.ev f = some (.c (.f k caps))) (hk : callable P k = true) (hds : evsA A c.args.toList = some ds)
    (harg : argFs A.H ρ (ds ++ caps.map .c) = some (ds', B)) (hρ : ρ.Nodup) (hobjs : objsAt A.H ρ = some objs) (hm : Meets P k spec) (hs : spec ds' objs Q)
    (hR : ∀ d objs', Q d objs' → objs'.length = objs.length → (B = [] ∨ (d.ni = true ∧ ∀ o ∈ objs', Obj.ni o = true)) ∧ R (St.put { A with H := (settle (setObjs A.H ρ objs') d).2 } o.dst (settle (setObjs A.H ρ objs') d).1)) :
    Step P o A R := by
  intro g a w ⟨S, E, F, hr⟩ next Q0 hn
  have hopm : ∀ x ∈ c.args.toList, opdOK x = true := fun x hx => List.all_eq_true.1 hop x (by rw [ho]; simp only [Op.operands, Call.operands, Array.toList_append, List.mem_append]; exact .inr hx)
  have hopf : opdOK f = true := List.all_eq_true.1 hop f (by rw [ho]; simp [Op.operands, Call.operands, hc])
  obtain ⟨e1, e2⟩ := evsA_spec hds
  -- the callee
  have hfv := ev_rep hr hopf hf
  have hcs : ∃ cs : Array Value, a.eval f = .func (.func k) #[] cs ∧ Rep w S E (.vs caps cs.toList) [] := by
    generalize a.eval f = vf at hfv
    cases hfv with
    | c h => cases h with
      | f _ hh => exact ⟨_, rfl, hh⟩
  obtain ⟨cs, hfe, hcaps⟩ := hcs
  have hrun : (execOp a.eval o).run P w = .ok (.enter k (c.args.map a.eval ++ cs)) w := by
    have h1 : (execOp a.eval o).run P w = (invoke (.fn (.func k) cs) (#[] ++ c.args.map a.eval)).run P w := by
      simp only [execOp, ho, Sem.run_bind, resolve, hc, Deferred.ofValue, hfe, Sem.run_pure, Result.andThen_ok]
    rw [h1]
    simp only [invoke, Array.empty_append]
    exact run_callFunc hk
  -- the objects
  obtain ⟨ob1, ob2⟩ := objsAt_spec hobjs
  have hρH : ∀ r ∈ ρ, ∃ R p f, A.H[r]? = some (some R) ∧ E[r]? = some (some p) ∧ F[r]? = some f ∧ RootAt w S E R p f := by
    intro r hrm
    obtain ⟨i, hi⟩ := List.getElem?_of_mem hrm
    have hi' := lt_len hi
    obtain ⟨r', R, q1, q2, _⟩ := ob2 i (objs[i]'(by omega)) (List.getElem?_eq_getElem _)
    rw [hi] at q1; cases q1
    obtain ⟨p, f, h1, h2, h3⟩ := hr.root r R q2
    exact ⟨R, p, f, q2, h1, h2, h3⟩
  let pl : Nat → Pl := fun r => ((E[r]?).getD none).getD ⟨none, 0, 0, 0⟩
  let fl : Nat → List Nat := fun r => (F[r]?).getD []
  have hpls : ∀ (i r : Nat), ρ[i]? = some r → ∃ p f, E[r]? = some (some p) ∧ F[r]? = some f ∧ (ρ.map pl)[i]? = some p ∧ (ρ.map fl)[i]? = some f := by
    intro i r hi
    obtain ⟨R, p, f, _, h1, h2, _⟩ := hρH r (List.mem_of_getElem? hi)
    exact ⟨p, f, h1, h2, by simp [pl, hi, h1], by simp [fl, hi, h2]⟩
  -- the arguments
  have hvals : (ds ++ caps.map D.c).length = ((c.args.map a.eval).toList ++ cs.toList).length := by
    have := vs_len hcaps
    simp [e1] at this ⊢
    omega
  have hrep : ∀ (i : Nat) (d : D), (ds ++ caps.map D.c)[i]? = some d → RepD w S E d (((c.args.map a.eval).toList ++ cs.toList).getD i undef) := by
    intro i d hd
    have hla : (c.args.map a.eval).toList.length = ds.length := by simp [e1]
    by_cases hi : i < ds.length
    · rw [List.getElem?_append_left hi] at hd
      obtain ⟨x, k1, k2⟩ := e2 i d hd
      have := ev_rep hr (hopm x (List.mem_of_getElem? k1)) k2
      have hx : ((c.args.map a.eval).toList ++ cs.toList).getD i undef = a.eval x := by
        rw [List.getD_eq_getElem?_getD, List.getElem?_append_left (by omega), Array.toList_map, List.getElem?_map, k1]; rfl
      rw [hx]; exact this
    · rw [List.getElem?_append_right (by omega), List.getElem?_map, Option.map_eq_some_iff] at hd
      obtain ⟨y, k1, rfl⟩ := hd
      obtain ⟨_, k2⟩ := vs_get hcaps
      obtain ⟨v, f, m1, m2, m3⟩ := k2 _ y k1
      have : f = [] := List.eq_nil_iff_forall_not_mem.2 fun x hx => by cases m3 x hx
      subst this
      have hx : ((c.args.map a.eval).toList ++ cs.toList).getD i undef = v := by
        rw [List.getD_eq_getElem?_getD, List.getElem?_append_right (by omega), hla, m1]; rfl
      rw [hx]; exact .c m2
  obtain ⟨⟨n1, n2⟩, n3⟩ := argFs_sound hr (pls := ρ.map pl) (fun i r hi => by obtain ⟨p, f, h1, _, h3, _⟩ := hpls i r hi; exact ⟨p, h1, h3⟩) (vs := (c.args.map a.eval).toList ++ cs.toList) hvals hrep harg (fun r hr => hr)
  have hfl : ∀ b, b ∈ (ρ.map fl).flatten → ∃ r ∈ ρ, ∃ f, F[r]? = some f ∧ b ∈ f := by
    intro b hb
    obtain ⟨f, h1, h2⟩ := List.mem_flatten.1 hb
    obtain ⟨r, h3, rfl⟩ := List.mem_map.1 h1
    obtain ⟨R, p, f', _, _, k2, _⟩ := hρH r h3
    exact ⟨r, h3, f', k2, by simpa [fl, k2] using h2⟩
  have hobjsAt : ObjsAt w (fun b => S b ∨ Lent F B b) objs (ρ.map pl) (ρ.map fl) := by
    refine ⟨by simp [ob1], by simp [ob1], fun i ob hob => ?_⟩
    obtain ⟨r, R, q1, q2, q3, q4⟩ := ob2 i ob hob
    obtain ⟨p, f, h1, h2, h3, h4⟩ := hpls i r q1
    obtain ⟨p0, f0, t1, t2, t3⟩ := hr.root r R q2
    rw [h1] at t1; cases t1
    rw [h2] at t2; cases t2
    refine ⟨p, f, h3, h4, ?_⟩
    subst q4
    obtain ⟨g1, g2, g3, g4, g5⟩ := t3
    refine ⟨g1, g2, g3, g4, ?_⟩
    cases hat : p.at? with
    | none => rw [hat] at g5; exact g5
    | some bo =>
      rw [hat] at g5
      obtain ⟨fr, u1, u2, u3⟩ := g5
      exact ⟨fr, u1, u2, ((u3.ldat (rows_dat q3)).noenv (E' := []) rfl).mono (fun b hb => .inl hb) (.refl _ _) (fun _ _ => rfl)⟩
  have hmeet := hm ds' objs Q hs w (fun b => S b ∨ Lent F B b) (c.args.map a.eval ++ cs) (ρ.map pl) (ρ.map fl) (by rw [n1]; simpa using hvals)
    (fun i d hd => by
      have := n2 i d hd
      rwa [← Array.toList_append, show ((c.args.map a.eval ++ cs).toList.getD i undef) = (c.args.map a.eval ++ cs).getD i undef by
        rw [List.getD_eq_getElem?_getD, Array.getElem?_toList, Array.getD_eq_getD_getElem?]] at this)
    hobjsAt
    (by
      refine nodup_flat ?_ ?_
      · intro f hf
        obtain ⟨r, h3, rfl⟩ := List.mem_map.1 hf
        obtain ⟨R, p, f', _, _, k2, _⟩ := hρH r h3
        simp only [fl, k2, Option.getD_some]
        exact nodup_at hr.nodup k2
      · intro i j f f' x hi hj hx hx'
        rw [List.getElem?_map, Option.map_eq_some_iff] at hi hj
        obtain ⟨ri, i1, rfl⟩ := hi
        obtain ⟨rj, j1, rfl⟩ := hj
        obtain ⟨_, _, fi, _, _, ki, _⟩ := hρH ri (List.mem_of_getElem? i1)
        obtain ⟨_, _, fj, _, _, kj, _⟩ := hρH rj (List.mem_of_getElem? j1)
        have := apart hr ki kj (by simpa [fl, ki] using hx) (by simpa [fl, kj] using hx')
        subst this
        exact (List.getElem?_inj (lt_len i1) hρ).1 (i1.trans j1.symm))
    (by
      intro b hb
      obtain ⟨r, h1, f, h2, h3⟩ := hfl b hb
      refine ⟨?_, (hr.fsz b (flat_get h2 b h3)).1⟩
      rintro (h | ⟨r', m1, f', m2, m3⟩)
      · exact hr.fS b (flat_get h2 b h3) h
      · have := apart hr h2 m2 h3 m3
        subst this
        exact n3 r m1 h1)
    (by
      rintro b (h | ⟨r', m1, f', m2, m3⟩)
      · exact (hr.Ssz b h).1
      · exact (hr.fsz b (flat_get m2 b m3)).1)
  unfold Oper.wp
  rw [hrun, Oper.upon_enter]
  refine hmeet.mono ?_
  rintro e w' ⟨v, d, objs', rfl, hQ, hlo, hleft⟩
  obtain ⟨r1, r2⟩ := hR d objs' hQ hlo
  obtain ⟨S2, E2, F2, t1, t2⟩ := hr.afterCall hρ hobjs ⟨by simp, by simp⟩ hpls n3 hlo hleft r1
  exact hn _ _ _ r2 ⟨S2, E2, F2, t1.put t2⟩
end
end Go.Dl

namespace Go.Dl
open Go.RowKit
/-- What is known of functions: those that take data and give data; those that also change objects. -/
structure Fs where
  pure : FuncId → Option (List D → Option D)
  objs : FuncId → Option (List D → List Obj → Option (D × List Obj))
  /-- Those that are handed slices to write in, or functions with what they captured. -/
  wide : FuncId → Bool := fun _ => false
def Fs.none : Fs := { pure := fun _ => .none, objs := fun _ => .none }
/-- A contract that says just what comes. -/
def detS (f : List D → List Obj → Option (D × List Obj)) : Spec := fun args objs Q => ∃ d os, f args objs = some (d, os) ∧ Q d os
def pureS (f : List D → Option D) : Spec := fun args objs Q => objs = [] ∧ ∃ d, f args = some d ∧ Q d []
structure FsOK (P : Program) (Φ : Fs) : Prop where
  pure : ∀ k f, Φ.pure k = some f → callable P k = true ∧ Meets P k (pureS f)
  objs : ∀ k f, Φ.objs k = some f → callable P k = true ∧ Meets P k (detS f)
/-- The roots that pointers name, each once. -/
def rootsC : C → List Nat
  | .p r _ _ => [r]
  | _ => []
def rootsD : D → List Nat
  | .c y => rootsC y
  | .agg xs => xs.flatMap rootsC
  | _ => []
def dedup : List Nat → List Nat
  | [] => []
  | x :: xs => let r := dedup xs; if r.contains x then r else x :: r
def callP (Φ : Fs) (ρ : Operand → Option D) (evs : List Operand → Option (List D)) (H : List (Option Root)) (c : Call) : Option (D × List (Option Root)) :=
  match c.callee with
  | .value f => match ρ f with
    | some (.c (.f k caps)) => match Φ.pure k, evs c.args.toList with
      | some F, some ds => match Yg H [] (ds ++ caps.map .c) with
        | some (ds', B) => match F ds' with
          | some d => if B.isEmpty || d.ni then some (settle H d) else none
          | none => none
        | none => none
      | _, _ => none
    | _ => none
  | _ => none
/-- The roots that slices' handles name, too, and those that functions captured. -/
def rootsW : C → List Nat
  | .p r _ _ => [r]
  | .h r _ _ => [r]
  | .f _ caps => caps.flatMap rootsC
  | _ => []
def rootsOf (wide : Bool) : D → List Nat
  | .c y => cond wide (rootsW y) (rootsC y)
  | .agg xs => cond wide (xs.flatMap rootsW) (xs.flatMap rootsC)
  | _ => []
def callO (Φ : Fs) (ρ : Operand → Option D) (evs : List Operand → Option (List D)) (H : List (Option Root)) (c : Call) : Option (D × List (Option Root)) :=
  match c.callee with
  | .value f => match ρ f with
    | some (.c (.f k caps)) => match Φ.objs k, evs c.args.toList with
      | some F, some ds => let rs := dedup (rootsOf (Φ.wide k) (.agg (caps ++ ds.filterMap D.cell))) 
        match cond (Φ.wide k) (argFs H rs (ds ++ caps.map .c)) (Yg H rs (ds ++ caps.map .c)), objsAt H rs with
        | some (ds', B), some os => match F ds' os with
          | some (d, os') => if os'.length = os.length ∧ (B.isEmpty || (d.ni && os'.all Obj.ni)) = true then some (settle (setObjs H rs os') d) else none
          | none => none
        | _, _ => none
      | _, _ => none
    | _ => none
  | _ => none
def Y4 (P : Program) (Φ : Fs) (A : St) (dst : Option Tmp) (op : Op) : Option St :=
  match op with
  | .call c => match c.callee with
    | .value _ => match callP Φ A.ev (evsA A) A.H c with
      | some r => some (A.with dst r)
      | none => (callO Φ A.ev (evsA A) A.H c).map (A.with dst)
    | _ => Y6 P A dst op
  | op => Y6 P A dst op
theorem dedup_nodup : ∀ l : List Nat, (dedup l).Nodup
  | [] => .nil
  | x :: xs => by
    simp only [dedup]
    split
    · exact dedup_nodup xs
    · rename_i h
      refine List.nodup_cons.2 ⟨fun hx => h ?_, dedup_nodup xs⟩
      simpa using hx
section
variable {P : Program} {Φ : Fs}
theorem stepf_ok (hΦ : FsOK P Φ) {o : Oper} {A A' : St} {R : St → Prop} (hop : o.op.operands.toList.all opdOK = true) (h : Y4 P Φ A o.dst o.op = some A') (hR : R A') : Step P o A R := by
  unfold Y4 at h
  split at h
  · rename_i c ho
    split at h
    · rename_i f hf
      split at h
      · rename_i r hr
        cases h
        unfold callP at hr
        rw [hf] at hr
        simp only at hr
        split at hr
        · rename_i k caps hev
          split at hr
          · rename_i F ds hF hds
            split at hr
            · rename_i ds' B harg
              split at hr
              · rename_i d hd
                split at hr
                · rename_i hB
                  cases hr
                  obtain ⟨h1, h2⟩ := hΦ.pure k F hF
                  refine step_call ho hop hf hev h1 hds harg .nil (objs := []) rfl h2 (Q := fun d' os => d' = d ∧ os = []) ⟨rfl, d, hd, rfl, rfl⟩ ?_
                  rintro _ _ ⟨rfl, rfl⟩ _
                  refine ⟨?_, hR⟩
                  rw [Bool.or_eq_true, List.isEmpty_iff] at hB
                  exact hB.imp id fun h => ⟨h, by simp⟩
                · cases hr
              · cases hr
            · cases hr
          · cases hr
        · cases hr
      · rename_i hr0
        cases hr : callO Φ A.ev (evsA A) A.H c with
        | none => rw [hr] at h; cases h
        | some r =>
          rw [hr] at h; cases h
          unfold callO at hr
          rw [hf] at hr
          simp only at hr
          split at hr
          · rename_i k caps hev
            split at hr
            · rename_i F ds hF hds
              split at hr
              · rename_i ds' B os harg hos
                split at hr
                · rename_i d os' hd
                  split at hr
                  · rename_i hB
                    cases hr
                    obtain ⟨h1, h2⟩ := hΦ.objs k F hF
                    have fin : ∀ d1 os1, d1 = d ∧ os1 = os' → os1.length = os.length → (B = [] ∨ (d1.ni = true ∧ ∀ o ∈ os1, Obj.ni o = true)) ∧ R (St.put { A with H := (settle (setObjs A.H (dedup (rootsOf (Φ.wide k) (.agg (caps ++ ds.filterMap D.cell)))) os1) d1).2 } o.dst (settle (setObjs A.H (dedup (rootsOf (Φ.wide k) (.agg (caps ++ ds.filterMap D.cell)))) os1) d1).1) := by
                      rintro _ _ ⟨rfl, rfl⟩ _
                      refine ⟨?_, hR⟩
                      have := hB.2
                      rw [Bool.or_eq_true, List.isEmpty_iff, Bool.and_eq_true, List.all_eq_true] at this
                      exact this
                    cases hw : Φ.wide k with
                    | false =>
                      rw [hw] at harg hos fin
                      exact step_call ho hop hf hev h1 hds harg (dedup_nodup _) hos h2 (Q := fun d' os'' => d' = d ∧ os'' = os') ⟨d, os', hd, rfl, rfl⟩ fin
                    | true =>
                      rw [hw] at harg hos fin
                      exact step_callF ho hop hf hev h1 hds harg (dedup_nodup _) hos h2 (Q := fun d' os'' => d' = d ∧ os'' = os') ⟨d, os', hd, rfl, rfl⟩ fin
                  · cases hr
                · cases hr
              · cases hr
            · cases hr
          · cases hr
    · exact step_x hop h hR
  · exact step_x hop h hR
/-- One operation with its guard. -/
def Y5 (P : Program) (Φ : Fs) (ops : Array Oper) (o : Oper) (A : St) : Option St :=
  match o.guard with
  | none => Y4 P Φ A o.dst o.op
  | some (j, want) => match (ops[j]?).bind (·.dst) with
    | some t => match A.sl[t]? with
      | some (.c (.v (.bool b))) => if b = want then Y4 P Φ A o.dst o.op else some (A.put o.dst (.t []))
      | some (.t []) => some (A.put o.dst (.t []))
      | _ => none
    | none => none
def runf (P : Program) (Φ : Fs) (ops : Array Oper) : List Oper → St → Option St
  | [], A => some A
  | o :: os, A => (Y5 P Φ ops o A).bind (runf P Φ ops os)
/-- One operation of a region, from a state. -/
theorem xstep_wp (hΦ : FsOK P Φ) {ops : Array Oper} {i : Nat} {o : Oper} (ho : ops[i]? = some o) (hop : o.op.operands.toList.all opdOK = true) {A A' : St} (h : Y5 P Φ ops o A = some A')
    {g : G} {a : Act} {w : World} (hs : Sat g A a w) {Q : Exit → Act → World → Prop} {K : Act → World → Prop} (hK : ∀ a' w', Sat g A' a' w' → K a' w') : wpOp P ops Q i K a w := by
  unfold wpOp
  simp only [ho]
  unfold Y5 at h
  split at h
  · rename_i hg
    simp only [Region.wanted, hg, if_true]
    exact .inl (stepf_ok hΦ hop h (R := fun A => A = A') rfl g a w hs _ _ fun A1 a' w' e hs' => hK a' w' (e ▸ hs'))
  · rename_i j want hg
    split at h
    · rename_i t ht
      split at h
      · rename_i b hb
        obtain ⟨S, E, F, hr⟩ := id hs
        have hv : a.tmps.getD t undef = .bool b := bool_inv (hr.sl t _ hb)
        simp only [Region.wanted, hg, yielded_of ht hv]
        split at h
        · rename_i hw
          subst hw
          simp only [beq_self_eq_true, if_true]
          exact .inl (stepf_ok hΦ hop h (R := fun A => A = A') rfl g a w hs _ _ fun A1 a' w' e hs' => hK a' w' (e ▸ hs'))
        · rename_i hw
          have : (some b == some want) = false := by cases b <;> cases want <;> simp_all
          rw [this]
          simp only [Z7, if_false]
          cases h
          exact hK _ _ ⟨S, E, F, hr.put (.t rfl (by simp))⟩
      · rename_i hb
        cases h
        obtain ⟨S, E, F, hr⟩ := id hs
        have hv := hr.sl t _ hb
        have hy : yielded ops a.tmps j = none := by
          unfold yielded
          rw [ht, Option.bind_some]
          generalize hval : a.tmps.getD t undef = v at hv
          rw [Array.getD_eq_getD_getElem?] at hval
          cases hv with
          | t _ _ =>
            cases hx : a.tmps[t]? with
            | none => rfl
            | some v => rw [hx] at hval; simp at hval; subst hval; rfl
        simp only [Region.wanted, hg, hy]
        have : ((none : Option Bool) == some want) = false := rfl
        rw [this]
        simp only [Z7, if_false]
        exact hK _ _ ⟨S, E, F, hr.put (.t rfl (by simp))⟩
      · cases h
    · cases h
theorem runf_ops (hΦ : FsOK P Φ) {ops : Array Oper} (hok : opsOK ops = true) {g : G} {Q : Exit → Act → World → Prop} {A' : St} (hQ : ∀ a' w', Sat g A' a' w' → Q .normal a' w') :
    ∀ (n i : Nat) (A : St) (a : Act) (w : World), i + n = ops.size → runf P Φ ops (ops.toList.drop i) A = some A' → Sat g A a w → wpOps P ops Q (List.range' i n) a w := by
  intro n
  induction n with
  | zero =>
    intro i A a w hn h hs
    rw [List.drop_eq_nil_of_le (by simp; omega)] at h
    cases h
    exact hQ a w hs
  | succ n ih =>
    intro i A a w hn h hs
    have hi : i < ops.toList.length := by simp; omega
    rw [List.drop_eq_getElem_cons hi] at h
    simp only [runf] at h
    have ho : ops[i]? = some ops.toList[i] := by simp
    cases hx : Y5 P Φ ops ops.toList[i] A with
    | none => rw [hx] at h; cases h
    | some A1 =>
      rw [hx] at h
      rw [List.range'_succ, wpOps_cons]
      exact xstep_wp hΦ ho (List.all_eq_true.1 hok _ (List.getElem_mem hi)) hx hs fun a' w' hs' => ih (i + 1) A1 a' w' (by omega) h hs'
theorem tri_runf (hΦ : FsOK P Φ) {id : Nat} {ops : Array Oper} {A A' : St} {Q : Exit → St → Prop} (hok : opsOK ops = true) (h : runf P Φ ops ops.toList A = some A') (hQ : Q .normal A') :
    Tri P (.region id ops false) A Q := by
  intro g a w hs
  refine wp_region ?_
  rw [List.range_eq_range']
  exact runf_ops hΦ hok (fun a' w' hs' => ⟨A', hs', hQ⟩) ops.size 0 A a w (by omega) (by simpa using h) hs
end
end Go.Dl

namespace Go.Dl
open Go.RowKit
/-- There is such a state. -/
def Ok (g : G) (A : St) : Prop := ∃ a w, Sat g A a w
section
variable {P : Program} {Φ : Fs}
theorem wp_some {o : Oper} {a : Act} {w : World} {p : Prop} (h : o.wp P a w (fun _ _ => p) (fun _ _ _ => p)) : p := by
  unfold Oper.wp at h
  generalize (execOp a.eval o).run P w = r at h
  cases r with
  | ok n w' =>
    cases n <;> simp only [Oper.upon] at h <;> try exact h
    case enter f args =>
      obtain ⟨e, w'', fr, h1, _⟩ := h []
      cases e with
      | returned v => exact h1
      | panicked c => exact h1
      | outgrown => obtain ⟨_, _, h1⟩ := h1; exact h1
    case row r args =>
      obtain ⟨v, w'', h1, _⟩ := h default []
      exact h1
  | halt x w' => cases x <;> simp only [Oper.upon] at h <;> exact h
theorem xstep_ok (hΦ : FsOK P Φ) {ops : Array Oper} {o : Oper} (hop : o.op.operands.toList.all opdOK = true) {A A' : St} (h : Y5 P Φ ops o A = some A') {g : G} (hs : Ok g A) : Ok g A' := by
  obtain ⟨a, w, hs⟩ := hs
  have one : ∀ {A1 : St}, Y4 P Φ A o.dst o.op = some A1 → Ok g A1 := fun {A1} h1 =>
    wp_some (stepf_ok hΦ hop h1 (R := fun A => A = A1) rfl g a w hs _ _ fun A2 a' w' e hs' => ⟨a', w', e ▸ hs'⟩)
  unfold Y5 at h
  split at h
  · exact one h
  · split at h
    · split at h
      · split at h
        · exact one h
        · cases h
          obtain ⟨S, E, F, hr⟩ := hs
          exact ⟨a.put o.dst undef, w, S, E, F, hr.put (.t rfl (by simp))⟩
      · cases h
        obtain ⟨S, E, F, hr⟩ := hs
        exact ⟨a.put o.dst undef, w, S, E, F, hr.put (.t rfl (by simp))⟩
      · cases h
    · cases h
theorem Rep.inE {w : World} {S : Nat → Prop} {E : Env} {it : It} {fp : List Nat} (h : Rep w S E it fp) : ∀ r, it.no r = false → r < E.length := by
  induction h with
  | h hr _ => intro r h; simp [It.no, C.no] at h; omega
  | p hr _ => intro r h; simp [It.no, C.no] at h; omega
  | f hc _ ih => intro r h; exact ih r (by revert h; simp [It.no, C.no])
  | lcons hv hc hr ih1 ih2 =>
    intro r h
    rename_i dat c cs b off v f1 f2
    simp only [It.no, C.nos, Bool.or_eq_false_iff, Bool.and_eq_false_iff] at h
    rcases h.2 with k | k
    · exact ih1 r (by simp [It.no, h.1, k])
    · exact ih2 r (by simp [It.no, h.1, k])
  | un => intro r h; simp [It.no, C.no] at h
  | uo _ _ _ _ _ _ => intro r h; simp [It.no, C.no] at h
  | lb hv hz h0 hb hr ih2 =>
    intro r h
    simp only [It.no, C.nos, C.no, Bool.true_and] at h
    exact ih2 r (by simpa [It.no] using h)
  | vcons hc hr ih1 ih2 =>
    intro r h
    simp only [It.no, C.nos, Bool.and_eq_false_iff] at h
    rcases h with k | k
    · exact ih1 r (by simp [It.no, k])
    · exact ih2 r (by simp [It.no, k])
  | v _ => intro r h; simp [It.no, C.no] at h
  | nilI => intro r h; simp [It.no, C.no] at h
  | nilO => intro r h; simp [It.no, C.no] at h
  | imm _ _ _ _ _ => intro r h; simp [It.no, C.no] at h
  | own _ _ _ _ _ _ => intro r h; simp [It.no, C.no] at h
  | optr _ _ _ => intro r h; simp [It.no, C.no] at h
  | x => intro r h; simp [It.no, C.no] at h
  | m => intro r h; simp [It.no, C.no] at h
  | lnil => intro r h; simp [It.no, C.nos] at h
  | vnil => intro r h; simp [It.no, C.nos] at h
theorem nos_get {r : Nat} : ∀ {ds : List D}, D.nos r ds = false → ∃ (i : Nat) (d : D), ds[i]? = some d ∧ D.no r d = false
  | [], h => by simp [D.nos] at h
  | d :: ds, h => by
    simp only [D.nos, Bool.and_eq_false_iff] at h
    rcases h with h | h
    · exact ⟨0, d, rfl, h⟩
    · obtain ⟨i, d', h1, h2⟩ := nos_get h
      exact ⟨i + 1, d', by simpa using h1, h2⟩
theorem RepD.inE {w : World} {S : Nat → Prop} {E : Env} {d : D} {v : Value} (h : RepD w S E d v) : ∀ r, d.no r = false → r < E.length := by
  induction h with
  | top => intro r h; simp [D.no] at h
  | c h => intro r k; exact h.inE r (by simpa [It.no, D.no] using k)
  | agg h => intro r k; exact h.inE r (by simpa [It.no, D.no] using k)
  | q hS h => intro r h; simp [D.no] at h
  | t hn hh ih =>
    intro r k
    simp only [D.no] at k
    obtain ⟨i, d', h1, h2⟩ := nos_get k
    exact ih i d' h1 r h2
theorem constC_no {v : Value} (r : Nat) : (Y7 v).no r = true := by
  cases v <;> simp [Y7, C.no]
theorem constCs_no (r : Nat) : ∀ l : List Value, C.nos r (l.map Y7) = true
  | [] => rfl
  | v :: l => by simp [C.nos, constC_no, constCs_no r l]
theorem constD_no {v : Value} (r : Nat) : (Y8 v).no r = true := by
  cases v <;> simp [Y8, D.no, constC_no, constCs_no]
theorem Ok.ev_in {g : G} {A : St} (h : Ok g A) {x : Operand} {d : D} (he : A.ev x = some d) (r : Nat) (hr : d.no r = false) : r < A.H.length := by
  obtain ⟨a, w, S, E, F, hs⟩ := h
  cases x with
  | tmp t => have := (hs.sl t d he).inE r hr; rw [hs.lE] at this; exact this
  | const v => simp only [St.ev, Z3] at he; subst he; rw [constD_no] at hr; cases hr
  | func f => simp only [St.ev, Z3] at he; subst he; simp [D.no, C.no, C.nos] at hr
  | global _ => cases he
/-- The classes of operations. -/
inductive Cl where
  | F | L | X | S | N
  deriving DecidableEq
def isIntT (P : Program) (t : TypeId) : Bool := match tk P t with | some (.int _) => true | _ => false
def cl (P : Program) (Φ : Fs) : Op → Cl
  | .move _ => .F
  | .assign _ => .F
  | .pick .. => .F
  | .nilCheck _ => .F
  | .binOp .. => .F
  | .unOp .. => .F
  | .fieldAddr .. => .F
  | .field .. => .F
  | .indexAddr .. => .F
  | .index .. => .F
  | .slice .. => .F
  | .extract .. => .F
  | .build .. => .F
  | .convert _ t _ => if isIntT P t then .F else .N
  | .load .. => .L
  | .store .. => .S
  | .alloc _ => .X
  | .box .. => .X
  | .buildSlice .. => .X
  | .makeSlice .. => .X
  | .call c => match c.callee with
    | .builtin .len => .F
    | .builtin .max => .F
    | .builtin .min => .F
    | .value (.func k) => if (Φ.pure k).isSome && (Φ.objs k).isNone then .X else .N
    | _ => .N
  | _ => .N
/-- What an operation does: what it gives, what the roots are then. -/
def act (P : Program) (Φ : Fs) (A : St) : Op → Option (D × List (Option Root))
  | .store t x v => match A.ev x, (A.ev v).bind D.cells with
    | some d, some cells => if tsz P t = cells.length ∧ tsz P t ≠ 0 then (storeA A.H cells d).map fun H => (.top, H) else none
    | _, _ => none
  | .alloc t => (tz P t).bind (boxA A.H)
  | .box _ x => ((A.ev x).bind D.cells).bind (boxA A.H)
  | .build t parts => (buildA P A.ev A.H t parts.toList).map fun d => (d, A.H)
  | .buildSlice t len parts => buildSliceA P A.ev A.H t len parts.toList
  | .makeSlice t l c => match (A.ev l).bind D.int, (A.ev c).bind D.int with
    | some l, some c => makeA P A.H t l c
    | _, _ => none
  | .call c => match c.callee with
    | .value _ => callP Φ A.ev (evsA A) A.H c
    | _ => (qbuiltin P A.ev A.H c).map fun d => (d, A.H)
  | .convert s t x => ((A.ev x).bind (qconv P s t)).map fun d => (d, A.H)
  | op => (qev P A.ev A.H op).map fun d => (d, A.H)
theorem with_same (A : St) (dst : Option Tmp) (d : D) : A.with dst (d, A.H) = A.put dst d := rfl
theorem map_map {α β γ : Type} (o : Option α) (f : α → β) (g : β → γ) : (o.map f).map g = o.map (fun x => g (f x)) := by cases o <;> rfl
theorem intT_of {t : TypeId} (h : isIntT P t = true) : ∃ k, tk P t = some (.int k) := by
  unfold isIntT at h
  split at h
  · exact ⟨_, by assumption⟩
  · cases h
theorem stepf_act {A : St} {op : Op} (hc : cl P Φ op ≠ .N) (dst : Option Tmp) : Y4 P Φ A dst op = (act P Φ A op).map (A.with dst) := by
  unfold cl at hc
  split at hc <;> try (first | exact absurd rfl hc | (simp only [Y4, Y6, act, map_map, with_same]; done) | (simp only [Y4, Y6, act, map_map]; rfl))
  · -- convert
    rename_i s t x
    split at hc
    · rename_i ht
      obtain ⟨k, hk⟩ := intT_of ht
      simp only [Y4, Y6, act, map_map]
      cases hx : A.ev x with
      | none => rfl
      | some d =>
        simp only [Z8]
        cases hq : qconv P s t d with
        | some d' => rfl
        | none =>
          have h1 : bytesStr P A.H s t d = none := by unfold bytesStr; rw [hk]
          have h2 : strBytes P A.H s t d = none := by unfold strBytes; rw [hk]
          simp [h1, h2]
    · exact absurd rfl hc
  · rename_i t x v
    simp only [Y4, Y6, act]
    cases A.ev x with
    | none => rfl
    | some d =>
      cases (A.ev v).bind D.cells with
      | none => rfl
      | some cells =>
        simp only
        by_cases h : tsz P t = cells.length ∧ tsz P t ≠ 0
        · rw [if_pos h, if_pos h, map_map]; rfl
        · rw [if_neg h, if_neg h]; rfl
  · rename_i t l c
    simp only [Y4, Y6, act]
    cases (A.ev l).bind D.int with
    | none => rfl
    | some n => cases (A.ev c).bind D.int <;> rfl
  · rename_i c
    split at hc
    · rename_i h; simp only [Y4, Y6, act, h, map_map]; rfl
    · rename_i h; simp only [Y4, Y6, act, h, map_map]; rfl
    · rename_i h; simp only [Y4, Y6, act, h, map_map]; rfl
    · rename_i k h
      split at hc
      · rename_i hk
        rw [Bool.and_eq_true, Option.isNone_iff_eq_none] at hk
        simp only [Y4, act, h]
        cases hp : callP Φ A.ev (evsA A) A.H c with
        | some r => rfl
        | none =>
          have : callO Φ A.ev (evsA A) A.H c = none := by
            unfold callO
            rw [h]
            simp only [St.ev, hk.2]
          simp [this]
      · exact absurd rfl hc
    · exact absurd rfl hc
end
end Go.Dl

namespace Go.Dl
open Go.RowKit
/-- A root's shape: does it live, how many cells has an element? -/
def shp : Option (Option Root) → Option Nat
  | some (some R) => some R.es
  | _ => none
theorem liveR_shp {H : List (Option Root)} {r : Nat} : liveR H r = (shp H[r]?).isSome := by
  unfold liveR shp
  split <;> split <;> simp_all
theorem shp_cases {x y : Option (Option Root)} (h : shp x = shp y) : (∃ R R', x = some (some R) ∧ y = some (some R') ∧ R.es = R'.es) ∨ ((∀ R, x ≠ some (some R)) ∧ ∀ R, y ≠ some (some R)) := by
  unfold shp at h
  split at h
  · split at h
    · exact .inl ⟨_, _, rfl, rfl, by simpa using h⟩
    · cases h
  · split at h
    · cases h
    · rename_i h1 _ h2; exact .inr ⟨fun R e => h1 R e, fun R e => h2 R e⟩
section
variable {P : Program} {Φ : Fs} {H H' : List (Option Root)}
def Alike (H H' : List (Option Root)) (d : D) : Prop := ∀ r, d.no r = false → shp H[r]? = shp H'[r]?
theorem alike_p {r e c : Nat} (h : Alike H H' (.c (.p r e c))) : liveR H r = liveR H' r := by
  rw [liveR_shp, liveR_shp, h r (by simp [D.no, C.no])]
theorem alike_h {r l n : Nat} (h : Alike H H' (.c (.h r l n))) : shp H[r]? = shp H'[r]? := h r (by simp [D.no, C.no])
theorem alike_hl {r l n : Nat} (h : Alike H H' (.c (.h r l n))) : liveR H r = liveR H' r := by
  rw [liveR_shp, liveR_shp, alike_h h]
theorem qnil_alike {d : D} (h : Alike H H' d) : qnil H d = qnil H' d := by
  unfold qnil
  split <;> first | rfl | rw [alike_p h]
theorem qfieldAddr_alike {t : TypeId} {i : Nat} {d : D} (h : Alike H H' d) : Yb P H t i d = Yb P H' t i d := by
  unfold Yb
  split
  · split
    · split
      · rfl
      · split <;> first | rfl | rw [alike_p h]
    · rfl
  · rfl
theorem qindexAddr_alike {t : TypeId} {n : Int} {d : D} (h : Alike H H' d) : qindexAddr P H t d n = qindexAddr P H' t d n := by
  unfold qindexAddr
  split
  · rename_i e _
    split
    · rename_i r lo len
      rcases shp_cases (alike_h h) with ⟨R, R', h1, h2, h3⟩ | ⟨h1, h2⟩
      · rw [h1, h2]; simp only [h3]
      · cases k1 : H[r]? with
        | none => cases k2 : H'[r]? with
          | none => rfl
          | some y => cases y with
            | none => rfl
            | some R => exact absurd k2 (h2 R)
        | some x => cases x with
          | some R => exact absurd k1 (h1 R)
          | none => cases k2 : H'[r]? with
            | none => rfl
            | some y => cases y with
              | none => rfl
              | some R => exact absurd k2 (h2 R)
    · rfl
    · rfl
  · split <;> first | rfl | rw [alike_p h]
  · rfl
theorem qslice_alike {t : TypeId} {lo hi : Option (Option D)} {d : D} (h : Alike H H' d) : qslice P H t lo hi d = qslice P H' t lo hi d := by
  unfold qslice
  split
  · rfl
  · rfl
  · rename_i r l0 len
    split
    · rename_i e _
      rcases shp_cases (alike_h h) with ⟨R, R', h1, h2, h3⟩ | ⟨h1, h2⟩
      · rw [h1, h2]; simp only [h3]
      · cases k1 : H[r]? with
        | none => cases k2 : H'[r]? with
          | none => rfl
          | some y => cases y with
            | none => rfl
            | some R => exact absurd k2 (h2 R)
        | some x => cases x with
          | some R => exact absurd k1 (h1 R)
          | none => cases k2 : H'[r]? with
            | none => rfl
            | some y => cases y with
              | none => rfl
              | some R => exact absurd k2 (h2 R)
    · rfl
  · rfl
theorem qslice3_alike {t : TypeId} {lo hi mx : Option D} {d : D} (h : Alike H H' d) : qslice3 P H t lo hi mx d = qslice3 P H' t lo hi mx d := by
  unfold qslice3
  split
  · split
    · split
      · rfl
      · rw [alike_hl h]
      · rfl
    · rfl
  · rfl
theorem qlen_alike {t : TypeId} {d : D} (h : Alike H H' d) : qlen P H t d = qlen P H' t d := by
  unfold qlen
  split
  · rfl
  · rfl
  · rw [alike_hl h]
  · rfl
  · rfl
theorem qeq_alike {t : TypeId} {a b : D} (ha : Alike H H' a) (hb : Alike H H' b) : qeq P H t a b = qeq P H' t a b := by
  unfold qeq
  split
  · rfl
  · split <;> first | rfl | rw [alike_p ha] | rw [alike_p hb]
  · rfl
  · rfl
  · rfl
theorem qbin_alike {op : BinOp} {t : TypeId} {a b : D} (ha : Alike H H' a) (hb : Alike H H' b) : qbin P H op t a b = qbin P H' op t a b := by
  unfold qbin
  split
  · rfl
  · rfl
  · rfl
  · split
    · rw [qeq_alike ha hb]
    · rfl
theorem st_alike {c : C} (h : ∀ r, c.no r = false → shp H[r]? = shp H'[r]?) : c.st H = c.st H' := by
  cases c <;> simp only [C.st]
  case h r lo len => rw [liveR_shp, liveR_shp, h r (by simp [C.no])]
  case p r e c => rw [liveR_shp, liveR_shp, h r (by simp [C.no])]
theorem sts_alike : ∀ {cs : List C}, (∀ r, C.nos r cs = false → shp H[r]? = shp H'[r]?) → cs.all (C.st H) = cs.all (C.st H')
  | [], _ => rfl
  | c :: cs, h => by
    rw [List.all_cons, List.all_cons, st_alike (H := H) (H' := H') fun r hr => h r (by simp [C.nos, hr]), sts_alike fun r hr => h r (by simp [C.nos, hr])]
theorem cells_alike {d : D} {cs : List C} (h : Alike H H' d) (hc : d.cells = some cs) : cs.all (C.st H) = cs.all (C.st H') := by
  cases d <;> simp only [D.cells, Z3, reduceCtorEq] at hc
  · subst hc; exact sts_alike fun r hr => h r (by simp only [C.nos, Bool.and_true] at hr; simpa [D.no] using hr)
  · subst hc; exact sts_alike fun r hr => h r (by simpa [D.no] using hr)
theorem partsA_alike {ρ ρ' : Operand → Option D} : ∀ {ps : List (Nat × Operand)}, (∀ x ∈ ps.map (·.2), ρ x = ρ' x ∧ ∀ d, ρ x = some d → Alike H H' d) → partsA ρ H ps = partsA ρ' H' ps
  | [], _ => rfl
  | (i, x) :: ps, h => by
    simp only [partsA]
    rw [partsA_alike (ps := ps) fun y hy => h y (by simp at hy ⊢; exact .inr hy)]
    obtain ⟨h1, h2⟩ := h x (by simp)
    rw [← h1]
    cases hx : ρ x with
    | none => rfl
    | some d =>
      simp only [Z8]
      cases hc : d.cells with
      | none => rfl
      | some cs => cases partsA ρ' H' ps with
        | none => rfl
        | some l => simp only; rw [cells_alike (h2 d hx) hc]
theorem omap_congr {ρ ρ' : Operand → Option D} {x : Option Operand} (h : ∀ y, x = some y → ρ y = ρ' y) : omap ρ x = omap ρ' x := by
  cases x with
  | none => rfl
  | some y => simp [omap, h y rfl]
theorem bind_alike {x y : Option D} {f g : D → Option D} (h : x = y) (hf : ∀ d, x = some d → f d = g d) : x.bind f = y.bind g := by
  subst h
  cases x with
  | none => rfl
  | some d => exact hf d rfl
/-- What a quiet operation gives depends on its operands and the shapes of the roots that they name. -/
theorem act_F {A A' : St} {op : Op} (hc : cl P Φ op = .F) (hev : ∀ x ∈ op.operands.toList, A.ev x = A'.ev x) (hH : ∀ x ∈ op.operands.toList, ∀ d, A.ev x = some d → Alike A.H A'.H d) :
    ∃ o : Option D, act P Φ A op = o.map (fun d => (d, A.H)) ∧ act P Φ A' op = o.map (fun d => (d, A'.H)) := by
  unfold cl at hc
  split at hc <;> try (first | cases hc | skip)
  all_goals simp only [act, qev]
  all_goals try (simp only [Op.operands] at hev hH)
  · exact ⟨_, rfl, by rw [hev _ (by simp)]⟩
  · exact ⟨_, rfl, by rw [hev _ (by simp)]⟩
  · rename_i c x y
    exact ⟨_, rfl, by rw [hev c (by simp), hev x (by simp), hev y (by simp)]⟩
  · exact ⟨_, rfl, congrArg _ (bind_alike (hev _ (by simp)).symm fun d hd => (qnil_alike (hH _ (by simp) d ((hev _ (by simp)).trans hd))).symm)⟩
  · rename_i op t x y ty
    refine ⟨_, rfl, ?_⟩
    rw [← hev x (by simp), ← hev y (by simp)]
    cases hx : A.ev x with
    | none => rfl
    | some d => cases hy : A.ev y with
      | none => rfl
      | some e => simp only; rw [qbin_alike (hH x (by simp) d hx) (hH y (by simp) e hy)]
  · exact ⟨_, rfl, by rw [hev _ (by simp)]⟩
  · exact ⟨_, rfl, congrArg _ (bind_alike (hev _ (by simp)).symm fun d hd => (qfieldAddr_alike (hH _ (by simp) d ((hev _ (by simp)).trans hd))).symm)⟩
  · exact ⟨_, rfl, by rw [hev _ (by simp)]⟩
  · rename_i t x i
    refine ⟨_, rfl, ?_⟩
    rw [← hev x (by simp), ← hev i (by simp)]
    cases hx : A.ev x with
    | none => rfl
    | some d => cases hy : (A.ev i).bind D.int with
      | none => rfl
      | some e => simp only; rw [qindexAddr_alike (hH x (by simp) d hx)]
  · rename_i t x i
    exact ⟨_, rfl, by rw [← hev x (by simp), ← hev i (by simp)]⟩
  · rename_i t x lo hi mx
    cases mx with
    | none =>
      refine ⟨_, rfl, congrArg _ ?_⟩
      have e1 : omap A'.ev lo = omap A.ev lo := omap_congr fun y hy => (hev y (by subst hy; simp)).symm
      have e2 : omap A'.ev hi = omap A.ev hi := omap_congr fun y hy => (hev y (by subst hy; simp)).symm
      simp only [e1, e2]
      exact bind_alike (hev _ (by simp)).symm fun d hd => (qslice_alike (hH _ (by simp) d ((hev _ (by simp)).trans hd))).symm
    | some mx =>
      cases lo with
      | none => exact ⟨none, rfl, rfl⟩
      | some lo =>
        cases hi with
        | none => exact ⟨none, rfl, rfl⟩
        | some hi =>
          refine ⟨_, rfl, congrArg _ ?_⟩
          simp only [← hev lo (by simp), ← hev hi (by simp), ← hev mx (by simp)]
          exact bind_alike (hev _ (by simp)).symm fun d hd => (qslice3_alike (hH _ (by simp) d ((hev _ (by simp)).trans hd))).symm
  · exact ⟨_, rfl, by rw [hev _ (by simp)]⟩
  · rename_i t ps
    refine ⟨_, rfl, congrArg _ ?_⟩
    unfold buildA
    rw [partsA_alike (ρ := A.ev) (ρ' := A'.ev) (H := A.H) (H' := A'.H) fun x hx => ⟨hev x (by simpa using hx), hH x (by simpa using hx)⟩]
  · split at hc
    · exact ⟨_, rfl, by rw [hev _ (by simp)]⟩
    · cases hc
  · rename_i c
    have hargs : ∀ x ∈ c.args.toList, A.ev x = A'.ev x := fun x hx => hev x (by simp [Call.operands, hx])
    have hargs' : ∀ x ∈ c.args.toList, ∀ d, A.ev x = some d → Alike A.H A'.H d := fun x hx => hH x (by simp [Call.operands, hx])
    split at hc
    · rename_i h
      simp only [qbuiltin, h]
      split
      · rename_i x t h1 h2
        exact ⟨_, rfl, congrArg _ (bind_alike (hargs x (by simp [h1])).symm fun d hd => (qlen_alike (hargs' x (by simp [h1]) d ((hargs x (by simp [h1])).trans hd))).symm)⟩
      · exact ⟨none, rfl, rfl⟩
    · rename_i h
      simp only [qbuiltin, h]
      split
      · rename_i x y h1
        exact ⟨_, rfl, by rw [hargs x (by simp [h1]), hargs y (by simp [h1])]⟩
      · exact ⟨none, rfl, rfl⟩
    · rename_i h
      simp only [qbuiltin, h]
      split
      · rename_i x y h1
        exact ⟨_, rfl, by rw [hargs x (by simp [h1]), hargs y (by simp [h1])]⟩
      · exact ⟨none, rfl, rfl⟩
    · split at hc <;> cases hc
    · cases hc
theorem act_L {A A' : St} {op : Op} (hc : cl P Φ op = .L) (hev : ∀ x ∈ op.operands.toList, A.ev x = A'.ev x) (hH : ∀ x ∈ op.operands.toList, ∀ d, A.ev x = some d → ∀ r, d.no r = false → A.H[r]? = A'.H[r]?) :
    ∃ o : Option D, act P Φ A op = o.map (fun d => (d, A.H)) ∧ act P Φ A' op = o.map (fun d => (d, A'.H)) := by
  unfold cl at hc
  split at hc <;> try (first | cases hc | skip)
  · split at hc <;> cases hc
  · rename_i t x
    simp only [act, qev]
    simp only [Op.operands] at hev hH
    refine ⟨_, rfl, congrArg _ (bind_alike (hev _ (by simp)).symm fun d hd => ?_)⟩
    have h1 := hH x (by simp) d ((hev _ (by simp)).trans hd)
    unfold qload
    congr 1
    unfold Y9
    split
    · rename_i r e c; rw [h1 r (by simp [D.no, C.no])]
    · rfl
    · rfl
  · split at hc <;> try cases hc
    split at hc <;> cases hc
end
end Go.Dl

namespace Go.Dl
open Go.RowKit
section
variable {P : Program} {Φ : Fs}
theorem settleC_ext (H : List (Option Root)) (c : C) : ∃ l, (settleC H c).2 = H ++ l := by
  unfold settleC
  split
  · exact ⟨_, rfl⟩
  · exact ⟨_, rfl⟩
  · exact ⟨[], by simp⟩
  · exact ⟨[], by simp⟩
theorem settleCs_ext : ∀ (cs : List C) (H : List (Option Root)), ∃ l, (Yl H cs).2 = H ++ l
  | [], H => ⟨[], by simp [Yl]⟩
  | c :: cs, H => by
    obtain ⟨l1, h1⟩ := settleC_ext H c
    obtain ⟨l2, h2⟩ := settleCs_ext cs (settleC H c).2
    exact ⟨l1 ++ l2, by simp only [Yl]; rw [h2, h1, List.append_assoc]⟩
theorem settle1_ext (H : List (Option Root)) (d : D) : ∃ l, (settle1 H d).2 = H ++ l := by
  unfold settle1
  split
  · exact settleC_ext H _
  · exact settleCs_ext _ H
  · exact ⟨[], by simp⟩
theorem settleDs_ext : ∀ (ds : List D) (H : List (Option Root)), ∃ l, (settleDs H ds).2 = H ++ l
  | [], H => ⟨[], by simp [settleDs]⟩
  | d :: ds, H => by
    obtain ⟨l1, h1⟩ := settle1_ext H d
    obtain ⟨l2, h2⟩ := settleDs_ext ds (settle1 H d).2
    exact ⟨l1 ++ l2, by simp only [settleDs]; rw [h2, h1, List.append_assoc]⟩
theorem settle_ext (H : List (Option Root)) (d : D) : ∃ l, (settle H d).2 = H ++ l := by
  unfold settle
  split
  · exact settleDs_ext _ H
  · exact settle1_ext H d
theorem boxA_ext {H H' : List (Option Root)} {cs : List C} {d : D} (h : boxA H cs = some (d, H')) : ∃ l, H' = H ++ l := by
  unfold boxA at h
  split at h
  · cases h; exact ⟨_, rfl⟩
  · cases h
theorem callP_ext {ρ : Operand → Option D} {evs : List Operand → Option (List D)} {H H' : List (Option Root)} {c : Call} {d : D} (h : callP Φ ρ evs H c = some (d, H')) : ∃ l, H' = H ++ l := by
  unfold callP at h
  split at h <;> try cases h
  split at h <;> try cases h
  split at h <;> try cases h
  split at h <;> try cases h
  split at h <;> try cases h
  split at h
  · simp only [Z3] at h
    obtain ⟨l, hl⟩ := settle_ext H _
    exact ⟨l, by rw [← hl, h]⟩
  · cases h
/-- Those that only add roots. -/
theorem act_X {A : St} {op : Op} (hc : cl P Φ op = .X) {d : D} {H' : List (Option Root)} (h : act P Φ A op = some (d, H')) : ∃ l, H' = A.H ++ l := by
  unfold cl at hc
  split at hc <;> try (first | cases hc | skip)
  · split at hc <;> cases hc
  · simp only [act, Option.bind_eq_some_iff] at h
    obtain ⟨z, _, h⟩ := h
    exact boxA_ext h
  · simp only [act, Option.bind_eq_some_iff] at h
    obtain ⟨z, _, h⟩ := h
    exact boxA_ext h
  · simp only [act, buildSliceA] at h
    split at h <;> try cases h
    split at h <;> try cases h
    split at h <;> try cases h
    split at h <;> try cases h
    split at h <;> try cases h
    exact ⟨_, rfl⟩
  · simp only [act] at h
    split at h <;> try cases h
    unfold makeA at h
    split at h <;> try cases h
    split at h <;> try cases h
    split at h <;> try cases h
    exact ⟨_, rfl⟩
  · rename_i c
    split at hc <;> try cases hc
    rename_i k hk
    simp only [act, hk] at h
    exact callP_ext h
theorem act_Q {A : St} {op : Op} (hc : cl P Φ op = .F ∨ cl P Φ op = .L) {d : D} {H' : List (Option Root)} (h : act P Φ A op = some (d, H')) : H' = A.H := by
  rcases hc with hc | hc
  · obtain ⟨o, h1, _⟩ := act_F (A' := A) hc (fun _ _ => rfl) (fun _ _ _ _ _ _ => rfl)
    rw [h1] at h
    cases o <;> simp at h
    exact h.2.symm
  · obtain ⟨o, h1, _⟩ := act_L (A' := A) hc (fun _ _ => rfl) (fun _ _ _ _ _ _ => rfl)
    rw [h1] at h
    cases o <;> simp at h
    exact h.2.symm
theorem act_S {A : St} {op : Op} (hc : cl P Φ op = .S) {d : D} {H' : List (Option Root)} (h : act P Φ A op = some (d, H')) (r : Nat) : shp A.H[r]? = shp H'[r]? := by
  unfold cl at hc
  split at hc <;> try (first | cases hc | skip)
  · split at hc <;> cases hc
  · simp only [act] at h
    split at h <;> try cases h
    split at h <;> try cases h
    rename_i d' cells _ _ _
    cases hs : storeA A.H cells d' with
    | none => rw [hs] at h; cases h
    | some H1 =>
      rw [hs] at h; cases h
      unfold storeA at hs
      split at hs <;> try cases hs
      rename_i r' e c
      split at hs <;> try cases hs
      rename_i R hR
      split at hs <;> try cases hs
      split at hs <;> try cases hs
      rw [List.getElem?_set]
      split
      · rename_i e; subst e
        rw [if_pos (lt_len hR), hR]; rfl
      · rfl
  · split at hc <;> try cases hc
    split at hc <;> cases hc
theorem evsA_congr {A A' : St} : ∀ {xs : List Operand}, (∀ x ∈ xs, A.ev x = A'.ev x) → evsA A xs = evsA A' xs
  | [], _ => rfl
  | x :: xs, h => by
    simp only [evsA]
    rw [h x (List.mem_cons_self ..), evsA_congr fun y hy => h y (List.mem_cons_of_mem _ hy)]
/-- The same operands, the same roots: the same. -/
theorem act_congr {A A' : St} {op : Op} (hc : cl P Φ op ≠ .N) (hev : ∀ x ∈ op.operands.toList, A.ev x = A'.ev x) (hH : A.H = A'.H) : act P Φ A op = act P Φ A' op := by
  by_cases hF : cl P Φ op = .F
  · obtain ⟨o, h1, h2⟩ := act_F hF hev (fun x hx d hd r hr => by rw [hH])
    rw [h1, h2, hH]
  by_cases hL : cl P Φ op = .L
  · obtain ⟨o, h1, h2⟩ := act_L hL hev (fun x hx d hd r hr => by rw [hH])
    rw [h1, h2, hH]
  unfold cl at hc hF hL
  split at hc <;> try (first | exact absurd rfl hF | exact absurd rfl hL | exact absurd rfl hc | skip)
  · split at hc
    · rename_i h; simp [h] at hF
    · exact absurd rfl hc
  · rename_i t x v
    simp only [Op.operands] at hev
    simp only [act, hev x (by simp), hev v (by simp), hH]
  · simp only [act, hH]
  · rename_i x
    simp only [Op.operands] at hev
    simp only [act, hev x (by simp), hH]
  · rename_i t n ps
    simp only [Op.operands] at hev
    simp only [act, buildSliceA, hH]
    rw [partsA_alike (ρ := A.ev) (ρ' := A'.ev) (H := A'.H) (H' := A'.H) fun x hx => ⟨hev x (by simpa using hx), fun _ _ _ _ => rfl⟩]
  · rename_i t l c
    simp only [Op.operands] at hev
    simp only [act, hev l (by simp), hev c (by simp), hH]
  · rename_i c
    split at hc
    · rename_i h; simp [h] at hF
    · rename_i h; simp [h] at hF
    · rename_i h; simp [h] at hF
    · rename_i k hk
      simp only [Op.operands] at hev
      simp only [act, hk, callP, hH]
      rw [evsA_congr fun x hx => hev x (by simp [Call.operands, hx])]
      rfl
    · exact absurd rfl hc
theorem boolAt (x : Option D) : (∃ b, x = some (.c (.v (.bool b)))) ∨ ∀ b, x ≠ some (.c (.v (.bool b))) := by
  by_cases h : ∃ b, x = some (.c (.v (.bool b)))
  · exact .inl h
  · exact .inr fun b e => h ⟨b, e⟩
/-- With its guard. -/
def gact (P : Program) (Φ : Fs) (ops : Array Oper) (o : Oper) (A : St) : Option (D × List (Option Root)) :=
  match o.guard with
  | none => act P Φ A o.op
  | some (j, want) => match (ops[j]?).bind (·.dst) with
    | some t => match A.sl[t]? with
      | some (.c (.v (.bool b))) => if b = want then act P Φ A o.op else some (.t [], A.H)
      | some (.t []) => some (.t [], A.H)
      | _ => none
    | none => none
theorem xstep_gact {ops : Array Oper} {o : Oper} (hc : cl P Φ o.op ≠ .N) (A : St) : Y5 P Φ ops o A = (gact P Φ ops o A).map (A.with o.dst) := by
  unfold Y5 gact
  cases o.guard with
  | none => exact stepf_act hc _
  | some jw =>
    obtain ⟨j, want⟩ := jw
    simp only
    cases (ops[j]?).bind (·.dst) with
    | none => rfl
    | some t =>
      simp only
      rcases boolAt A.sl[t]? with ⟨b, h⟩ | h
      · rw [h]
        simp only
        by_cases hb : b = want
        · rw [if_pos hb, if_pos hb]; exact stepf_act hc _
        · rw [if_neg hb, if_neg hb]; rfl
      · generalize A.sl[t]? = s at h ⊢
        cases s with
        | none => rfl
        | some d => cases d with
          | c y => cases y with
            | v x => cases x with
              | bool b => exact absurd rfl (h b)
              | _ => rfl
            | _ => rfl
          | t ds => cases ds <;> rfl
          | _ => rfl
/-- Two states that agree on what an operation looks at. -/
def AgreeAt (ops : Array Oper) (o : Oper) (A A' : St) : Prop := ∀ t ∈ o.looksAt ops, A.sl[t]? = A'.sl[t]?
theorem AgreeAt.ev {ops : Array Oper} {o : Oper} {A A' : St} (h : AgreeAt ops o A A') : ∀ x ∈ o.op.operands.toList, A.ev x = A'.ev x := by
  intro x hx
  cases x with
  | tmp t => exact h t (List.mem_append_left _ (List.mem_filterMap.2 ⟨.tmp t, hx, rfl⟩))
  | _ => rfl
theorem AgreeAt.guard {ops : Array Oper} {o : Oper} {A A' : St} (h : AgreeAt ops o A A') {j : Nat} {want : Bool} {t : Tmp} (hg : o.guard = some (j, want)) (ht : (ops[j]?).bind (·.dst) = some t) : A.sl[t]? = A'.sl[t]? :=
  h t (List.mem_append_right _ (by rw [hg]; simp [ht]))
theorem gact_congr {ops : Array Oper} {o : Oper} {A A' : St} (hc : cl P Φ o.op ≠ .N) (h : AgreeAt ops o A A') (hH : A.H = A'.H) : gact P Φ ops o A = gact P Φ ops o A' := by
  unfold gact
  split
  · exact act_congr hc h.ev hH
  · rename_i j want hg
    split
    · rename_i t ht
      rw [h.guard hg ht, act_congr hc h.ev hH, hH]
    · rfl
/-- A quiet one in two states: the same comes. -/
theorem gact_quiet {ops : Array Oper} {o : Oper} {A A' : St} (hq : cl P Φ o.op = .F ∨ cl P Φ o.op = .L) (h : AgreeAt ops o A A')
    (hF : cl P Φ o.op = .F → ∀ x ∈ o.op.operands.toList, ∀ d, A.ev x = some d → Alike A.H A'.H d)
    (hL : cl P Φ o.op = .L → ∀ x ∈ o.op.operands.toList, ∀ d, A.ev x = some d → ∀ r, d.no r = false → A.H[r]? = A'.H[r]?) :
    ∃ x : Option D, gact P Φ ops o A = x.map (fun d => (d, A.H)) ∧ gact P Φ ops o A' = x.map (fun d => (d, A'.H)) := by
  have hact : ∃ x : Option D, act P Φ A o.op = x.map (fun d => (d, A.H)) ∧ act P Φ A' o.op = x.map (fun d => (d, A'.H)) := by
    rcases hq with hq | hq
    · exact act_F hq h.ev (hF hq)
    · exact act_L hq h.ev (hL hq)
  obtain ⟨x, h1, h2⟩ := hact
  unfold gact
  split
  · exact ⟨x, h1, h2⟩
  · rename_i j want hg
    split
    · rename_i t ht
      rw [← h.guard hg ht]
      split
      · split
        · exact ⟨x, h1, h2⟩
        · exact ⟨some (.t []), rfl, rfl⟩
      · exact ⟨some (.t []), rfl, rfl⟩
      · exact ⟨none, rfl, rfl⟩
    · exact ⟨none, rfl, rfl⟩
/-- Two operations may change places, where the second may come first. -/
def Swap (P : Program) (Φ : Fs) (ops : Array Oper) (x y : Oper) : Prop :=
  ∀ (g : G) (A A1 A2 : St), Ok g A → Y5 P Φ ops x A = some A1 → Y5 P Φ ops y A1 = some A2 → ∃ B, Y5 P Φ ops y A = some B ∧ Y5 P Φ ops x B = some A2
def okCl : Cl → Cl → Bool
  | .F, .F => true
  | .F, .L => true
  | .L, .F => true
  | .L, .L => true
  | .F, .S => true
  | .F, .X => true
  | .L, .X => true
  | .X, .F => true
  | .X, .L => true
  | _, _ => false
theorem with_sl {A : St} {dst : Option Tmp} {r : D × List (Option Root)} {t : Tmp} (h : dst ≠ some t) : (A.with dst r).sl[t]? = A.sl[t]? := by
  unfold St.with St.put
  cases dst with
  | none => rfl
  | some d =>
    have : d ≠ t := fun e => h (by rw [e])
    simp [List.getElem?_set_ne this]
theorem with_H {A : St} {dst : Option Tmp} {r : D × List (Option Root)} : (A.with dst r).H = r.2 := by
  unfold St.with St.put
  cases dst <;> rfl
theorem with_comm {A : St} {x y : Option Tmp} {d e : D} {H1 H2 H3 : List (Option Root)} (h : ∀ t, x = some t → y ≠ some t) : (A.with x (d, H1)).with y (e, H3) = (A.with y (e, H2)).with x (d, H3) := by
  unfold St.with St.put
  cases x with
  | none => cases y <;> rfl
  | some t => cases y with
    | none => rfl
    | some s =>
      have : t ≠ s := fun e => h t rfl (by rw [e])
      simp only [St.mk.injEq, and_true]
      exact List.set_comm _ _ this
theorem agree_with {ops : Array Oper} {o : Oper} {A : St} {dst : Option Tmp} {r : D × List (Option Root)} (h : ∀ t, dst = some t → t ∉ o.looksAt ops) : AgreeAt ops o A (A.with dst r) :=
  fun t ht => (with_sl fun e => h t e ht).symm
theorem swap_ok {ops : Array Oper} {x y : Oper} (hcl : okCl (cl P Φ x.op) (cl P Φ y.op) = true) (hap : x.apart ops y = true) : Swap P Φ ops x y := by
  intro g A A1 A2 hA hx hy
  obtain ⟨p1, p2, p3⟩ := Oper.apart_spec hap
  have hxN : cl P Φ x.op ≠ .N := fun e => by rw [e] at hcl; cases hcl
  have hyN : cl P Φ y.op ≠ .N := fun e => by rw [e] at hcl; cases h : cl P Φ x.op <;> rw [h] at hcl <;> cases hcl
  rw [xstep_gact hxN] at hx
  rw [xstep_gact hyN] at hy
  cases hgx : gact P Φ ops x A with
  | none => rw [hgx] at hx; cases hx
  | some rx =>
    rw [hgx] at hx; cases hx
    cases hgy : gact P Φ ops y (A.with x.dst rx) with
    | none => rw [hgy] at hy; cases hy
    | some ry =>
      rw [hgy] at hy; cases hy
      obtain ⟨d, H1⟩ := rx
      obtain ⟨e, H2⟩ := ry
      by_cases hqx : cl P Φ x.op = .F ∨ cl P Φ x.op = .L
      · -- x is quiet
        have hH1 : H1 = A.H := by
          obtain ⟨o, h1, _⟩ := gact_quiet (A := A) (A' := A) (ops := ops) hqx (fun _ _ => rfl) (fun _ _ _ _ _ _ _ => rfl) (fun _ _ _ _ _ _ _ => rfl)
          rw [h1] at hgx
          cases o <;> simp at hgx
          exact hgx.2.symm
        subst hH1
        have hy0 : gact P Φ ops y A = some (e, H2) := by
          rw [gact_congr hyN (A' := A.with x.dst (d, A.H)) (agree_with p1) (with_H (r := (d, A.H))).symm]; exact hgy
        refine ⟨A.with y.dst (e, H2), by rw [xstep_gact hyN, hy0]; rfl, ?_⟩
        have hx1 : gact P Φ ops x (A.with y.dst (e, H2)) = some (d, H2) := by
          have agr : AgreeAt ops x A (A.with y.dst (e, H2)) := agree_with p3
          -- what y left
          have hleft : (cl P Φ y.op = .S ∧ ∀ r : Nat, shp A.H[r]? = shp H2[r]?) ∨ ∃ l, H2 = A.H ++ l := by
            unfold gact at hy0
            split at hy0
            · cases hcy : cl P Φ y.op with
              | F => exact .inr ⟨[], by rw [act_Q (.inl hcy) hy0]; simp⟩
              | L => exact .inr ⟨[], by rw [act_Q (.inr hcy) hy0]; simp⟩
              | X => exact .inr (act_X hcy hy0)
              | S => exact .inl ⟨rfl, act_S hcy hy0⟩
              | N => exact absurd hcy hyN
            · split at hy0 <;> try cases hy0
              split at hy0 <;> try cases hy0
              · split at hy0
                · cases hcy : cl P Φ y.op with
                  | F => exact .inr ⟨[], by rw [act_Q (.inl hcy) hy0]; simp⟩
                  | L => exact .inr ⟨[], by rw [act_Q (.inr hcy) hy0]; simp⟩
                  | X => exact .inr (act_X hcy hy0)
                  | S => exact .inl ⟨rfl, act_S hcy hy0⟩
                  | N => exact absurd hcy hyN
                · cases hy0; exact .inr ⟨[], by simp⟩
              · exact .inr ⟨[], by simp⟩
          obtain ⟨o, h1, h2⟩ := gact_quiet (A := A) (A' := A.with y.dst (e, H2)) (ops := ops) hqx agr
            (fun hF z hz dz hdz r hr => by
              rw [with_H]
              rcases hleft with ⟨_, h⟩ | ⟨l, rfl⟩
              · exact h r
              · have := hA.ev_in hdz r hr
                show _ = shp (A.H ++ l)[r]?
                rw [List.getElem?_append_left this])
            (fun hL z hz dz hdz r hr => by
              rw [with_H]
              rcases hleft with ⟨hS, h⟩ | ⟨l, rfl⟩
              · rw [hL, hS] at hcl; cases hcl
              · have := hA.ev_in hdz r hr
                show _ = (A.H ++ l)[r]?
                rw [List.getElem?_append_left this])
          rw [h1] at hgx
          rw [h2, with_H]
          cases o <;> simp at hgx
          rw [hgx]; rfl
        rw [xstep_gact hxN, hx1]
        simp only [Z4]
        rw [with_comm (H2 := H2) p2]
      · -- x adds, y is quiet
        have hxX : cl P Φ x.op = .X ∧ (cl P Φ y.op = .F ∨ cl P Φ y.op = .L) := by
          cases hcx : cl P Φ x.op <;> cases hcy : cl P Φ y.op <;> simp_all [okCl]
        obtain ⟨hxX, hqy⟩ := hxX
        have hleft : ∃ l, H1 = A.H ++ l := by
          unfold gact at hgx
          split at hgx
          · exact act_X hxX hgx
          · split at hgx <;> try cases hgx
            split at hgx <;> try cases hgx
            · split at hgx
              · exact act_X hxX hgx
              · cases hgx; exact ⟨[], by simp⟩
            · exact ⟨[], by simp⟩
        obtain ⟨l, rfl⟩ := hleft
        have same : ∀ r, r < A.H.length → A.H[r]? = (A.H ++ l)[r]? := fun r hr => (List.getElem?_append_left hr).symm
        obtain ⟨o, h1, h2⟩ := gact_quiet (A := A) (A' := A.with x.dst (d, A.H ++ l)) (ops := ops) hqy (agree_with p1)
          (fun hF z hz dz hdz r hr => by rw [with_H]; exact congrArg shp (same r (hA.ev_in hdz r hr)))
          (fun hL z hz dz hdz r hr => by rw [with_H]; exact same r (hA.ev_in hdz r hr))
        rw [h2, with_H] at hgy
        cases o with
        | none => cases hgy
        | some e' =>
          cases hgy
          refine ⟨A.with y.dst (e, A.H), by rw [xstep_gact hyN, h1]; rfl, ?_⟩
          have : gact P Φ ops x (A.with y.dst (e, A.H)) = some (d, A.H ++ l) := by
            rw [← gact_congr hxN (A := A) (agree_with p3) (with_H (r := (e, A.H))).symm]; exact hgx
          rw [xstep_gact hxN, this]
          simp only [Z4]
          rw [with_comm (H2 := A.H) p2]
end
end Go.Dl

namespace Go.Dl
open Go.RowKit
section
variable {P : Program} {Φ : Fs}
/-- Must one wait for the other, over however many steps? -/
def reach (ops : Array Oper) : Nat → Nat → Nat → Bool
  | 0, _, _ => false
  | n + 1, j, i => match ops[j]? with
    | some o => o.after.toList.any (fun e => Region.binds .any e && e.on == i) || o.after.toList.any fun e => Region.binds .any e && reach ops n e.on i
    | none => false
def Closed (ops : Array Oper) (listed : Array Bool) : Prop :=
  ∀ (j : Nat) (o : Oper), ops[j]? = some o → listed.getD j false = true → ∀ e ∈ o.after, Region.binds .any e = true → listed.getD e.on false = true
theorem reach_listed {ops : Array Oper} {listed : Array Bool} (hcl : Closed ops listed) : ∀ (n j i : Nat), reach ops n j i = true →
    (∀ o, ops[j]? = some o → ∀ e ∈ o.after, Region.binds .any e = true → listed.getD e.on false = true) → listed.getD i false = true := by
  intro n
  induction n with
  | zero => intro j i h; simp [reach] at h
  | succ n ih =>
    intro j i h hall
    simp only [reach] at h
    split at h
    · rename_i o ho
      rw [Bool.or_eq_true, List.any_eq_true, List.any_eq_true] at h
      rcases h with ⟨e, he, h⟩ | ⟨e, he, h⟩
      · rw [Bool.and_eq_true, beq_iff_eq] at h
        rw [← h.2]; exact hall o ho e (by simpa using he) h.1
      · rw [Bool.and_eq_true] at h
        have hl := hall o ho e (by simpa using he) h.1
        exact ih e.on i h.2 fun o' ho' e' he' hb' => hcl e.on o' ho' hl e' he' hb'
    · cases h
/-- A copy of a slot and an append: they may change places. -/
def moveApp (x y : Oper) : Bool :=
  x.guard.isNone && y.guard.isNone && (match x.op with | .move (.tmp _) => true | _ => false) && (match y.op with
    | .call c => (match c.callee with | .builtin .append => true | _ => false) && y.dst.isSome
    | _ => false)
theorem map_set' {α β : Type} (f : α → β) : ∀ (l : List α) (i : Nat) (a : α), (l.set i a).map f = (l.map f).set i (f a)
  | [], _, _ => rfl
  | x :: l, 0, a => rfl
  | x :: l, i + 1, a => by simp [map_set' f l i a]
theorem xstep_none {ops : Array Oper} {o : Oper} {A : St} (h : o.guard = none) : Y5 P Φ ops o A = Y4 P Φ A o.dst o.op := by
  unfold Y5; rw [h]
theorem stepf_move {A : St} {dst : Option Tmp} {x : Operand} : Y4 P Φ A dst (.move x) = (A.ev x).map (A.put dst) := rfl
/-- An append, taken apart. -/
def appA (P : Program) (A : St) (dst : Option Tmp) (c : Call) : Option St :=
  match c.args.toList, c.argTypes.toList with
  | [s, x], [t, xt] => if tkApp P xt then (match A.ev s, A.ev x with
    | some d, some dx => (appendA P A t d dx).map fun r => r.2.put dst r.1
    | _, _ => none) else none
  | _, _ => none
theorem stepf_append {A : St} {dst : Option Tmp} {c : Call} (h : c.callee = .builtin .append) : Y4 P Φ A dst (.call c) = appA P A dst c := by
  unfold Y4
  simp only [h]
  unfold Y6
  simp only [h]
  rfl
theorem appendA_sl {H : List (Option Root)} {t : TypeId} {d1 d2 : D} {sl : List D} {res : D × St} (hres : appendA P ⟨sl, H⟩ t d1 d2 = some res) :
    ∃ r H', res = (res.1, ⟨sl.map (D.kill r), H'⟩) ∧ ∀ sl', appendA P ⟨sl', H⟩ t d1 d2 = some (res.1, ⟨sl'.map (D.kill r), H'⟩) := by
  unfold appendA at hres
  split at hres
  · rename_i e hk
    split at hres
    · rename_i r lo len z es src hz hsrc
      split at hres
      · rename_i R hR
        split at hres
        · rename_i hcond
          cases hres
          refine ⟨r, _, rfl, fun sl' => ?_⟩
          unfold appendA
          simp only [hk, hz, hsrc, hR, if_pos hcond]
        · cases hres
      · cases hres
    · cases hres
  · cases hres
theorem swap_moveApp {ops : Array Oper} {x y : Oper} (hm : moveApp x y = true) (hap : x.apart ops y = true) : Swap P Φ ops x y := by
  intro g A A1 A2 hA hx hy
  obtain ⟨p1, p2, p3⟩ := Oper.apart_spec hap
  simp only [moveApp, Bool.and_eq_true, Option.isNone_iff_eq_none] at hm
  obtain ⟨⟨⟨gx, gy⟩, mx⟩, my⟩ := hm
  have hxo : ∃ s, x.op = .move (.tmp s) := by split at mx; exact ⟨_, by assumption⟩; cases mx
  have hyo : ∃ c, y.op = .call c ∧ c.callee = .builtin .append ∧ y.dst.isSome = true := by
    split at my
    · rename_i c hyo
      rw [Bool.and_eq_true] at my
      refine ⟨c, hyo, ?_, my.2⟩
      have := my.1
      split at this
      · assumption
      · cases this
    · cases my
  obtain ⟨s, hxo⟩ := hxo
  obtain ⟨c, hyo, hcb, md⟩ := hyo
  have fx : ∀ A, Y5 P Φ ops x A = (A.sl[s]?).map (A.put x.dst) := fun A => by rw [xstep_none gx, hxo, stepf_move]; rfl
  have fy : ∀ A, Y5 P Φ ops y A = appA P A y.dst c := fun A => by rw [xstep_none gy, hyo, stepf_append hcb]
  rw [fx] at hx
  rw [fy] at hy
  simp only [fx, fy]
  cases hs : A.sl[s]? with
  | none => rw [hs] at hx; cases hx
  | some d =>
    rw [hs] at hx
    simp only [Z4, Z3] at hx
    subst hx
    have agr : AgreeAt ops y A (A.put x.dst d) := agree_with (r := (d, A.H)) p1
    have hop : ∀ z ∈ c.args.toList, z ∈ y.op.operands.toList := fun z hz => by rw [hyo]; simp only [Op.operands, Call.operands, Array.toList_append, List.mem_append]; exact .inr hz
    unfold appA at hy ⊢
    cases hargs : c.args.toList with
    | nil => rw [hargs] at hy; cases hy
    | cons sx l1 => cases l1 with
      | nil => rw [hargs] at hy; cases hy
      | cons xx l2 => cases l2 with
        | cons _ _ => rw [hargs] at hy; cases hy
        | nil => cases htys : c.argTypes.toList with
          | nil => rw [hargs, htys] at hy; cases hy
          | cons t l3 => cases l3 with
            | nil => rw [hargs, htys] at hy; cases hy
            | cons xt l4 => cases l4 with
              | cons _ _ => rw [hargs, htys] at hy; cases hy
              | nil =>
                rw [hargs, htys] at hy
                simp only at hy ⊢
                by_cases htk : tkApp P xt = true
                · rw [if_pos htk] at hy ⊢
                  have e1 := agr.ev sx (hop sx (by rw [hargs]; exact List.mem_cons_self ..))
                  have e2 := agr.ev xx (hop xx (by rw [hargs]; exact List.mem_cons_of_mem _ (List.mem_cons_self ..)))
                  rw [← e1, ← e2] at hy
                  cases h1 : A.ev sx with
                  | none => rw [h1] at hy; cases hy
                  | some d1 =>
                    cases h2 : A.ev xx with
                    | none => rw [h1, h2] at hy; cases hy
                    | some d2 =>
                      rw [h1, h2] at hy
                      simp only at hy ⊢
                      cases hap1 : appendA P (A.put x.dst d) t d1 d2 with
                      | none => rw [hap1] at hy; cases hy
                      | some res =>
                        rw [hap1] at hy
                        simp only [Z4, Z3] at hy
                        have hform : A.put x.dst d = ⟨(A.put x.dst d).sl, A.H⟩ := by unfold St.put; cases x.dst <;> rfl
                        rw [hform] at hap1
                        obtain ⟨r, H', hr1, hr2⟩ := appendA_sl hap1
                        have hA' : appendA P A t d1 d2 = some (res.1, ⟨A.sl.map (D.kill r), H'⟩) := hr2 A.sl
                        rw [hA']
                        refine ⟨St.put ⟨A.sl.map (D.kill r), H'⟩ y.dst res.1, rfl, ?_⟩
                        have hns : y.dst ≠ some s := fun e => p3 s e (List.mem_append_left _ (List.mem_filterMap.2 ⟨.tmp s, by rw [hxo]; simp [Op.operands], rfl⟩))
                        have hsl : (St.put ⟨A.sl.map (D.kill r), H'⟩ y.dst res.1).sl[s]? = some (D.kill r d) := by
                          have := with_sl (A := ⟨A.sl.map (D.kill r), H'⟩) (dst := y.dst) (r := (res.1, H')) (t := s) hns
                          rw [show (St.put ⟨A.sl.map (D.kill r), H'⟩ y.dst res.1).sl[s]? = (St.with ⟨A.sl.map (D.kill r), H'⟩ y.dst (res.1, H')).sl[s]? from rfl, this]
                          simp [hs]
                        rw [hsl]
                        simp only [Z4, Z3]
                        rw [← hy, hr1]
                        simp only
                        cases hdx : x.dst with
                        | none => rfl
                        | some tx =>
                          cases hdy : y.dst with
                          | none => rw [hdy] at md; cases md
                          | some ty =>
                            have : tx ≠ ty := fun e => p2 tx hdx (by rw [hdy, e])
                            simp only [St.put, map_set', St.mk.injEq, and_true]
                            exact List.set_comm _ _ (Ne.symm this)
                · rw [if_neg htk] at hy; cases hy
/-- May the order be open? -/
def anyOK (P : Program) (Φ : Fs) (ops : Array Oper) : Bool :=
  (List.range ops.size).all fun j => match ops[j]? with
    | none => true
    | some y => (y.after.toList.all fun e => !Region.binds .any e || decide (e.on < j)) && (List.range j).all fun i => reach ops ops.size j i || match ops[i]? with
      | some x => (okCl (cl P Φ x.op) (cl P Φ y.op) || moveApp x y) && x.apart ops y
      | none => true
def Swaps (P : Program) (Φ : Fs) (ops : Array Oper) : Prop :=
  (∀ (j : Nat) (y : Oper), ops[j]? = some y → ∀ e ∈ y.after, Region.binds .any e = true → e.on < j) ∧
  ∀ (i j : Nat) (x y : Oper), i < j → ops[i]? = some x → ops[j]? = some y → reach ops ops.size j i = false → Swap P Φ ops x y
theorem anyOK_spec {ops : Array Oper} (h : anyOK P Φ ops = true) : Swaps P Φ ops := by
  unfold anyOK at h
  rw [List.all_eq_true] at h
  have h' : ∀ (j : Nat) (y : Oper), ops[j]? = some y → (y.after.toList.all fun e => !Region.binds .any e || decide (e.on < j)) = true ∧
      ((List.range j).all fun i => reach ops ops.size j i || match ops[i]? with
        | some x => (okCl (cl P Φ x.op) (cl P Φ y.op) || moveApp x y) && x.apart ops y
        | none => true) = true := by
    intro j y hy
    have := h j (List.mem_range.2 (Array.getElem?_eq_some_iff.1 hy).1)
    rw [hy] at this
    simpa only [Bool.and_eq_true] using this
  refine ⟨fun j y hy e he hb => ?_, fun i j x y hij hx hy hr => ?_⟩
  · have := List.all_eq_true.1 (h' j y hy).1 e (by simpa using he)
    rw [hb] at this
    simpa using this
  · have := List.all_eq_true.1 (h' j y hy).2 i (List.mem_range.2 hij)
    rw [hr, hx, Bool.false_or, Bool.and_eq_true, Bool.or_eq_true] at this
    rcases this with ⟨h1 | h1, h2⟩
    · exact swap_ok h1 h2
    · exact swap_moveApp h1 h2
def runI (P : Program) (Φ : Fs) (ops : Array Oper) : List Nat → St → Option St
  | [], A => some A
  | i :: is, A => match ops[i]? with
    | some o => (Y5 P Φ ops o A).bind (runI P Φ ops is)
    | none => none
theorem runI_range {ops : Array Oper} : ∀ (n i : Nat) (A : St), i + n = ops.size → runf P Φ ops (ops.toList.drop i) A = runI P Φ ops (List.range' i n) A := by
  intro n
  induction n with
  | zero => intro i A h; rw [List.drop_eq_nil_of_le (by simp; omega)]; rfl
  | succ n ih =>
    intro i A h
    have hi : i < ops.toList.length := by simp; omega
    have ho : ops[i]? = some ops.toList[i] := by simp
    rw [List.drop_eq_getElem_cons hi, List.range'_succ]
    simp only [runf, runI, ho]
    cases Y5 P Φ ops ops.toList[i] A with
    | none => rfl
    | some A1 => exact ih (i + 1) A1 (by omega)
theorem front (hΦ : FsOK P Φ) {ops : Array Oper} (hok : opsOK ops = true) (hsw : Swaps P Φ ops) {g : G} {j : Nat} {y : Oper} (hy : ops[j]? = some y) {post : List Nat} {Af : St} :
    ∀ (pre : List Nat) (A : St), Ok g A → (∀ i ∈ pre, i < j ∧ reach ops ops.size j i = false) → runI P Φ ops (pre ++ j :: post) A = some Af →
      ∃ B, Y5 P Φ ops y A = some B ∧ runI P Φ ops (pre ++ post) B = some Af := by
  intro pre
  induction pre with
  | nil =>
    intro A _ _ h
    simp only [Z12, runI, hy] at h
    cases hx : Y5 P Φ ops y A with
    | none => rw [hx] at h; cases h
    | some B => rw [hx] at h; exact ⟨B, rfl, h⟩
  | cons i pre ih =>
    intro A hA hall h
    simp only [Z23, runI] at h
    cases hi : ops[i]? with
    | none => rw [hi] at h; cases h
    | some x =>
      rw [hi] at h
      simp only at h
      cases hx : Y5 P Φ ops x A with
      | none => rw [hx] at h; cases h
      | some A1 =>
        rw [hx] at h
        have hin : x ∈ ops.toList := by simpa using Array.mem_of_getElem? hi
        have hA1 := xstep_ok hΦ (List.all_eq_true.1 hok x hin) hx hA
        obtain ⟨B1, h1, h2⟩ := ih A1 hA1 (fun k hk => hall k (List.mem_cons_of_mem _ hk)) h
        obtain ⟨q1, q2⟩ := hall i (List.mem_cons_self ..)
        obtain ⟨B, k1, k2⟩ := hsw.2 i j x y q1 hi hy q2 g A A1 B1 hA hx h1
        refine ⟨B, k1, ?_⟩
        simp only [Z23, runI, hi, k2]
        exact h2
def remI (ops : Array Oper) (listed : Array Bool) : List Nat := (List.range ops.size).filter fun i => !listed.getD i true
theorem remI_sorted (ops : Array Oper) (listed : Array Bool) : (remI ops listed).Pairwise (· < ·) := List.pairwise_lt_range.filter _
theorem mem_remI {ops : Array Oper} {listed : Array Bool} {i : Nat} : i ∈ remI ops listed ↔ i < ops.size ∧ listed.getD i true = false := by
  simp [remI]
theorem getD_both {listed : Array Bool} {i : Nat} (h : i < listed.size) : listed.getD i true = listed.getD i false := by
  simp [h]
theorem wpAny_run (hΦ : FsOK P Φ) {ops : Array Oper} (hok : opsOK ops = true) (hsw : Swaps P Φ ops) {g : G} {Q : Exit → Act → World → Prop} {Af : St} (hQ : ∀ a' w', Sat g Af a' w' → Q .normal a' w') :
    ∀ (fuel : Nat) (listed : Array Bool) (A : St) (a : Act) (w : World), listed.size = ops.size → (remI ops listed).length ≤ fuel → Closed ops listed → Sat g A a w →
      runI P Φ ops (remI ops listed) A = some Af → wpAny P .any ops Q fuel listed a w := by
  have least : ∀ listed : Array Bool, listed.size = ops.size → Region.ready .any ops listed = [] → remI ops listed = [] := by
    intro listed hsz hr
    cases hrem : remI ops listed with
    | nil => rfl
    | cons k rest =>
      exfalso
      have hk := mem_remI.1 (show k ∈ remI ops listed by rw [hrem]; exact List.mem_cons_self ..)
      have hsort := remI_sorted ops listed
      rw [hrem, List.pairwise_cons] at hsort
      have : k ∈ Region.ready .any ops listed := by
        refine mem_ready.2 ⟨hk.2, ops[k]'hk.1, Array.getElem?_eq_getElem hk.1, fun e he hb => ?_⟩
        have hlt := hsw.1 k _ (Array.getElem?_eq_getElem hk.1) e he hb
        rw [← getD_both (by omega)]
        refine Classical.byContradiction fun hn => ?_
        have hm : e.on ∈ remI ops listed := mem_remI.2 ⟨by omega, by simpa using hn⟩
        rw [hrem] at hm
        rcases List.mem_cons.1 hm with h | h
        · omega
        · have := hsort.1 _ h; omega
      rw [hr] at this
      cases this
  intro fuel
  induction fuel with
  | zero =>
    intro listed A a w hsz hl hcl hs h
    have : remI ops listed = [] := List.length_eq_zero_iff.1 (by omega)
    rw [this] at h
    cases h
    refine ⟨?_, hQ a w hs⟩
    cases hr : Region.ready .any ops listed with
    | nil => rfl
    | cons i l =>
      exfalso
      obtain ⟨h0, o, ho, _⟩ := mem_ready.1 (show i ∈ Region.ready .any ops listed by rw [hr]; exact List.mem_cons_self ..)
      have : i ∈ remI ops listed := mem_remI.2 ⟨(Array.getElem?_eq_some_iff.1 ho).1, h0⟩
      rw [‹remI ops listed = []›] at this
      cases this
  | succ fuel ih =>
    intro listed A a w hsz hl hcl hs h
    refine ⟨fun hr => ?_, fun j hj => ?_⟩
    · rw [least listed hsz hr] at h
      cases h
      exact hQ a w hs
    · obtain ⟨h0, y, hy, hall⟩ := mem_ready.1 hj
      have hjs := (Array.getElem?_eq_some_iff.1 hy).1
      have hm : j ∈ remI ops listed := mem_remI.2 ⟨hjs, h0⟩
      obtain ⟨pre, post, hsplit⟩ := List.append_of_mem hm
      have hsort := remI_sorted ops listed
      rw [hsplit, List.pairwise_append, List.pairwise_cons] at hsort
      obtain ⟨_, ⟨s2, _⟩, s3⟩ := hsort
      rw [hsplit] at h
      obtain ⟨B, k1, k2⟩ := front hΦ hok hsw hy pre A ⟨a, w, hs⟩ (fun i hi => by
        refine ⟨s3 i hi j (List.mem_cons_self ..), ?_⟩
        refine Classical.byContradiction fun hn => ?_
        have hl := reach_listed hcl ops.size j i (by simpa using hn) fun o ho => by rw [hy] at ho; cases ho; exact hall
        have hi' := mem_remI.1 (show i ∈ remI ops listed by rw [hsplit]; exact List.mem_append_left _ hi)
        rw [getD_both (by omega), hl] at hi'
        cases hi'.2) h
      have hin : y ∈ ops.toList := by simpa using Array.mem_of_getElem? hy
      refine xstep_wp hΦ hy (List.all_eq_true.1 hok y hin) k1 hs fun a' w' hs' => ?_
      have hrem : remI ops (listed.setIfInBounds j true) = pre ++ post := by
        have e1 : remI ops (listed.setIfInBounds j true) = (remI ops listed).filter (fun k => k != j) := by
          unfold remI
          rw [List.filter_filter]
          refine List.filter_congr fun k hk => ?_
          by_cases hkj : k = j
          · subst hkj
            simp [hsz ▸ hjs]
          · rw [getD_set_ne true (Ne.symm hkj)]; simp [hkj]
        rw [e1, hsplit, List.filter_append, List.filter_cons_of_neg (by simp)]
        rw [List.filter_eq_self.2 fun k hk => by have := s3 k hk j (List.mem_cons_self ..); simp; omega,
          List.filter_eq_self.2 fun k hk => by have := s2 k hk; simp; omega]
      refine ih _ B a' w' (by simp [hsz]) (by rw [hrem]; rw [hsplit] at hl; simp at hl ⊢; omega) ?_ hs' (by rw [hrem]; exact k2)
      intro i o ho hli e he hb
      by_cases hij : i = j
      · subst hij
        rw [hy] at ho; cases ho
        exact getD_set_true (hall e he hb)
      · rw [getD_set_ne false (Ne.symm hij)] at hli
        exact getD_set_true (hcl i o ho hli e he hb)
theorem Sat.drawn {g : G} {A : St} {a : Act} {w : World} (h : Sat g A a w) (n : Nat) (hn : w.drawn ≤ n) : Sat g A a { w with drawn := n } := by
  obtain ⟨S, E, F, hr⟩ := h
  refine ⟨S, E, F, { hr with sl := ?_, root := ?_, output := ⟨hr.output.1, Nat.le_trans hr.output.2 hn⟩ }⟩
  · intro t d hd
    exact (hr.sl t d hd).mono (fun _ h => h) (.refl _ _) fun _ _ => rfl
  · intro r R hR
    obtain ⟨p, f, h1, h2, h3, h4, h5, h6, h7⟩ := hr.root r R hR
    refine ⟨p, f, h1, h2, h3, h4, h5, h6, ?_⟩
    cases hat : p.at? with
    | none => rw [hat] at h7; exact h7
    | some bo =>
      rw [hat] at h7
      obtain ⟨fr, k1, k2, k3⟩ := h7
      exact ⟨fr, k1, k2.keep rfl, k3.mono (fun _ h => h) (.refl _ _) fun _ _ => rfl⟩
/-- A region that draws its order: every order leaves what the text's leaves. -/
theorem tri_any (hm : P.follows .mixedOrders = true) (hΦ : FsOK P Φ) {id : Nat} {ops : Array Oper} {A A' : St} {Q : Exit → St → Prop} (hok : opsOK ops = true) (hsw : Swaps P Φ ops)
    (h : runf P Φ ops ops.toList A = some A') (hQ : Q .normal A') : Tri P (.region id ops true) A Q := by
  intro g a w hs
  refine wp_region_any hm ?_
  have h0 : remI ops (Array.replicate ops.size false) = List.range ops.size := by
    unfold remI
    refine List.filter_eq_self.2 fun i hi => ?_
    have := List.mem_range.1 hi
    simp [this]
  refine wpAny_run hΦ hok hsw (Af := A') (fun a' w' hs' => ⟨A', hs', hQ⟩) ops.size _ A a _ (by simp) (by rw [h0]; simp) ?_ (hs.drawn _ (Nat.le_succ _)) ?_
  · intro j o ho hl e he hb
    have hj := (Array.getElem?_eq_some_iff.1 ho).1
    simp [hj] at hl
  · rw [h0, List.range_eq_range', ← runI_range ops.size 0 A (by omega)]
    simpa using h
end
end Go.Dl

namespace Go.Dl
open Go.RowKit
/-- The second says less. -/
inductive LeL : List D → List D → Prop
  | nil : LeL [] []
  | same {d l m} (h : LeL l m) : LeL (d :: l) (d :: m)
  | top {d l m} (h : LeL l m) : LeL (d :: l) (.top :: m)
def St.Le (A B : St) : Prop := LeL A.sl B.sl ∧ A.H = B.H
theorem LeL.len {l m : List D} (h : LeL l m) : l.length = m.length := by
  induction h <;> simp [*]
theorem LeL.get {l m : List D} (h : LeL l m) : ∀ (t : Nat) (e : D), m[t]? = some e → e = .top ∨ l[t]? = some e := by
  induction h with
  | nil => intro t e h; simp at h
  | same h ih =>
    intro t e he
    cases t with
    | zero => right; simpa using he
    | succ t => simpa using ih t e (by simpa using he)
  | top h ih =>
    intro t e he
    cases t with
    | zero => left; simp at he; exact he.symm
    | succ t => simpa using ih t e (by simpa using he)
theorem LeL.refl : ∀ l : List D, LeL l l
  | [] => .nil
  | _ :: l => .same (LeL.refl l)
theorem St.Le.refl (A : St) : A.Le A := ⟨LeL.refl _, rfl⟩
theorem Sat.le {g : G} {A B : St} {a : Act} {w : World} (h : Sat g A a w) (hl : A.Le B) : Sat g B a w := by
  obtain ⟨S, E, F, hr⟩ := h
  obtain ⟨sl, H⟩ := A
  obtain ⟨sl', H'⟩ := B
  obtain ⟨h1, h2⟩ := hl
  simp only at h1 h2
  subst h2
  refine ⟨S, E, F, { hr with len := ?_, sl := ?_ }⟩
  · rw [← hr.len]; exact h1.len.symm
  · intro t d hd
    rcases h1.get t d hd with rfl | h
    · exact .top
    · exact hr.sl t d h
section
variable {P : Program} {Φ : Fs}
theorem tri_le {c : Code} {A B : St} {Q : Exit → St → Prop} (hl : A.Le B) (h : Tri P c B Q) : Tri P c A Q := Tri.weak (fun _ _ _ hs => hs.le hl) h
theorem tri_loop_le {c : Code} {A B : St} {Q : Exit → St → Prop} (I : Nat → St → Prop) (n : Nat) (hl : A.Le B) (h0 : I n B)
    (round : ∀ n A, I n A → Tri P c A (thenQ (fun A' => ∃ m, m < n ∧ ∃ B', A'.Le B' ∧ I m B') Q)) : Tri P (.loop c) A Q := by
  refine tri_le hl (tri_loop (fun n A => ∃ B, A.Le B ∧ I n B) n ⟨B, .refl _, h0⟩ ?_)
  rintro n A ⟨B, h1, h2⟩
  exact tri_le h1 (round n B h2)
end
def dI (n : Int) : D := .c (.v (.int .i64 n))
def dB (b : Bool) : D := .c (.v (.bool b))
end Go.Dl

namespace Go.Dl
open Go.RowKit
section
variable {P : Program} {Φ : Fs} {A A' : St} {Q : Exit → St → Prop}
theorem Y1 {ops : Array Oper} {o : Oper} {os : List Oper} {A1 : St} {r : Option St} (h : Y5 P Φ ops o A = some A1) (h2 : runf P Φ ops os A1 = r) : runf P Φ ops (o :: os) A = r := by
  simp only [runf, h, Option.bind_some]; exact h2
theorem Y2 {ops : Array Oper} : runf P Φ ops [] A = some A := rfl
theorem Y3 (hΦ : FsOK P Φ) {id : Nat} {l : List Oper} {y : Code} (hok : opsOK l.toArray = true) (h : runf P Φ l.toArray l A = some A') (hk : Tri P y A' Q) : Tri P (.seq (.region id l.toArray false) y) A Q :=
  tri_seq (tri_runf hΦ hok h hk)
theorem seq_any (hm : P.follows .mixedOrders = true) (hΦ : FsOK P Φ) {id : Nat} {l : List Oper} {y : Code} (hok : opsOK l.toArray = true) (hsw : anyOK P Φ l.toArray = true) (h : runf P Φ l.toArray l A = some A') (hk : Tri P y A' Q) :
    Tri P (.seq (.region id l.toArray true) y) A Q :=
  tri_seq (tri_any hm hΦ hok (anyOK_spec hsw) h hk)
theorem Yk (hΦ : FsOK P Φ) {id : Nat} {l : List Oper} (hok : opsOK l.toArray = true) (h : runf P Φ l.toArray l A = some A') (hk : Q .normal A') : Tri P (.region id l.toArray false) A Q :=
  tri_runf hΦ hok h hk
theorem any_end (hm : P.follows .mixedOrders = true) (hΦ : FsOK P Φ) {id : Nat} {l : List Oper} (hok : opsOK l.toArray = true) (hsw : anyOK P Φ l.toArray = true) (h : runf P Φ l.toArray l A = some A') (hk : Q .normal A') :
    Tri P (.region id l.toArray true) A Q :=
  tri_any hm hΦ hok (anyOK_spec hsw) h hk
theorem seq_in {x z : Code} (h : Tri P x A (thenQ (fun A' => Tri P z A' Q) Q)) : Tri P (.seq x z) A Q := tri_seq h
theorem Ye {z : Code} (h : Tri P z A Q) : Tri P .skip A (thenQ (fun A' => Tri P z A' Q) Q) := tri_skip h
theorem Yp {rs : List ResultVar} {m : Nat} {R : D → List Obj → Prop} {d : D} {ids : List Nat} {objs : List Obj} (h : outRes P A rs = some (d, ids)) (ho : outObjs A.H m = some objs) (hn : ids.Nodup)
    (hm : ∀ r ∈ ids, m ≤ r) (hQ : R d objs) : Ends P rs m R .ret A := ⟨.inl rfl, d, ids, objs, h, ho, hn, hm, hQ⟩
theorem ends_norm {rs : List ResultVar} {m : Nat} {R : D → List Obj → Prop} {d : D} {ids : List Nat} {objs : List Obj} (h : outRes P A rs = some (d, ids)) (ho : outObjs A.H m = some objs) (hn : ids.Nodup)
    (hm : ∀ r ∈ ids, m ≤ r) (hQ : R d objs) : Ends P rs m R .normal A := ⟨.inr rfl, d, ids, objs, h, ho, hn, hm, hQ⟩
end
end Go.Dl
