/- 'Dl', part W: the rule for a call; rules that change nothing but what is said. -/
import Derived.Test.YtdhlelineoggkaaDlV
namespace Go.Dl
open Go.RowKit

def evsA (A : St) : List Operand → Option (List D)
  | [] => some []
  | x :: xs => match A.ev x, evsA A xs with
    | some d, some ds => some (d :: ds)
    | _, _ => none

section
variable {P : Program}

theorem evsA_spec {A : St} : ∀ {xs : List Operand} {ds : List D}, evsA A xs = some ds → ds.length = xs.length ∧ ∀ (i : Nat) (d : D), ds[i]? = some d → ∃ x, xs[i]? = some x ∧ A.ev x = some d
  | [], ds, h => by cases h; simp
  | x :: xs, ds, h => by
    simp only [evsA] at h
    split at h
    · rename_i d ds' h1 h2
      cases h
      obtain ⟨k1, k2⟩ := evsA_spec h2
      refine ⟨by simp [k1], fun i d' hd => ?_⟩
      cases i with
      | zero => simp at hd; subst hd; exact ⟨x, rfl, h1⟩
      | succ i => simpa using k2 i d' (by simpa using hd)
    · cases h

theorem run_callFunc {k : FuncId} {args : Array Value} {w : World} (h : callable P k = true) : (callFunc k args).run P w = .ok (.enter k args) w := by
  unfold callable at h
  split at h
  · rename_i fn hf
    rw [Bool.and_eq_true] at h
    obtain ⟨h1, h2⟩ := h
    have e1 : ¬ (fn.name = "runtime.NumGoroutine") := by simpa using h1
    have e2 : ¬ (fn.body = none) := by
      intro hb
      rw [hb] at h2
      cases h2
    simp [callFunc, program, Sem.run, hf, e1, e2]
  · cases h

theorem step_call {o : Oper} {c : Call} {A : St} {R : St → Prop} {k : FuncId} {caps : List C} {f : Operand} {ds ds' : List D} {ρ B : List Nat} {objs : List Obj} {spec : Spec} {Q : D → List Obj → Prop}
    (ho : o.op = .call c) (hop : o.op.operands.toList.all opdOK = true) (hc : c.callee = .value f) (hf : A.ev f = some (.c (.f k caps))) (hk : callable P k = true) (hds : evsA A c.args.toList = some ds)
    (harg : argDs A.H ρ (ds ++ caps.map .c) = some (ds', B)) (hρ : ρ.Nodup) (hobjs : objsAt A.H ρ = some objs) (hm : Meets P k spec) (hs : spec ds' objs Q)
    (hR : ∀ d objs', Q d objs' → objs'.length = objs.length → (B = [] ∨ (d.ni = true ∧ ∀ o ∈ objs', Obj.ni o = true)) ∧ R (St.put { A with H := (settle (setObjs A.H ρ objs') d).2 } o.dst (settle (setObjs A.H ρ objs') d).1)) :
    Step P o A R := by
  intro g a w ⟨S, E, F, hr⟩ next Q0 hn
  have hopm : ∀ x ∈ c.args.toList, opdOK x = true := fun x hx => List.all_eq_true.1 hop x (by rw [ho]; simp only [Op.operands, Call.operands, Array.toList_append, List.mem_append]; exact .inr hx)
  have hopf : opdOK f = true := List.all_eq_true.1 hop f (by rw [ho]; simp [Op.operands, Call.operands, hc])
  obtain ⟨e1, e2⟩ := evsA_spec hds
  -- the callee
  have hfv := ev_rep hr hopf hf
  have hcs : ∃ cs : Array Value, a.eval f = .func (.func k) #[] cs ∧ Rep w S E (.vs caps cs.toList) [] := by
    generalize a.eval f = vf at hfv
    cases hfv with
    | c h => cases h with
      | f _ hh => exact ⟨_, rfl, hh⟩
  obtain ⟨cs, hfe, hcaps⟩ := hcs
  have hrun : (execOp a.eval o).run P w = .ok (.enter k (c.args.map a.eval ++ cs)) w := by
    have h1 : (execOp a.eval o).run P w = (invoke (.fn (.func k) cs) (#[] ++ c.args.map a.eval)).run P w := by
      simp only [execOp, ho, Sem.run_bind, resolve, hc, Deferred.ofValue, hfe, Sem.run_pure, Result.andThen_ok]
    rw [h1]
    simp only [invoke, Array.empty_append]
    exact run_callFunc hk
  -- the objects
  obtain ⟨ob1, ob2⟩ := objsAt_spec hobjs
  have hρH : ∀ r ∈ ρ, ∃ R p f, A.H[r]? = some (some R) ∧ E[r]? = some (some p) ∧ F[r]? = some f ∧ RootAt w S E R p f := by
    intro r hrm
    obtain ⟨i, hi⟩ := List.getElem?_of_mem hrm
    have hi' := lt_len hi
    obtain ⟨r', R, q1, q2, _⟩ := ob2 i (objs[i]'(by omega)) (List.getElem?_eq_getElem _)
    rw [hi] at q1; cases q1
    obtain ⟨p, f, h1, h2, h3⟩ := hr.root r R q2
    exact ⟨R, p, f, q2, h1, h2, h3⟩
  let pl : Nat → Pl := fun r => ((E[r]?).getD none).getD ⟨none, 0, 0, 0⟩
  let fl : Nat → List Nat := fun r => (F[r]?).getD []
  have hpls : ∀ (i r : Nat), ρ[i]? = some r → ∃ p f, E[r]? = some (some p) ∧ F[r]? = some f ∧ (ρ.map pl)[i]? = some p ∧ (ρ.map fl)[i]? = some f := by
    intro i r hi
    obtain ⟨R, p, f, _, h1, h2, _⟩ := hρH r (List.mem_of_getElem? hi)
    exact ⟨p, f, h1, h2, by simp [pl, hi, h1], by simp [fl, hi, h2]⟩
  -- the arguments
  have hvals : (ds ++ caps.map D.c).length = ((c.args.map a.eval).toList ++ cs.toList).length := by
    have := vs_len hcaps
    simp [e1] at this ⊢
    omega
  have hrep : ∀ (i : Nat) (d : D), (ds ++ caps.map D.c)[i]? = some d → RepD w S E d (((c.args.map a.eval).toList ++ cs.toList).getD i undef) := by
    intro i d hd
    have hla : (c.args.map a.eval).toList.length = ds.length := by simp [e1]
    by_cases hi : i < ds.length
    · rw [List.getElem?_append_left hi] at hd
      obtain ⟨x, k1, k2⟩ := e2 i d hd
      have := ev_rep hr (hopm x (List.mem_of_getElem? k1)) k2
      have hx : ((c.args.map a.eval).toList ++ cs.toList).getD i undef = a.eval x := by
        rw [List.getD_eq_getElem?_getD, List.getElem?_append_left (by omega), Array.toList_map, List.getElem?_map, k1]; rfl
      rw [hx]; exact this
    · rw [List.getElem?_append_right (by omega), List.getElem?_map, Option.map_eq_some_iff] at hd
      obtain ⟨y, k1, rfl⟩ := hd
      obtain ⟨_, k2⟩ := vs_get hcaps
      obtain ⟨v, f, m1, m2, m3⟩ := k2 _ y k1
      have : f = [] := List.eq_nil_iff_forall_not_mem.2 fun x hx => by cases m3 x hx
      subst this
      have hx : ((c.args.map a.eval).toList ++ cs.toList).getD i undef = v := by
        rw [List.getD_eq_getElem?_getD, List.getElem?_append_right (by omega), hla, m1]; rfl
      rw [hx]; exact .c m2
  obtain ⟨⟨n1, n2⟩, n3⟩ := argDs_sound hr (pls := ρ.map pl) (fun i r hi => by obtain ⟨p, f, h1, _, h3, _⟩ := hpls i r hi; exact ⟨p, h1, h3⟩) (vs := (c.args.map a.eval).toList ++ cs.toList) hvals hrep harg (fun r hr => hr)
  have hfl : ∀ b, b ∈ (ρ.map fl).flatten → ∃ r ∈ ρ, ∃ f, F[r]? = some f ∧ b ∈ f := by
    intro b hb
    obtain ⟨f, h1, h2⟩ := List.mem_flatten.1 hb
    obtain ⟨r, h3, rfl⟩ := List.mem_map.1 h1
    obtain ⟨R, p, f', _, _, k2, _⟩ := hρH r h3
    exact ⟨r, h3, f', k2, by simpa [fl, k2] using h2⟩
  have hobjsAt : ObjsAt w (fun b => S b ∨ Lent F B b) objs (ρ.map pl) (ρ.map fl) := by
    refine ⟨by simp [ob1], by simp [ob1], fun i ob hob => ?_⟩
    obtain ⟨r, R, q1, q2, q3, q4⟩ := ob2 i ob hob
    obtain ⟨p, f, h1, h2, h3, h4⟩ := hpls i r q1
    obtain ⟨p0, f0, t1, t2, t3⟩ := hr.root r R q2
    rw [h1] at t1; cases t1
    rw [h2] at t2; cases t2
    refine ⟨p, f, h3, h4, ?_⟩
    subst q4
    obtain ⟨g1, g2, g3, g4, g5⟩ := t3
    refine ⟨g1, g2, g3, g4, ?_⟩
    cases hat : p.at? with
    | none => rw [hat] at g5; exact g5
    | some bo =>
      rw [hat] at g5
      obtain ⟨fr, u1, u2, u3⟩ := g5
      exact ⟨fr, u1, u2, ((u3.ldat (rows_dat q3)).noenv (E' := []) rfl).mono (fun b hb => .inl hb) (.refl _ _) (fun _ _ => rfl)⟩
  have hmeet := hm ds' objs Q hs w (fun b => S b ∨ Lent F B b) (c.args.map a.eval ++ cs) (ρ.map pl) (ρ.map fl) (by rw [n1]; simpa using hvals)
    (fun i d hd => by
      have := n2 i d hd
      rwa [← Array.toList_append, show ((c.args.map a.eval ++ cs).toList.getD i undef) = (c.args.map a.eval ++ cs).getD i undef by
        rw [List.getD_eq_getElem?_getD, Array.getElem?_toList, Array.getD_eq_getD_getElem?]] at this)
    hobjsAt
    (by
      refine nodup_flat ?_ ?_
      · intro f hf
        obtain ⟨r, h3, rfl⟩ := List.mem_map.1 hf
        obtain ⟨R, p, f', _, _, k2, _⟩ := hρH r h3
        simp only [fl, k2, Option.getD_some]
        exact nodup_at hr.nodup k2
      · intro i j f f' x hi hj hx hx'
        rw [List.getElem?_map, Option.map_eq_some_iff] at hi hj
        obtain ⟨ri, i1, rfl⟩ := hi
        obtain ⟨rj, j1, rfl⟩ := hj
        obtain ⟨_, _, fi, _, _, ki, _⟩ := hρH ri (List.mem_of_getElem? i1)
        obtain ⟨_, _, fj, _, _, kj, _⟩ := hρH rj (List.mem_of_getElem? j1)
        have := apart hr ki kj (by simpa [fl, ki] using hx) (by simpa [fl, kj] using hx')
        subst this
        exact (List.getElem?_inj (lt_len i1) hρ).1 (i1.trans j1.symm))
    (by
      intro b hb
      obtain ⟨r, h1, f, h2, h3⟩ := hfl b hb
      refine ⟨?_, (hr.fsz b (flat_get h2 b h3)).1⟩
      rintro (h | ⟨r', m1, f', m2, m3⟩)
      · exact hr.fS b (flat_get h2 b h3) h
      · have := apart hr h2 m2 h3 m3
        subst this
        exact n3 r m1 h1)
    (by
      rintro b (h | ⟨r', m1, f', m2, m3⟩)
      · exact (hr.Ssz b h).1
      · exact (hr.fsz b (flat_get m2 b m3)).1)
  unfold Oper.wp
  rw [hrun, Oper.upon_enter]
  refine hmeet.mono ?_
  rintro e w' ⟨v, d, objs', rfl, hQ, hlo, hleft⟩
  obtain ⟨r1, r2⟩ := hR d objs' hQ hlo
  obtain ⟨S2, E2, F2, t1, t2⟩ := hr.afterCall hρ hobjs ⟨by simp, by simp⟩ hpls n3 hlo hleft r1
  exact hn _ _ _ r2 ⟨S2, E2, F2, t1.put t2⟩

end
end Go.Dl
