/- 'Dl', part X: operations with calls of known functions, as one function. -/
import Derived.Test.YtdhlelineoggkaaDlW
import Derived.Orders
namespace Go.Dl
open Go.RowKit

/-- What is known of functions: those that take data and give data; those that also change objects. -/
structure Fs where
  pure : FuncId → Option (List D → Option D)
  objs : FuncId → Option (List D → List Obj → Option (D × List Obj))

def Fs.none : Fs := ⟨fun _ => .none, fun _ => .none⟩

/-- A contract that says just what comes. -/
def detS (f : List D → List Obj → Option (D × List Obj)) : Spec := fun args objs Q => ∃ d os, f args objs = some (d, os) ∧ Q d os
def pureS (f : List D → Option D) : Spec := fun args objs Q => objs = [] ∧ ∃ d, f args = some d ∧ Q d []

structure FsOK (P : Program) (Φ : Fs) : Prop where
  pure : ∀ k f, Φ.pure k = some f → callable P k = true ∧ Meets P k (pureS f)
  objs : ∀ k f, Φ.objs k = some f → callable P k = true ∧ Meets P k (detS f)

/-- The roots that pointers name, each once. -/
def rootsC : C → List Nat
  | .p r _ _ => [r]
  | _ => []
def rootsD : D → List Nat
  | .c y => rootsC y
  | .agg xs => xs.flatMap rootsC
  | _ => []
def dedup : List Nat → List Nat
  | [] => []
  | x :: xs => let r := dedup xs; if r.contains x then r else x :: r

def callP (Φ : Fs) (ρ : Operand → Option D) (evs : List Operand → Option (List D)) (H : List (Option Root)) (c : Call) : Option (D × List (Option Root)) :=
  match c.callee with
  | .value f => match ρ f with
    | some (.c (.f k caps)) => match Φ.pure k, evs c.args.toList with
      | some F, some ds => match argDs H [] (ds ++ caps.map .c) with
        | some (ds', B) => match F ds' with
          | some d => if B.isEmpty || d.ni then some (settle H d) else none
          | none => none
        | none => none
      | _, _ => none
    | _ => none
  | _ => none

def callO (Φ : Fs) (ρ : Operand → Option D) (evs : List Operand → Option (List D)) (H : List (Option Root)) (c : Call) : Option (D × List (Option Root)) :=
  match c.callee with
  | .value f => match ρ f with
    | some (.c (.f k caps)) => match Φ.objs k, evs c.args.toList with
      | some F, some ds => let rs := dedup (rootsD (.agg (caps ++ ds.filterMap D.cell))) 
        match argDs H rs (ds ++ caps.map .c), objsAt H rs with
        | some (ds', B), some os => match F ds' os with
          | some (d, os') => if os'.length = os.length ∧ (B.isEmpty || (d.ni && os'.all Obj.ni)) = true then some (settle (setObjs H rs os') d) else none
          | none => none
        | _, _ => none
      | _, _ => none
    | _ => none
  | _ => none

def stepf (P : Program) (Φ : Fs) (A : St) (dst : Option Tmp) (op : Op) : Option St :=
  match op with
  | .call c => match c.callee with
    | .value _ => match callP Φ A.ev (evsA A) A.H c with
      | some r => some (A.with dst r)
      | none => (callO Φ A.ev (evsA A) A.H c).map (A.with dst)
    | _ => stepx P A dst op
  | op => stepx P A dst op

theorem dedup_nodup : ∀ l : List Nat, (dedup l).Nodup
  | [] => .nil
  | x :: xs => by
    simp only [dedup]
    split
    · exact dedup_nodup xs
    · rename_i h
      refine List.nodup_cons.2 ⟨fun hx => h ?_, dedup_nodup xs⟩
      simpa using hx

section
variable {P : Program} {Φ : Fs}

theorem stepf_ok (hΦ : FsOK P Φ) {o : Oper} {A A' : St} {R : St → Prop} (hop : o.op.operands.toList.all opdOK = true) (h : stepf P Φ A o.dst o.op = some A') (hR : R A') : Step P o A R := by
  unfold stepf at h
  split at h
  · rename_i c ho
    split at h
    · rename_i f hf
      split at h
      · rename_i r hr
        cases h
        unfold callP at hr
        rw [hf] at hr
        simp only at hr
        split at hr
        · rename_i k caps hev
          split at hr
          · rename_i F ds hF hds
            split at hr
            · rename_i ds' B harg
              split at hr
              · rename_i d hd
                split at hr
                · rename_i hB
                  cases hr
                  obtain ⟨h1, h2⟩ := hΦ.pure k F hF
                  refine step_call ho hop hf hev h1 hds harg .nil (objs := []) rfl h2 (Q := fun d' os => d' = d ∧ os = []) ⟨rfl, d, hd, rfl, rfl⟩ ?_
                  rintro _ _ ⟨rfl, rfl⟩ _
                  refine ⟨?_, hR⟩
                  rw [Bool.or_eq_true, List.isEmpty_iff] at hB
                  exact hB.imp id fun h => ⟨h, by simp⟩
                · cases hr
              · cases hr
            · cases hr
          · cases hr
        · cases hr
      · rename_i hr0
        cases hr : callO Φ A.ev (evsA A) A.H c with
        | none => rw [hr] at h; cases h
        | some r =>
          rw [hr] at h; cases h
          unfold callO at hr
          rw [hf] at hr
          simp only at hr
          split at hr
          · rename_i k caps hev
            split at hr
            · rename_i F ds hF hds
              split at hr
              · rename_i ds' B os harg hos
                split at hr
                · rename_i d os' hd
                  split at hr
                  · rename_i hB
                    cases hr
                    obtain ⟨h1, h2⟩ := hΦ.objs k F hF
                    refine step_call ho hop hf hev h1 hds harg (dedup_nodup _) hos h2 (Q := fun d' os'' => d' = d ∧ os'' = os') ⟨d, os', hd, rfl, rfl⟩ ?_
                    rintro _ _ ⟨rfl, rfl⟩ _
                    refine ⟨?_, hR⟩
                    have := hB.2
                    rw [Bool.or_eq_true, List.isEmpty_iff, Bool.and_eq_true, List.all_eq_true] at this
                    exact this
                  · cases hr
                · cases hr
              · cases hr
            · cases hr
          · cases hr
    · exact step_x hop h hR
  · exact step_x hop h hR

/-- One operation with its guard. -/
def xstep (P : Program) (Φ : Fs) (ops : Array Oper) (o : Oper) (A : St) : Option St :=
  match o.guard with
  | none => stepf P Φ A o.dst o.op
  | some (j, want) => match (ops[j]?).bind (·.dst) with
    | some t => match A.sl[t]? with
      | some (.c (.v (.bool b))) => if b = want then stepf P Φ A o.dst o.op else some (A.put o.dst (.t []))
      | some (.t []) => some (A.put o.dst (.t []))
      | _ => none
    | none => none

def runf (P : Program) (Φ : Fs) (ops : Array Oper) : List Oper → St → Option St
  | [], A => some A
  | o :: os, A => (xstep P Φ ops o A).bind (runf P Φ ops os)

/-- One operation of a region, from a state. -/
theorem xstep_wp (hΦ : FsOK P Φ) {ops : Array Oper} {i : Nat} {o : Oper} (ho : ops[i]? = some o) (hop : o.op.operands.toList.all opdOK = true) {A A' : St} (h : xstep P Φ ops o A = some A')
    {g : G} {a : Act} {w : World} (hs : Sat g A a w) {Q : Exit → Act → World → Prop} {K : Act → World → Prop} (hK : ∀ a' w', Sat g A' a' w' → K a' w') : wpOp P ops Q i K a w := by
  unfold wpOp
  simp only [ho]
  unfold xstep at h
  split at h
  · rename_i hg
    simp only [Region.wanted, hg, if_true]
    exact .inl (stepf_ok hΦ hop h (R := fun A => A = A') rfl g a w hs _ _ fun A1 a' w' e hs' => hK a' w' (e ▸ hs'))
  · rename_i j want hg
    split at h
    · rename_i t ht
      split at h
      · rename_i b hb
        obtain ⟨S, E, F, hr⟩ := id hs
        have hv : a.tmps.getD t undef = .bool b := bool_inv (hr.sl t _ hb)
        simp only [Region.wanted, hg, yielded_of ht hv]
        split at h
        · rename_i hw
          subst hw
          simp only [beq_self_eq_true, if_true]
          exact .inl (stepf_ok hΦ hop h (R := fun A => A = A') rfl g a w hs _ _ fun A1 a' w' e hs' => hK a' w' (e ▸ hs'))
        · rename_i hw
          have : (some b == some want) = false := by cases b <;> cases want <;> simp_all
          rw [this]
          simp only [Bool.false_eq_true, if_false]
          cases h
          exact hK _ _ ⟨S, E, F, hr.put (.t rfl (by simp))⟩
      · rename_i hb
        cases h
        obtain ⟨S, E, F, hr⟩ := id hs
        have hv := hr.sl t _ hb
        have hy : yielded ops a.tmps j = none := by
          unfold yielded
          rw [ht, Option.bind_some]
          generalize hval : a.tmps.getD t undef = v at hv
          rw [Array.getD_eq_getD_getElem?] at hval
          cases hv with
          | t _ _ =>
            cases hx : a.tmps[t]? with
            | none => rfl
            | some v => rw [hx] at hval; simp at hval; subst hval; rfl
        simp only [Region.wanted, hg, hy]
        have : ((none : Option Bool) == some want) = false := rfl
        rw [this]
        simp only [Bool.false_eq_true, if_false]
        exact hK _ _ ⟨S, E, F, hr.put (.t rfl (by simp))⟩
      · cases h
    · cases h

theorem runf_ops (hΦ : FsOK P Φ) {ops : Array Oper} (hok : opsOK ops = true) {g : G} {Q : Exit → Act → World → Prop} {A' : St} (hQ : ∀ a' w', Sat g A' a' w' → Q .normal a' w') :
    ∀ (n i : Nat) (A : St) (a : Act) (w : World), i + n = ops.size → runf P Φ ops (ops.toList.drop i) A = some A' → Sat g A a w → wpOps P ops Q (List.range' i n) a w := by
  intro n
  induction n with
  | zero =>
    intro i A a w hn h hs
    rw [List.drop_eq_nil_of_le (by simp; omega)] at h
    cases h
    exact hQ a w hs
  | succ n ih =>
    intro i A a w hn h hs
    have hi : i < ops.toList.length := by simp; omega
    rw [List.drop_eq_getElem_cons hi] at h
    simp only [runf] at h
    have ho : ops[i]? = some ops.toList[i] := by simp
    cases hx : xstep P Φ ops ops.toList[i] A with
    | none => rw [hx] at h; cases h
    | some A1 =>
      rw [hx] at h
      rw [List.range'_succ, wpOps_cons]
      exact xstep_wp hΦ ho (List.all_eq_true.1 hok _ (List.getElem_mem hi)) hx hs fun a' w' hs' => ih (i + 1) A1 a' w' (by omega) h hs'

theorem tri_runf (hΦ : FsOK P Φ) {id : Nat} {ops : Array Oper} {A A' : St} {Q : Exit → St → Prop} (hok : opsOK ops = true) (h : runf P Φ ops ops.toList A = some A') (hQ : Q .normal A') :
    Tri P (.region id ops false) A Q := by
  intro g a w hs
  refine wp_region ?_
  rw [List.range_eq_range']
  exact runf_ops hΦ hok (fun a' w' hs' => ⟨A', hs', hQ⟩) ops.size 0 A a w (by omega) (by simpa using h) hs

end
end Go.Dl
