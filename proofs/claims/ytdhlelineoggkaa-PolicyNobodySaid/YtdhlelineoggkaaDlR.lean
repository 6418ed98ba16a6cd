/- 'Dl', part R: one operation as a function of the state; runs of operations. -/
import Derived.Test.YtdhlelineoggkaaDlQ
namespace Go.Dl
open Go.RowKit

def St.with (A : St) (dst : Option Tmp) (r : D × List (Option Root)) : St := St.put { A with H := r.2 } dst r.1

def tkApp (P : Program) (t : TypeId) : Bool :=
  match tk P t with
  | some (.slice _) => true
  | some .str => true
  | _ => false

/-- One operation as a function of the state. -/
def stepx (P : Program) (A : St) (dst : Option Tmp) : Op → Option St
  | .store t x v => match A.ev x, (A.ev v).bind D.cells with
    | some d, some cells => if tsz P t = cells.length ∧ tsz P t ≠ 0 then (storeA A.H cells d).map fun H => St.put { A with H := H } dst .top else none
    | _, _ => none
  | .alloc t => ((tz P t).bind (boxA A.H)).map (A.with dst)
  | .box _ x => (((A.ev x).bind D.cells).bind (boxA A.H)).map (A.with dst)
  | .build t parts => (buildA P A.ev A.H t parts.toList).map (A.put dst)
  | .buildSlice t len parts => (buildSliceA P A.ev A.H t len parts.toList).map (A.with dst)
  | .makeSlice t l c => match (A.ev l).bind D.int, (A.ev c).bind D.int with
    | some l, some c => (makeA P A.H t l c).map (A.with dst)
    | _, _ => none
  | .convert s t x => match (A.ev x).bind (qconv P s t) with
    | some d => some (A.put dst d)
    | none => match (A.ev x).bind (bytesStr P A.H s t) with
      | some d => some (A.put dst d)
      | none => ((A.ev x).bind (strBytes P A.H s t)).map (A.with dst)
  | .call c => match c.callee with
    | .builtin .append => match c.args.toList, c.argTypes.toList with
      | [s, x], [t, xt] => if tkApp P xt then (match A.ev s, A.ev x with
        | some d, some dx => (appendA P A t d dx).map fun r => r.2.put dst r.1
        | _, _ => none) else none
      | _, _ => none
    | _ => (qbuiltin P A.ev A.H c).map (A.put dst)
  | op => (qev P A.ev A.H op).map (A.put dst)

theorem step_x {P : Program} {o : Oper} {A A' : St} {R : St → Prop} (hop : o.op.operands.toList.all opdOK = true) (h : stepx P A o.dst o.op = some A') (hR : R A') : Step P o A R := by
  have quiet : ∀ d, qev P A.ev A.H o.op = some d → A.put o.dst d = A' → Step P o A R := fun d h1 h2 => step_quiet hop h1 (by rw [h2]; exact hR)
  have hev : ∀ {g : G} {S : Nat → Prop} {E : Env} {F : List (List Nat)} {a : Act} {w : World}, Rel g S E F A a w → ∀ {x : Operand} {d : D}, x ∈ o.op.operands.toList → A.ev x = some d → RepD w S E d (a.eval x) := by
    intro g S E F a w hr x d hx he
    exact ev_rep hr (List.all_eq_true.1 hop x hx) he
  unfold stepx at h
  split at h
  · rename_i t x v ho
    split at h
    · rename_i d cells h1 h2
      split at h
      · rename_i hc
        cases hs : storeA A.H cells d with
        | none => rw [hs] at h; cases h
        | some H' =>
          rw [hs] at h; cases h
          intro g a w ⟨S, E, F, hr⟩ next Q hn
          cases hv : A.ev v with
          | none => rw [hv] at h2; cases h2
          | some dv =>
            rw [hv] at h2
            obtain ⟨w', k1, F', k2⟩ := storeA_sound (P := P) (t := t) hr (hev hr (by simp [ho, Op.operands]) h1) (hev hr (by simp [ho, Op.operands]) hv) h2 hc.1 hc.2 hs
            unfold Oper.wp
            have : (execOp a.eval o).run P w = .ok .skip w' := by simp [execOp, ho, k1]
            rw [this]
            exact hn _ _ _ hR ⟨S, E, F', k2.put .top⟩
      · cases h
    · cases h
  · rename_i t ho
    intro g a w ⟨S, E, F, hr⟩ next Q hn
    cases hz : tz P t with
    | none => rw [hz] at h; cases h
    | some z =>
      rw [hz] at h
      cases hb : boxA A.H z with
      | none => simp [hb] at h
      | some r =>
        obtain ⟨d, H'⟩ := r
        simp [hb] at h
        subst h
        obtain ⟨v, z1, z2, z3⟩ := tz_some (P := P) (w := w) (S := S) (E := E) hz
        obtain ⟨E', F', k1, k2⟩ := box_sound (el := t) hr z2 hb
        unfold Oper.wp
        have : (execOp a.eval o).run P w = .ok (.value (.pointer (some ⟨w.heap.size, 0, none⟩))) (w.alloc (.cells v.cells.toList.toArray t)) := by
          simp [execOp, ho, Instr.alloc, z1, newVar, run_newRow]
        rw [this]
        exact hn _ _ _ hR ⟨S, E', F', k1.put k2⟩
  · rename_i t x ho
    intro g a w ⟨S, E, F, hr⟩ next Q hn
    cases hx : A.ev x with
    | none => simp [hx] at h
    | some dx =>
      cases hc : dx.cells with
      | none => simp [hx, hc] at h
      | some cells =>
        cases hb : boxA A.H cells with
        | none => simp [hx, hc, hb] at h
        | some r =>
          obtain ⟨d, H'⟩ := r
          simp [hx, hc, hb] at h
          subst h
          have hst : cells.all (C.st A.H) = true := by
            unfold boxA at hb
            split at hb
            · assumption
            · cases hb
          have hv := cells_rep (hev hr (by simp [ho, Op.operands]) hx) hc hst hr
          obtain ⟨E', F', k1, k2⟩ := box_sound (el := t) hr hv hb
          unfold Oper.wp
          have : (execOp a.eval o).run P w = .ok (.value (.pointer (some ⟨w.heap.size, 0, none⟩))) (w.alloc (.cells (a.eval x).cells.toList.toArray t)) := by
            simp [execOp, ho, Instr.box, newVar, run_newRow]
          rw [this]
          exact hn _ _ _ hR ⟨S, E', F', k1.put k2⟩
  · rename_i t parts ho
    cases hb : buildA P A.ev A.H t parts.toList with
    | none => rw [hb] at h; cases h
    | some d =>
      rw [hb] at h; cases h
      intro g a w ⟨S, E, F, hr⟩ next Q hn
      obtain ⟨v, k1, k2⟩ := build_sound (P := P) hr (by
        intro x hx
        refine List.all_eq_true.1 hop x.2 ?_
        rw [ho]
        simp only [Op.operands, List.mem_map]
        exact ⟨x, hx, rfl⟩) hb
      unfold Oper.wp
      have : (execOp a.eval o).run P w = .ok (.value v) w := by simp [execOp, ho, k1]
      rw [this]
      exact hn _ _ _ hR ⟨S, E, F, hr.put k2⟩
  · rename_i t len parts ho
    cases hb : buildSliceA P A.ev A.H t len parts.toList with
    | none => rw [hb] at h; cases h
    | some r =>
      obtain ⟨d, H'⟩ := r
      rw [hb] at h; cases h
      intro g a w ⟨S, E, F, hr⟩ next Q hn
      obtain ⟨v, w', E', F', k1, k2, k3⟩ := buildSlice_sound (P := P) hr (by
        intro x hx
        refine List.all_eq_true.1 hop x.2 ?_
        rw [ho]
        simp only [Op.operands, List.mem_map]
        exact ⟨x, hx, rfl⟩) hb
      unfold Oper.wp
      have : (execOp a.eval o).run P w = .ok (.value v) w' := by simp [execOp, ho, k1]
      rw [this]
      exact hn _ _ _ hR ⟨S, E', F', k2.put k3⟩
  · rename_i t l c ho
    split at h
    · rename_i nl nc h1 h2
      cases hb : makeA P A.H t nl nc with
      | none => rw [hb] at h; cases h
      | some r =>
        obtain ⟨d, H'⟩ := r
        rw [hb] at h; cases h
        intro g a w ⟨S, E, F, hr⟩ next Q hn
        cases hl : A.ev l with
        | none => rw [hl] at h1; cases h1
        | some dl =>
          cases hcv : A.ev c with
          | none => rw [hcv] at h2; cases h2
          | some dc =>
            rw [hl] at h1
            rw [hcv] at h2
            obtain ⟨kl, e1, _⟩ := int_inv (hev hr (x := l) (by simp [ho, Op.operands]) hl) h1
            obtain ⟨kc, e2, _⟩ := int_inv (hev hr (x := c) (by simp [ho, Op.operands]) hcv) h2
            obtain ⟨v, w', E', F', k1, k2, k3⟩ := make_sound (P := P) (k := kl) (k' := kc) hr hb
            unfold Oper.wp
            have : (execOp a.eval o).run P w = .ok (.value v) w' := by simp [execOp, ho, e1, e2, k1]
            rw [this]
            exact hn _ _ _ hR ⟨S, E', F', k2.put k3⟩
    · cases h
  · rename_i s t x ho
    split at h
    · rename_i d hq
      cases h
      exact quiet d (by rw [ho]; exact hq) rfl
    · split at h
      · rename_i d hq
        cases h
        intro g a w ⟨S, E, F, hr⟩ next Q hn
        cases hx : A.ev x with
        | none => rw [hx] at hq; cases hq
        | some dx =>
          rw [hx] at hq
          obtain ⟨v', k1, k2⟩ := bytesStr_sound (P := P) hr (hev hr (by simp [ho, Op.operands]) hx) hq
          unfold Oper.wp
          have : (execOp a.eval o).run P w = .ok (.value v') w := by simp [execOp, ho, k1]
          rw [this]
          exact hn _ _ _ hR ⟨S, E, F, hr.put k2⟩
      · intro g a w ⟨S, E, F, hr⟩ next Q hn
        cases hx : A.ev x with
        | none => simp [hx] at h
        | some dx =>
          cases hq : strBytes P A.H s t dx with
          | none => simp [hx, hq] at h
          | some r =>
            obtain ⟨d, H'⟩ := r
            simp [hx, hq] at h
            subst h
            obtain ⟨v', w', E', F', k1, k2, k3⟩ := strBytes_sound (P := P) hr (hev hr (by simp [ho, Op.operands]) hx) hq
            unfold Oper.wp
            have : (execOp a.eval o).run P w = .ok (.value v') w' := by simp [execOp, ho, k1]
            rw [this]
            exact hn _ _ _ hR ⟨S, E', F', k2.put k3⟩
  · rename_i c ho
    split at h
    · rename_i hc
      split at h
      · rename_i s x t xt hargs htys
        split at h
        · rename_i hap
          split at h
          · rename_i d dx h1 h2
            cases hq : appendA P A t d dx with
            | none => rw [hq] at h; cases h
            | some r =>
              obtain ⟨d', A1⟩ := r
              rw [hq] at h; cases h
              intro g a w ⟨S, E, F, hr⟩ next Q hn
              have ha : c.args = #[s, x] := by apply Array.toList_inj.1; simpa using hargs
              have ht : c.argTypes = #[t, xt] := by apply Array.toList_inj.1; simpa using htys
              have hxd : ∃ xd, P.underlying xt = some xd ∧ (xd = .string ∨ ∃ e', xd = .slice e') := by
                unfold tkApp at hap
                split at hap
                · rename_i e hk; exact ⟨_, tk_slice hk, .inr ⟨e, rfl⟩⟩
                · rename_i hk; exact ⟨_, tk_str hk, .inl rfl⟩
                · cases hap
              obtain ⟨xd, u1, u2⟩ := hxd
              obtain ⟨v', w', E', F', k1, k2, k3⟩ := append_sound (P := P) (ty := o.type) hr u1 u2 (hev hr (x := s) (by simp [ho, Op.operands, Call.operands, hc, ha]) h1) (hev hr (x := x) (by simp [ho, Op.operands, Call.operands, hc, ha]) h2) hq
              unfold Oper.wp
              have : (execOp a.eval o).run P w = .ok (.value v') w' := by simp [execOp, ho, resolve, invoke, builtin, hc, ha, ht, k1]
              rw [this]
              exact hn _ _ _ hR ⟨S, E', F', k2.put k3⟩
          · cases h
        · cases h
      · cases h
    · cases hq : qbuiltin P A.ev A.H c with
      | none => rw [hq] at h; cases h
      | some d => rw [hq] at h; cases h; exact quiet d (by rw [ho]; exact hq) rfl
  · rename_i h1 h2 h3 h4 h5 h6 h7 h8
    cases hq : qev P A.ev A.H o.op with
    | none => rw [hq] at h; cases h
    | some d => rw [hq] at h; cases h; exact quiet d hq rfl

/-- Operations, one behind the other. -/
def runx (P : Program) (ops : Array Oper) : List Oper → St → Option St
  | [], A => some A
  | o :: os, A => match o.guard with
    | none => (stepx P A o.dst o.op).bind (runx P ops os)
    | some (j, want) => match (ops[j]?).bind (·.dst) with
      | some t => match A.sl[t]? with
        | some (.c (.v (.bool b))) => if b = want then (stepx P A o.dst o.op).bind (runx P ops os) else runx P ops os (A.put o.dst .top)
        | _ => none
      | none => none

def opsOK (ops : Array Oper) : Bool := ops.toList.all fun o => o.op.operands.toList.all opdOK

theorem from_run {P : Program} {ops : Array Oper} (hok : opsOK ops = true) {R : St → Prop} : ∀ (n i : Nat) (A A' : St), runx P ops ((ops.toList.drop i).take n) A = some A' → i + n ≤ ops.size →
    TriFrom P ops (i + n) A' R → TriFrom P ops i A R
  | 0, i, A, A', h, _, ht => by simp [runx] at h; subst h; exact ht
  | n + 1, i, A, A', h, hn, ht => by
    have hi : i < ops.toList.length := by simp; omega
    have hge : ops[i]? = some ops.toList[i] := by simp
    rw [List.drop_eq_getElem_cons hi, List.take_succ_cons] at h
    generalize ho : ops.toList[i] = o at h hge
    have hop : o.op.operands.toList.all opdOK = true := List.all_eq_true.1 hok o (by rw [← ho]; exact List.getElem_mem hi)
    have ht' : TriFrom P ops (i + 1 + n) A' R := by rw [show i + 1 + n = i + (n + 1) by omega]; exact ht
    simp only [runx] at h
    split at h
    · rename_i hg
      cases hs : stepx P A o.dst o.op with
      | none => rw [hs] at h; cases h
      | some A1 =>
        rw [hs] at h
        exact from_step hge hg (step_x hop hs (from_run hok n (i + 1) A1 A' h (by omega) ht'))
    · rename_i j want hg
      split at h
      · rename_i t hj
        split at h
        · rename_i b hb
          refine from_guard hge hg hj hb ?_ ?_
          · intro hbw
            rw [if_pos hbw] at h
            cases hs : stepx P A o.dst o.op with
            | none => rw [hs] at h; cases h
            | some A1 =>
              rw [hs] at h
              exact step_x hop hs (from_run hok n (i + 1) A1 A' h (by omega) ht')
          · intro hbw
            rw [if_neg (by rw [hbw]; cases want <;> simp)] at h
            exact from_run hok n (i + 1) _ A' h (by omega) ht'
        · cases h
      · cases h

/-- A region in the text's order, as a function. -/
theorem tri_run {P : Program} {id : Nat} {ops : Array Oper} {A A' : St} {Q : Exit → St → Prop} (hok : opsOK ops = true) (h : runx P ops ops.toList A = some A') (hQ : Q .normal A') : Tri P (.region id ops false) A Q := by
  refine tri_region (from_run hok ops.size 0 A A' ?_ (by omega) (from_end (by omega) hQ))
  rw [List.drop_zero, List.take_of_length_le (by simp)]
  exact h

end Go.Dl
