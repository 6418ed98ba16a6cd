/- 'Dl', part Y: when two operations may change places. -/
import Derived.Test.YtdhlelineoggkaaDlX
namespace Go.Dl
open Go.RowKit

/-- There is such a state. -/
def Ok (g : G) (A : St) : Prop := ∃ a w, Sat g A a w

section
variable {P : Program} {Φ : Fs}

theorem wp_some {o : Oper} {a : Act} {w : World} {p : Prop} (h : o.wp P a w (fun _ _ => p) (fun _ _ _ => p)) : p := by
  unfold Oper.wp at h
  generalize (execOp a.eval o).run P w = r at h
  cases r with
  | ok n w' =>
    cases n <;> simp only [Oper.upon] at h <;> try exact h
    case enter f args =>
      obtain ⟨e, w'', fr, h1, _⟩ := h []
      cases e with
      | returned v => exact h1
      | panicked c => exact h1
      | outgrown => obtain ⟨_, _, h1⟩ := h1; exact h1
    case row r args =>
      obtain ⟨v, w'', h1, _⟩ := h default []
      exact h1
  | halt x w' => cases x <;> simp only [Oper.upon] at h <;> exact h

theorem xstep_ok (hΦ : FsOK P Φ) {ops : Array Oper} {o : Oper} (hop : o.op.operands.toList.all opdOK = true) {A A' : St} (h : xstep P Φ ops o A = some A') {g : G} (hs : Ok g A) : Ok g A' := by
  obtain ⟨a, w, hs⟩ := hs
  have one : ∀ {A1 : St}, stepf P Φ A o.dst o.op = some A1 → Ok g A1 := fun {A1} h1 =>
    wp_some (stepf_ok hΦ hop h1 (R := fun A => A = A1) rfl g a w hs _ _ fun A2 a' w' e hs' => ⟨a', w', e ▸ hs'⟩)
  unfold xstep at h
  split at h
  · exact one h
  · split at h
    · split at h
      · split at h
        · exact one h
        · cases h
          obtain ⟨S, E, F, hr⟩ := hs
          exact ⟨a.put o.dst undef, w, S, E, F, hr.put (.t rfl (by simp))⟩
      · cases h
        obtain ⟨S, E, F, hr⟩ := hs
        exact ⟨a.put o.dst undef, w, S, E, F, hr.put (.t rfl (by simp))⟩
      · cases h
    · cases h

theorem Rep.inE {w : World} {S : Nat → Prop} {E : Env} {it : It} {fp : List Nat} (h : Rep w S E it fp) : ∀ r, it.no r = false → r < E.length := by
  induction h with
  | h hr _ => intro r h; simp [It.no, C.no] at h; omega
  | p hr _ => intro r h; simp [It.no, C.no] at h; omega
  | f hc _ ih => intro r h; exact ih r (by revert h; simp [It.no, C.no])
  | lcons hv hc hr ih1 ih2 =>
    intro r h
    rename_i dat c cs b off v f1 f2
    simp only [It.no, C.nos, Bool.or_eq_false_iff, Bool.and_eq_false_iff] at h
    rcases h.2 with k | k
    · exact ih1 r (by simp [It.no, h.1, k])
    · exact ih2 r (by simp [It.no, h.1, k])
  | vcons hc hr ih1 ih2 =>
    intro r h
    simp only [It.no, C.nos, Bool.and_eq_false_iff] at h
    rcases h with k | k
    · exact ih1 r (by simp [It.no, k])
    · exact ih2 r (by simp [It.no, k])
  | v _ => intro r h; simp [It.no, C.no] at h
  | nilI => intro r h; simp [It.no, C.no] at h
  | nilO => intro r h; simp [It.no, C.no] at h
  | imm _ _ _ _ _ => intro r h; simp [It.no, C.no] at h
  | own _ _ _ _ _ _ => intro r h; simp [It.no, C.no] at h
  | optr _ _ _ => intro r h; simp [It.no, C.no] at h
  | x => intro r h; simp [It.no, C.no] at h
  | m => intro r h; simp [It.no, C.no] at h
  | lnil => intro r h; simp [It.no, C.nos] at h
  | vnil => intro r h; simp [It.no, C.nos] at h

theorem nos_get {r : Nat} : ∀ {ds : List D}, D.nos r ds = false → ∃ (i : Nat) (d : D), ds[i]? = some d ∧ D.no r d = false
  | [], h => by simp [D.nos] at h
  | d :: ds, h => by
    simp only [D.nos, Bool.and_eq_false_iff] at h
    rcases h with h | h
    · exact ⟨0, d, rfl, h⟩
    · obtain ⟨i, d', h1, h2⟩ := nos_get h
      exact ⟨i + 1, d', by simpa using h1, h2⟩

theorem RepD.inE {w : World} {S : Nat → Prop} {E : Env} {d : D} {v : Value} (h : RepD w S E d v) : ∀ r, d.no r = false → r < E.length := by
  induction h with
  | top => intro r h; simp [D.no] at h
  | c h => intro r k; exact h.inE r (by simpa [It.no, D.no] using k)
  | agg h => intro r k; exact h.inE r (by simpa [It.no, D.no] using k)
  | q hS h => intro r h; simp [D.no] at h
  | t hn hh ih =>
    intro r k
    simp only [D.no] at k
    obtain ⟨i, d', h1, h2⟩ := nos_get k
    exact ih i d' h1 r h2

theorem constC_no {v : Value} (r : Nat) : (constC v).no r = true := by
  cases v <;> simp [constC, C.no]

theorem constCs_no (r : Nat) : ∀ l : List Value, C.nos r (l.map constC) = true
  | [] => rfl
  | v :: l => by simp [C.nos, constC_no, constCs_no r l]

theorem constD_no {v : Value} (r : Nat) : (constD v).no r = true := by
  cases v <;> simp [constD, D.no, constC_no, constCs_no]

theorem Ok.ev_in {g : G} {A : St} (h : Ok g A) {x : Operand} {d : D} (he : A.ev x = some d) (r : Nat) (hr : d.no r = false) : r < A.H.length := by
  obtain ⟨a, w, S, E, F, hs⟩ := h
  cases x with
  | tmp t => have := (hs.sl t d he).inE r hr; rw [hs.lE] at this; exact this
  | const v => simp only [St.ev, Option.some.injEq] at he; subst he; rw [constD_no] at hr; cases hr
  | func f => simp only [St.ev, Option.some.injEq] at he; subst he; simp [D.no, C.no, C.nos] at hr
  | global _ => cases he

/-- The classes of operations. -/
inductive Cl where
  | F | L | X | S | N
  deriving DecidableEq

def isIntT (P : Program) (t : TypeId) : Bool := match tk P t with | some (.int _) => true | _ => false

def cl (P : Program) (Φ : Fs) : Op → Cl
  | .move _ => .F
  | .assign _ => .F
  | .pick .. => .F
  | .nilCheck _ => .F
  | .binOp .. => .F
  | .unOp .. => .F
  | .fieldAddr .. => .F
  | .field .. => .F
  | .indexAddr .. => .F
  | .index .. => .F
  | .slice .. => .F
  | .extract .. => .F
  | .build .. => .F
  | .convert _ t _ => if isIntT P t then .F else .N
  | .load .. => .L
  | .store .. => .S
  | .alloc _ => .X
  | .box .. => .X
  | .buildSlice .. => .X
  | .makeSlice .. => .X
  | .call c => match c.callee with
    | .builtin .len => .F
    | .builtin .max => .F
    | .builtin .min => .F
    | .value (.func k) => if (Φ.pure k).isSome && (Φ.objs k).isNone then .X else .N
    | _ => .N
  | _ => .N

/-- What an operation does: what it gives, what the roots are then. -/
def act (P : Program) (Φ : Fs) (A : St) : Op → Option (D × List (Option Root))
  | .store t x v => match A.ev x, (A.ev v).bind D.cells with
    | some d, some cells => if tsz P t = cells.length ∧ tsz P t ≠ 0 then (storeA A.H cells d).map fun H => (.top, H) else none
    | _, _ => none
  | .alloc t => (tz P t).bind (boxA A.H)
  | .box _ x => ((A.ev x).bind D.cells).bind (boxA A.H)
  | .build t parts => (buildA P A.ev A.H t parts.toList).map fun d => (d, A.H)
  | .buildSlice t len parts => buildSliceA P A.ev A.H t len parts.toList
  | .makeSlice t l c => match (A.ev l).bind D.int, (A.ev c).bind D.int with
    | some l, some c => makeA P A.H t l c
    | _, _ => none
  | .call c => match c.callee with
    | .value _ => callP Φ A.ev (evsA A) A.H c
    | _ => (qbuiltin P A.ev A.H c).map fun d => (d, A.H)
  | .convert s t x => ((A.ev x).bind (qconv P s t)).map fun d => (d, A.H)
  | op => (qev P A.ev A.H op).map fun d => (d, A.H)

theorem with_same (A : St) (dst : Option Tmp) (d : D) : A.with dst (d, A.H) = A.put dst d := rfl

theorem map_map {α β γ : Type} (o : Option α) (f : α → β) (g : β → γ) : (o.map f).map g = o.map (fun x => g (f x)) := by cases o <;> rfl

theorem intT_of {t : TypeId} (h : isIntT P t = true) : ∃ k, tk P t = some (.int k) := by
  unfold isIntT at h
  split at h
  · exact ⟨_, by assumption⟩
  · cases h

theorem stepf_act {A : St} {op : Op} (hc : cl P Φ op ≠ .N) (dst : Option Tmp) : stepf P Φ A dst op = (act P Φ A op).map (A.with dst) := by
  unfold cl at hc
  split at hc <;> try (first | exact absurd rfl hc | (simp only [stepf, stepx, act, map_map, with_same]; done) | (simp only [stepf, stepx, act, map_map]; rfl))
  · -- convert
    rename_i s t x
    split at hc
    · rename_i ht
      obtain ⟨k, hk⟩ := intT_of ht
      simp only [stepf, stepx, act, map_map]
      cases hx : A.ev x with
      | none => rfl
      | some d =>
        simp only [Option.bind_some]
        cases hq : qconv P s t d with
        | some d' => rfl
        | none =>
          have h1 : bytesStr P A.H s t d = none := by unfold bytesStr; rw [hk]
          have h2 : strBytes P A.H s t d = none := by unfold strBytes; rw [hk]
          simp [h1, h2]
    · exact absurd rfl hc
  · rename_i t x v
    simp only [stepf, stepx, act]
    cases A.ev x with
    | none => rfl
    | some d =>
      cases (A.ev v).bind D.cells with
      | none => rfl
      | some cells =>
        simp only
        by_cases h : tsz P t = cells.length ∧ tsz P t ≠ 0
        · rw [if_pos h, if_pos h, map_map]; rfl
        · rw [if_neg h, if_neg h]; rfl
  · rename_i t l c
    simp only [stepf, stepx, act]
    cases (A.ev l).bind D.int with
    | none => rfl
    | some n => cases (A.ev c).bind D.int <;> rfl
  · rename_i c
    split at hc
    · rename_i h; simp only [stepf, stepx, act, h, map_map]; rfl
    · rename_i h; simp only [stepf, stepx, act, h, map_map]; rfl
    · rename_i h; simp only [stepf, stepx, act, h, map_map]; rfl
    · rename_i k h
      split at hc
      · rename_i hk
        rw [Bool.and_eq_true, Option.isNone_iff_eq_none] at hk
        simp only [stepf, act, h]
        cases hp : callP Φ A.ev (evsA A) A.H c with
        | some r => rfl
        | none =>
          have : callO Φ A.ev (evsA A) A.H c = none := by
            unfold callO
            rw [h]
            simp only [St.ev, hk.2]
          simp [this]
      · exact absurd rfl hc
    · exact absurd rfl hc

end
end Go.Dl
