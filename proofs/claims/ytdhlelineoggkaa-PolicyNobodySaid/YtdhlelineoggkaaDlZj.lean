/- 'Dl', part Zj: regions in which an operation may leave one of several; maps that are made. -/
import Derived.Test.YtdhlelineoggkaaDlZi
namespace Go.Dl
open Go.RowKit

section
variable {P : Program} {Φ : Fs}

/-- One operation of a region, and all that it may leave. -/
def GStep (P : Program) (ops : Array Oper) (o : Oper) (A : St) (R : St → Prop) : Prop :=
  ∀ (i : Nat), ops[i]? = some o → ∀ g a w, Sat g A a w → ∀ (Q : Exit → Act → World → Prop) (K : Act → World → Prop), (∀ A' a' w', R A' → Sat g A' a' w' → K a' w') → wpOp P ops Q i K a w

def RunR (P : Program) (ops : Array Oper) : List Oper → St → (St → Prop) → Prop
  | [], A, K => K A
  | o :: os, A, K => GStep P ops o A (fun A' => RunR P ops os A' K)

theorem rr_nil {ops : Array Oper} {A : St} {K : St → Prop} (h : K A) : RunR P ops [] A K := h

theorem rr_det (hΦ : FsOK P Φ) {ops : Array Oper} {o : Oper} {os : List Oper} {A A1 : St} {K : St → Prop} (hop : o.op.operands.toList.all opdOK = true) (h : xstep P Φ ops o A = some A1) (hk : RunR P ops os A1 K) :
    RunR P ops (o :: os) A K := by
  intro i hi g a w hs Q K' hK
  exact xstep_wp hΦ hi hop h hs fun a' w' hs' => hK A1 a' w' hk hs'

theorem rr_step {ops : Array Oper} {o : Oper} {os : List Oper} {A : St} {R K : St → Prop} (hg : o.guard = none) (h : Step P o A R) (hk : ∀ A', R A' → RunR P ops os A' K) : RunR P ops (o :: os) A K := by
  intro i hi g a w hs Q K' hK
  unfold wpOp
  simp only [hi, Region.wanted, hg, if_true]
  exact .inl (h g a w hs _ _ fun A1 a' w' hR hs' => hK A1 a' w' (hk A1 hR) hs')

theorem runR_ops {ops : Array Oper} {g : G} {Q : Exit → Act → World → Prop} {K : St → Prop} (hQ : ∀ A' a' w', K A' → Sat g A' a' w' → Q .normal a' w') :
    ∀ (n i : Nat) (A : St) (a : Act) (w : World), i + n = ops.size → RunR P ops (ops.toList.drop i) A K → Sat g A a w → wpOps P ops Q (List.range' i n) a w := by
  intro n
  induction n with
  | zero =>
    intro i A a w hn h hs
    rw [List.drop_eq_nil_of_le (by simp; omega)] at h
    exact hQ A a w h hs
  | succ n ih =>
    intro i A a w hn h hs
    have hi : i < ops.toList.length := by simp; omega
    rw [List.drop_eq_getElem_cons hi] at h
    have ho : ops[i]? = some ops.toList[i] := by simp
    rw [List.range'_succ, wpOps_cons]
    exact h i ho g a w hs _ _ fun A1 a' w' h1 hs' => ih (i + 1) A1 a' w' (by omega) h1 hs'

theorem tri_runR {id : Nat} {l : List Oper} {A : St} {Q : Exit → St → Prop} (h : RunR P l.toArray l A (fun A' => Q .normal A')) : Tri P (.region id l.toArray false) A Q := by
  intro g a w hs
  refine wp_region ?_
  rw [List.range_eq_range']
  exact runR_ops (K := fun A' => Q .normal A') (fun A' a' w' hk hs' => ⟨A', hs', hk⟩) l.toArray.size 0 A a w (by omega) (by simpa using h) hs

theorem seq_runR {id : Nat} {l : List Oper} {y : Code} {A : St} {Q : Exit → St → Prop} (h : RunR P l.toArray l A (fun A' => Tri P y A' Q)) : Tri P (.seq (.region id l.toArray false) y) A Q :=
  tri_seq (tri_runR h)

/-- An operation that gives one scalar, of which something is said. -/
theorem step_gen {o : Oper} {A : St} {T : Value → Prop} (hop : o.op.operands.toList.all opdOK = true)
    (hrun : ∀ (e : Operand → Value) (w : World) (S : Nat → Prop) (E : Env), (∀ x ∈ o.op.operands.toList, ∀ d, A.ev x = some d → RepD w S E d (e x)) → (∀ v, e (.const v) = v) → (∀ k, e (.func k) = .func (.func k) #[] #[]) →
      ∃ v w', (execOp e o).run P w = .ok (.value v) w' ∧ (w' = w ∨ w' = { w with drawn := w.drawn + 1 }) ∧ Sc v ∧ T v) :
    Step P o A (fun A' => ∃ v, T v ∧ Sc v ∧ A' = A.put o.dst (.c (.v v))) := by
  intro g a w ⟨S, E, F, hr⟩ next Q hn
  obtain ⟨v, w', h1, h2, h3, h4⟩ := hrun a.eval w S E (fun x hx d hd => ev_rep hr (List.all_eq_true.1 hop x hx) hd) (fun _ => rfl) (fun _ => rfl)
  unfold Oper.wp
  rw [h1]
  rcases h2 with rfl | rfl
  · exact hn _ _ _ ⟨v, h4, h3, rfl⟩ ⟨S, E, F, hr.put (.c (.v h3))⟩
  · exact hn _ _ _ ⟨v, h4, h3, rfl⟩ ⟨S, E, F, (hr.drawn _ (Nat.le_succ _)).put (.c (.v h3))⟩

theorem sc_of {w : World} {S : Nat → Prop} {E : Env} {x v : Value} (h : RepD w S E (.c (.v x)) v) : v = x := by
  cases h with
  | c h => cases h; rfl

theorem eqIn_slice {w : World} {t e : TypeId} {d : Nat} (hu : P.underlying t = some (.slice e)) (a : Option Addr) (l c : Nat) : (Op.equalIn (d + 1) t (.slice a l c) (.slice none 0 0)).run P w = .ok a.isNone w := by
  cases a <;> simp [Op.equalIn, run_und hu]

/-- Whether a slice is nil, of which only the elements are known. -/
theorem nil_eq {w : World} {S : Nat → Prop} {E : Env} {t e : TypeId} {n : Nat} {rows : List (List C)} {v : Value} (hk : tk P t = some (.slice e)) (h : RepD w S E (.c (.s false n rows)) v) :
    ∃ b, (binOp .eql t v (.slice none 0 0)).run P w = .ok (.bool b) w ∧ (b = true → rows = []) := by
  have hu : P.underlying t = some (.slice e) := by
    obtain ⟨d, h1, h2⟩ := tk_some hk
    cases d <;> simp [TK.of] at h2
    subst h2; exact h1
  have run : ∀ (a : Option Addr) (l c : Nat), (binOp .eql t (.slice a l c) (.slice none 0 0)).run P w = .ok (.bool a.isNone) w := by
    intro a l c
    refine run_binOp_eql (by simp [plainEq]) ?_
    rw [equal_succ]
    exact eqIn_slice hu a l c
  cases h with
  | c h => cases h with
    | nilI => exact ⟨_, run _ _ _, fun _ => rfl⟩
    | imm _ _ _ _ => exact ⟨_, run _ _ _, fun h => by cases h⟩

theorem step_nil {o : Oper} {A : St} {t e yt : TypeId} {x : Operand} {n : Nat} {rows : List (List C)} (ho : o.op = .binOp .eql t x (.const (.slice none 0 0)) yt) (hop : o.op.operands.toList.all opdOK = true)
    (hk : tk P t = some (.slice e)) (hx : A.ev x = some (.c (.s false n rows))) : Step P o A (fun A' => ∃ b : Bool, (b = true → rows = []) ∧ A' = A.put o.dst (.c (.v (.bool b)))) := by
  intro g a w hs next Q hn
  refine step_gen (T := fun v => ∃ b : Bool, v = .bool b ∧ (b = true → rows = [])) hop ?_ g a w hs next Q fun A' a' w' h => ?_
  · intro e' w S E he hc _
    have hv := he x (by simp [ho, Op.operands]) _ hx
    obtain ⟨b, h1, h2⟩ := nil_eq hk hv
    refine ⟨.bool b, w, ?_, .inl rfl, trivial, b, rfl, h2⟩
    have hg : (eqGuard .eql t x (.const (.slice none 0 0)) (e' x) (.slice none 0 0)).run P w = .ok () w := run_eqGuard (by simp) (by simp)
    simp only [execOp, ho, hc, Sem.run_bind, hg, h1, Result.andThen_ok, Sem.run_pure]
  · obtain ⟨v, ⟨b, rfl, h2⟩, _, rfl⟩ := h
    exact hn _ _ _ ⟨b, h2, rfl⟩

/-- A call of which not all is said; its result is one scalar. -/
theorem step_callV {o : Oper} {c : Call} {A : St} {T : Value → Prop} {k : FuncId} {caps : List C} {f : Operand} {ds ds' : List D} {B : List Nat} {spec : Spec}
    (ho : o.op = .call c) (hop : o.op.operands.toList.all opdOK = true) (hc : c.callee = .value f) (hf : A.ev f = some (.c (.f k caps))) (hk : callable P k = true) (hds : evsA A c.args.toList = some ds)
    (harg : argDs A.H [] (ds ++ caps.map .c) = some (ds', B)) (hm : Meets P k spec) (hs : spec ds' [] (fun d os => os = [] ∧ ∃ v, T v ∧ d = .c (.v v))) :
    Step P o A (fun A' => ∃ v, T v ∧ A' = A.put o.dst (.c (.v v))) := by
  refine step_call ho hop hc hf hk hds harg .nil (objs := []) rfl hm hs ?_
  rintro _ _ ⟨rfl, v, hv, rfl⟩ _
  exact ⟨.inr ⟨rfl, by simp⟩, v, hv, rfl⟩

/-- A map that is made. -/
theorem step_map {o : Oper} {A : St} {t : TypeId} (ho : o.op = .makeMap t none) : Step P o A (fun A' => A' = A.put o.dst (.c .m)) := by
  intro g a w ⟨S, E, F, hr⟩ next Q hn
  have h1 : (execOp a.eval o).run P w = .ok (.value (.map (some w.heap.size))) { w with heap := w.heap.push (.map #[] 0) } := by
    simp only [execOp, ho, Option.map_none, Instr.makeMap, newObj]
    simp [Sem.run_bind, Sem.run_pure, Sem.run, Result.andThen]
  unfold Oper.wp
  rw [h1]
  have hlt : ∀ b, b < w.heap.size → (w.heap.push (.map #[] 0))[b]? = w.heap[b]? := fun b hb => by
    rw [Array.getElem?_push, if_neg (by omega)]
  have hr' : Rel g S E F A a { w with heap := w.heap.push (.map #[] 0) } := by
    refine hr.world (fun b hb => hlt b ?_) (fun b hb _ => hlt b (Nat.lt_of_lt_of_le hb hr.size)) (by simp) rfl rfl (.rf _)
    rcases hb with h | h
    · exact (hr.Ssz b h).1
    · exact (hr.fsz b h).1
  exact hn _ _ _ rfl ⟨S, E, F, hr'.put (.c .m)⟩


theorem rr_gen {ops : Array Oper} {o : Oper} {os : List Oper} {A : St} {K : St → Prop} {T : Value → Prop} (hg : o.guard = none) (hop : o.op.operands.toList.all opdOK = true)
    (hrun : ∀ (e : Operand → Value) (w : World) (S : Nat → Prop) (E : Env), (∀ x ∈ o.op.operands.toList, ∀ d, A.ev x = some d → RepD w S E d (e x)) → (∀ v, e (.const v) = v) → (∀ k, e (.func k) = .func (.func k) #[] #[]) →
      ∃ v w', (execOp e o).run P w = .ok (.value v) w' ∧ (w' = w ∨ w' = { w with drawn := w.drawn + 1 }) ∧ Sc v ∧ T v)
    (hk : ∀ v, T v → RunR P ops os (A.put o.dst (.c (.v v))) K) : RunR P ops (o :: os) A K :=
  rr_step hg (step_gen hop hrun) (by rintro _ ⟨v, h1, _, rfl⟩; exact hk v h1)

theorem rr_isnil {ops : Array Oper} {o : Oper} {os : List Oper} {A : St} {K : St → Prop} {t e yt : TypeId} {x : Operand} {n : Nat} {rows : List (List C)} (hg : o.guard = none) (ho : o.op = .binOp .eql t x (.const (.slice none 0 0)) yt)
    (hop : o.op.operands.toList.all opdOK = true) (hk : tk P t = some (.slice e)) (hx : A.ev x = some (.c (.s false n rows))) (h : ∀ b : Bool, (b = true → rows = []) → RunR P ops os (A.put o.dst (.c (.v (.bool b)))) K) : RunR P ops (o :: os) A K :=
  rr_step hg (step_nil ho hop hk hx) (by rintro _ ⟨b, h1, rfl⟩; exact h b h1)

theorem rr_callV {ops : Array Oper} {o : Oper} {os : List Oper} {A : St} {K : St → Prop} {c : Call} {T : Value → Prop} {k : FuncId} {caps : List C} {f : Operand} {ds ds' : List D} {B : List Nat} {spec : Spec}
    (hg : o.guard = none) (ho : o.op = .call c) (hop : o.op.operands.toList.all opdOK = true) (hc : c.callee = .value f) (hf : A.ev f = some (.c (.f k caps))) (hk : callable P k = true) (hds : evsA A c.args.toList = some ds)
    (harg : argDs A.H [] (ds ++ caps.map .c) = some (ds', B)) (hm : Meets P k spec) (hs : spec ds' [] (fun d os => os = [] ∧ ∃ v, T v ∧ d = .c (.v v)))
    (h : ∀ v, T v → RunR P ops os (A.put o.dst (.c (.v v))) K) : RunR P ops (o :: os) A K :=
  rr_step hg (step_callV ho hop hc hf hk hds harg hm hs) (by rintro _ ⟨v, h1, rfl⟩; exact h v h1)

theorem rr_map {ops : Array Oper} {o : Oper} {os : List Oper} {A : St} {K : St → Prop} {t : TypeId} (hg : o.guard = none) (ho : o.op = .makeMap t none) (h : RunR P ops os (A.put o.dst (.c .m)) K) : RunR P ops (o :: os) A K :=
  rr_step hg (step_map ho) (by rintro _ rfl; exact h)

/-- A contract at one input. -/
noncomputable def one (a : List D) (o : List Obj) (r : D × List Obj) : List D → List Obj → Option (D × List Obj) := by
  classical exact fun args objs => if args = a ∧ objs = o then some r else none
noncomputable def oneP (a : List D) (r : D) : List D → Option D := by
  classical exact fun args => if args = a then some r else none

theorem one_eq (a : List D) (o : List Obj) (r : D × List Obj) : one a o r a o = some r := by unfold one; rw [if_pos ⟨rfl, rfl⟩]
theorem oneP_eq (a : List D) (r : D) : oneP a r a = some r := by unfold oneP; rw [if_pos rfl]
theorem one_inv {a : List D} {o : List Obj} {r z : D × List Obj} {args : List D} {objs : List Obj} (h : one a o r args objs = some z) : args = a ∧ objs = o ∧ z = r := by
  unfold one at h
  split at h
  · rename_i hc; cases h; exact ⟨hc.1, hc.2, rfl⟩
  · cases h
theorem oneP_inv {a : List D} {r z : D} {args : List D} (h : oneP a r args = some z) : args = a ∧ z = r := by
  unfold oneP at h
  split at h
  · rename_i hc; cases h; exact ⟨hc, rfl⟩
  · cases h

/-- The first of several contracts that speaks. -/
def orP (f g : List D → Option D) (args : List D) : Option D := match f args with
  | some d => some d
  | none => g args

theorem meets_or {k : FuncId} {f g : List D → Option D} (h1 : Meets P k (pureS f)) (h2 : Meets P k (pureS g)) : Meets P k (pureS (orP f g)) := by
  intro args objs Q hs
  obtain ⟨rfl, d, hd, hQ⟩ := hs
  unfold orP at hd
  split at hd
  · rename_i d' hf
    cases hd
    exact h1 args [] Q ⟨rfl, _, hf, hQ⟩
  · exact h2 args [] Q ⟨rfl, d, hd, hQ⟩


end
end Go.Dl
