/- 'Dl', part Za: what an operation leaves; when two may change places. -/
import Derived.Test.YtdhlelineoggkaaDlZ
namespace Go.Dl
open Go.RowKit

section
variable {P : Program} {Φ : Fs}

theorem settleC_ext (H : List (Option Root)) (c : C) : ∃ l, (settleC H c).2 = H ++ l := by
  unfold settleC
  split
  · exact ⟨_, rfl⟩
  · exact ⟨_, rfl⟩
  · exact ⟨[], by simp⟩

theorem settleCs_ext : ∀ (cs : List C) (H : List (Option Root)), ∃ l, (settleCs H cs).2 = H ++ l
  | [], H => ⟨[], by simp [settleCs]⟩
  | c :: cs, H => by
    obtain ⟨l1, h1⟩ := settleC_ext H c
    obtain ⟨l2, h2⟩ := settleCs_ext cs (settleC H c).2
    exact ⟨l1 ++ l2, by simp only [settleCs]; rw [h2, h1, List.append_assoc]⟩

theorem settle1_ext (H : List (Option Root)) (d : D) : ∃ l, (settle1 H d).2 = H ++ l := by
  unfold settle1
  split
  · exact settleC_ext H _
  · exact settleCs_ext _ H
  · exact ⟨[], by simp⟩

theorem settleDs_ext : ∀ (ds : List D) (H : List (Option Root)), ∃ l, (settleDs H ds).2 = H ++ l
  | [], H => ⟨[], by simp [settleDs]⟩
  | d :: ds, H => by
    obtain ⟨l1, h1⟩ := settle1_ext H d
    obtain ⟨l2, h2⟩ := settleDs_ext ds (settle1 H d).2
    exact ⟨l1 ++ l2, by simp only [settleDs]; rw [h2, h1, List.append_assoc]⟩

theorem settle_ext (H : List (Option Root)) (d : D) : ∃ l, (settle H d).2 = H ++ l := by
  unfold settle
  split
  · exact settleDs_ext _ H
  · exact settle1_ext H d

theorem boxA_ext {H H' : List (Option Root)} {cs : List C} {d : D} (h : boxA H cs = some (d, H')) : ∃ l, H' = H ++ l := by
  unfold boxA at h
  split at h
  · cases h; exact ⟨_, rfl⟩
  · cases h

theorem callP_ext {ρ : Operand → Option D} {evs : List Operand → Option (List D)} {H H' : List (Option Root)} {c : Call} {d : D} (h : callP Φ ρ evs H c = some (d, H')) : ∃ l, H' = H ++ l := by
  unfold callP at h
  split at h <;> try cases h
  split at h <;> try cases h
  split at h <;> try cases h
  split at h <;> try cases h
  split at h <;> try cases h
  split at h
  · simp only [Option.some.injEq] at h
    obtain ⟨l, hl⟩ := settle_ext H _
    exact ⟨l, by rw [← hl, h]⟩
  · cases h

/-- Those that only add roots. -/
theorem act_X {A : St} {op : Op} (hc : cl P Φ op = .X) {d : D} {H' : List (Option Root)} (h : act P Φ A op = some (d, H')) : ∃ l, H' = A.H ++ l := by
  unfold cl at hc
  split at hc <;> try (first | cases hc | skip)
  · split at hc <;> cases hc
  · simp only [act, Option.bind_eq_some_iff] at h
    obtain ⟨z, _, h⟩ := h
    exact boxA_ext h
  · simp only [act, Option.bind_eq_some_iff] at h
    obtain ⟨z, _, h⟩ := h
    exact boxA_ext h
  · simp only [act, buildSliceA] at h
    split at h <;> try cases h
    split at h <;> try cases h
    split at h <;> try cases h
    split at h <;> try cases h
    split at h <;> try cases h
    exact ⟨_, rfl⟩
  · simp only [act] at h
    split at h <;> try cases h
    unfold makeA at h
    split at h <;> try cases h
    split at h <;> try cases h
    split at h <;> try cases h
    exact ⟨_, rfl⟩
  · rename_i c
    split at hc <;> try cases hc
    rename_i k hk
    simp only [act, hk] at h
    exact callP_ext h

theorem act_Q {A : St} {op : Op} (hc : cl P Φ op = .F ∨ cl P Φ op = .L) {d : D} {H' : List (Option Root)} (h : act P Φ A op = some (d, H')) : H' = A.H := by
  rcases hc with hc | hc
  · obtain ⟨o, h1, _⟩ := act_F (A' := A) hc (fun _ _ => rfl) (fun _ _ _ _ _ _ => rfl)
    rw [h1] at h
    cases o <;> simp at h
    exact h.2.symm
  · obtain ⟨o, h1, _⟩ := act_L (A' := A) hc (fun _ _ => rfl) (fun _ _ _ _ _ _ => rfl)
    rw [h1] at h
    cases o <;> simp at h
    exact h.2.symm

theorem act_S {A : St} {op : Op} (hc : cl P Φ op = .S) {d : D} {H' : List (Option Root)} (h : act P Φ A op = some (d, H')) (r : Nat) : shp A.H[r]? = shp H'[r]? := by
  unfold cl at hc
  split at hc <;> try (first | cases hc | skip)
  · split at hc <;> cases hc
  · simp only [act] at h
    split at h <;> try cases h
    split at h <;> try cases h
    rename_i d' cells _ _ _
    cases hs : storeA A.H cells d' with
    | none => rw [hs] at h; cases h
    | some H1 =>
      rw [hs] at h; cases h
      unfold storeA at hs
      split at hs <;> try cases hs
      rename_i r' e c
      split at hs <;> try cases hs
      rename_i R hR
      split at hs <;> try cases hs
      split at hs <;> try cases hs
      rw [List.getElem?_set]
      split
      · rename_i e; subst e
        rw [if_pos (lt_len hR), hR]; rfl
      · rfl
  · split at hc <;> try cases hc
    split at hc <;> cases hc

theorem evsA_congr {A A' : St} : ∀ {xs : List Operand}, (∀ x ∈ xs, A.ev x = A'.ev x) → evsA A xs = evsA A' xs
  | [], _ => rfl
  | x :: xs, h => by
    simp only [evsA]
    rw [h x (List.mem_cons_self ..), evsA_congr fun y hy => h y (List.mem_cons_of_mem _ hy)]

/-- The same operands, the same roots: the same. -/
theorem act_congr {A A' : St} {op : Op} (hc : cl P Φ op ≠ .N) (hev : ∀ x ∈ op.operands.toList, A.ev x = A'.ev x) (hH : A.H = A'.H) : act P Φ A op = act P Φ A' op := by
  by_cases hF : cl P Φ op = .F
  · obtain ⟨o, h1, h2⟩ := act_F hF hev (fun x hx d hd r hr => by rw [hH])
    rw [h1, h2, hH]
  by_cases hL : cl P Φ op = .L
  · obtain ⟨o, h1, h2⟩ := act_L hL hev (fun x hx d hd r hr => by rw [hH])
    rw [h1, h2, hH]
  unfold cl at hc hF hL
  split at hc <;> try (first | exact absurd rfl hF | exact absurd rfl hL | exact absurd rfl hc | skip)
  · split at hc
    · rename_i h; simp [h] at hF
    · exact absurd rfl hc
  · rename_i t x v
    simp only [Op.operands] at hev
    simp only [act, hev x (by simp), hev v (by simp), hH]
  · simp only [act, hH]
  · rename_i x
    simp only [Op.operands] at hev
    simp only [act, hev x (by simp), hH]
  · rename_i t n ps
    simp only [Op.operands] at hev
    simp only [act, buildSliceA, hH]
    rw [partsA_alike (ρ := A.ev) (ρ' := A'.ev) (H := A'.H) (H' := A'.H) fun x hx => ⟨hev x (by simpa using hx), fun _ _ _ _ => rfl⟩]
  · rename_i t l c
    simp only [Op.operands] at hev
    simp only [act, hev l (by simp), hev c (by simp), hH]
  · rename_i c
    split at hc
    · rename_i h; simp [h] at hF
    · rename_i h; simp [h] at hF
    · rename_i h; simp [h] at hF
    · rename_i k hk
      simp only [Op.operands] at hev
      simp only [act, hk, callP, hH]
      rw [evsA_congr fun x hx => hev x (by simp [Call.operands, hx])]
      rfl
    · exact absurd rfl hc

theorem boolAt (x : Option D) : (∃ b, x = some (.c (.v (.bool b)))) ∨ ∀ b, x ≠ some (.c (.v (.bool b))) := by
  by_cases h : ∃ b, x = some (.c (.v (.bool b)))
  · exact .inl h
  · exact .inr fun b e => h ⟨b, e⟩

theorem boolAt_none {α : Type} {x : Option D} (h : ∀ b, x ≠ some (.c (.v (.bool b)))) {f : Bool → Option α} :
    (match x with | some (.c (.v (.bool b))) => f b | _ => none) = none := by
  split
  · rename_i b; exact absurd rfl (h b)
  · rfl

/-- With its guard. -/
def gact (P : Program) (Φ : Fs) (ops : Array Oper) (o : Oper) (A : St) : Option (D × List (Option Root)) :=
  match o.guard with
  | none => act P Φ A o.op
  | some (j, want) => match (ops[j]?).bind (·.dst) with
    | some t => match A.sl[t]? with
      | some (.c (.v (.bool b))) => if b = want then act P Φ A o.op else some (.t [], A.H)
      | some (.t []) => some (.t [], A.H)
      | _ => none
    | none => none

theorem xstep_gact {ops : Array Oper} {o : Oper} (hc : cl P Φ o.op ≠ .N) (A : St) : xstep P Φ ops o A = (gact P Φ ops o A).map (A.with o.dst) := by
  unfold xstep gact
  cases o.guard with
  | none => exact stepf_act hc _
  | some jw =>
    obtain ⟨j, want⟩ := jw
    simp only
    cases (ops[j]?).bind (·.dst) with
    | none => rfl
    | some t =>
      simp only
      rcases boolAt A.sl[t]? with ⟨b, h⟩ | h
      · rw [h]
        simp only
        by_cases hb : b = want
        · rw [if_pos hb, if_pos hb]; exact stepf_act hc _
        · rw [if_neg hb, if_neg hb]; rfl
      · generalize A.sl[t]? = s at h ⊢
        cases s with
        | none => rfl
        | some d => cases d with
          | c y => cases y with
            | v x => cases x with
              | bool b => exact absurd rfl (h b)
              | _ => rfl
            | _ => rfl
          | t ds => cases ds <;> rfl
          | _ => rfl

/-- Two states that agree on what an operation looks at. -/
def AgreeAt (ops : Array Oper) (o : Oper) (A A' : St) : Prop := ∀ t ∈ o.looksAt ops, A.sl[t]? = A'.sl[t]?

theorem AgreeAt.ev {ops : Array Oper} {o : Oper} {A A' : St} (h : AgreeAt ops o A A') : ∀ x ∈ o.op.operands.toList, A.ev x = A'.ev x := by
  intro x hx
  cases x with
  | tmp t => exact h t (List.mem_append_left _ (List.mem_filterMap.2 ⟨.tmp t, hx, rfl⟩))
  | _ => rfl

theorem AgreeAt.guard {ops : Array Oper} {o : Oper} {A A' : St} (h : AgreeAt ops o A A') {j : Nat} {want : Bool} {t : Tmp} (hg : o.guard = some (j, want)) (ht : (ops[j]?).bind (·.dst) = some t) : A.sl[t]? = A'.sl[t]? :=
  h t (List.mem_append_right _ (by rw [hg]; simp [ht]))

theorem gact_congr {ops : Array Oper} {o : Oper} {A A' : St} (hc : cl P Φ o.op ≠ .N) (h : AgreeAt ops o A A') (hH : A.H = A'.H) : gact P Φ ops o A = gact P Φ ops o A' := by
  unfold gact
  split
  · exact act_congr hc h.ev hH
  · rename_i j want hg
    split
    · rename_i t ht
      rw [h.guard hg ht, act_congr hc h.ev hH, hH]
    · rfl

/-- A quiet one in two states: the same comes. -/
theorem gact_quiet {ops : Array Oper} {o : Oper} {A A' : St} (hq : cl P Φ o.op = .F ∨ cl P Φ o.op = .L) (h : AgreeAt ops o A A')
    (hF : cl P Φ o.op = .F → ∀ x ∈ o.op.operands.toList, ∀ d, A.ev x = some d → Alike A.H A'.H d)
    (hL : cl P Φ o.op = .L → ∀ x ∈ o.op.operands.toList, ∀ d, A.ev x = some d → ∀ r, d.no r = false → A.H[r]? = A'.H[r]?) :
    ∃ x : Option D, gact P Φ ops o A = x.map (fun d => (d, A.H)) ∧ gact P Φ ops o A' = x.map (fun d => (d, A'.H)) := by
  have hact : ∃ x : Option D, act P Φ A o.op = x.map (fun d => (d, A.H)) ∧ act P Φ A' o.op = x.map (fun d => (d, A'.H)) := by
    rcases hq with hq | hq
    · exact act_F hq h.ev (hF hq)
    · exact act_L hq h.ev (hL hq)
  obtain ⟨x, h1, h2⟩ := hact
  unfold gact
  split
  · exact ⟨x, h1, h2⟩
  · rename_i j want hg
    split
    · rename_i t ht
      rw [← h.guard hg ht]
      split
      · split
        · exact ⟨x, h1, h2⟩
        · exact ⟨some (.t []), rfl, rfl⟩
      · exact ⟨some (.t []), rfl, rfl⟩
      · exact ⟨none, rfl, rfl⟩
    · exact ⟨none, rfl, rfl⟩

/-- Two operations may change places, where the second may come first. -/
def Swap (P : Program) (Φ : Fs) (ops : Array Oper) (x y : Oper) : Prop :=
  ∀ (g : G) (A A1 A2 : St), Ok g A → xstep P Φ ops x A = some A1 → xstep P Φ ops y A1 = some A2 → ∃ B, xstep P Φ ops y A = some B ∧ xstep P Φ ops x B = some A2

def okCl : Cl → Cl → Bool
  | .F, .F => true
  | .F, .L => true
  | .L, .F => true
  | .L, .L => true
  | .F, .S => true
  | .F, .X => true
  | .L, .X => true
  | .X, .F => true
  | .X, .L => true
  | _, _ => false

theorem with_sl {A : St} {dst : Option Tmp} {r : D × List (Option Root)} {t : Tmp} (h : dst ≠ some t) : (A.with dst r).sl[t]? = A.sl[t]? := by
  unfold St.with St.put
  cases dst with
  | none => rfl
  | some d =>
    have : d ≠ t := fun e => h (by rw [e])
    simp [List.getElem?_set_ne this]

theorem with_H {A : St} {dst : Option Tmp} {r : D × List (Option Root)} : (A.with dst r).H = r.2 := by
  unfold St.with St.put
  cases dst <;> rfl

theorem with_comm {A : St} {x y : Option Tmp} {d e : D} {H1 H2 H3 : List (Option Root)} (h : ∀ t, x = some t → y ≠ some t) : (A.with x (d, H1)).with y (e, H3) = (A.with y (e, H2)).with x (d, H3) := by
  unfold St.with St.put
  cases x with
  | none => cases y <;> rfl
  | some t => cases y with
    | none => rfl
    | some s =>
      have : t ≠ s := fun e => h t rfl (by rw [e])
      simp only [St.mk.injEq, and_true]
      exact List.set_comm _ _ this

theorem agree_with {ops : Array Oper} {o : Oper} {A : St} {dst : Option Tmp} {r : D × List (Option Root)} (h : ∀ t, dst = some t → t ∉ o.looksAt ops) : AgreeAt ops o A (A.with dst r) :=
  fun t ht => (with_sl fun e => h t e ht).symm

theorem swap_ok {ops : Array Oper} {x y : Oper} (hcl : okCl (cl P Φ x.op) (cl P Φ y.op) = true) (hap : x.apart ops y = true) : Swap P Φ ops x y := by
  intro g A A1 A2 hA hx hy
  obtain ⟨p1, p2, p3⟩ := Oper.apart_spec hap
  have hxN : cl P Φ x.op ≠ .N := fun e => by rw [e] at hcl; cases hcl
  have hyN : cl P Φ y.op ≠ .N := fun e => by rw [e] at hcl; cases h : cl P Φ x.op <;> rw [h] at hcl <;> cases hcl
  rw [xstep_gact hxN] at hx
  rw [xstep_gact hyN] at hy
  cases hgx : gact P Φ ops x A with
  | none => rw [hgx] at hx; cases hx
  | some rx =>
    rw [hgx] at hx; cases hx
    cases hgy : gact P Φ ops y (A.with x.dst rx) with
    | none => rw [hgy] at hy; cases hy
    | some ry =>
      rw [hgy] at hy; cases hy
      obtain ⟨d, H1⟩ := rx
      obtain ⟨e, H2⟩ := ry
      by_cases hqx : cl P Φ x.op = .F ∨ cl P Φ x.op = .L
      · -- x is quiet
        have hH1 : H1 = A.H := by
          obtain ⟨o, h1, _⟩ := gact_quiet (A := A) (A' := A) (ops := ops) hqx (fun _ _ => rfl) (fun _ _ _ _ _ _ _ => rfl) (fun _ _ _ _ _ _ _ => rfl)
          rw [h1] at hgx
          cases o <;> simp at hgx
          exact hgx.2.symm
        subst hH1
        have hy0 : gact P Φ ops y A = some (e, H2) := by
          rw [gact_congr hyN (A' := A.with x.dst (d, A.H)) (agree_with p1) (with_H (r := (d, A.H))).symm]; exact hgy
        refine ⟨A.with y.dst (e, H2), by rw [xstep_gact hyN, hy0]; rfl, ?_⟩
        have hx1 : gact P Φ ops x (A.with y.dst (e, H2)) = some (d, H2) := by
          have agr : AgreeAt ops x A (A.with y.dst (e, H2)) := agree_with p3
          -- what y left
          have hleft : (cl P Φ y.op = .S ∧ ∀ r : Nat, shp A.H[r]? = shp H2[r]?) ∨ ∃ l, H2 = A.H ++ l := by
            unfold gact at hy0
            split at hy0
            · cases hcy : cl P Φ y.op with
              | F => exact .inr ⟨[], by rw [act_Q (.inl hcy) hy0]; simp⟩
              | L => exact .inr ⟨[], by rw [act_Q (.inr hcy) hy0]; simp⟩
              | X => exact .inr (act_X hcy hy0)
              | S => exact .inl ⟨rfl, act_S hcy hy0⟩
              | N => exact absurd hcy hyN
            · split at hy0 <;> try cases hy0
              split at hy0 <;> try cases hy0
              · split at hy0
                · cases hcy : cl P Φ y.op with
                  | F => exact .inr ⟨[], by rw [act_Q (.inl hcy) hy0]; simp⟩
                  | L => exact .inr ⟨[], by rw [act_Q (.inr hcy) hy0]; simp⟩
                  | X => exact .inr (act_X hcy hy0)
                  | S => exact .inl ⟨rfl, act_S hcy hy0⟩
                  | N => exact absurd hcy hyN
                · cases hy0; exact .inr ⟨[], by simp⟩
              · exact .inr ⟨[], by simp⟩
          obtain ⟨o, h1, h2⟩ := gact_quiet (A := A) (A' := A.with y.dst (e, H2)) (ops := ops) hqx agr
            (fun hF z hz dz hdz r hr => by
              rw [with_H]
              rcases hleft with ⟨_, h⟩ | ⟨l, rfl⟩
              · exact h r
              · have := hA.ev_in hdz r hr
                show _ = shp (A.H ++ l)[r]?
                rw [List.getElem?_append_left this])
            (fun hL z hz dz hdz r hr => by
              rw [with_H]
              rcases hleft with ⟨hS, h⟩ | ⟨l, rfl⟩
              · rw [hL, hS] at hcl; cases hcl
              · have := hA.ev_in hdz r hr
                show _ = (A.H ++ l)[r]?
                rw [List.getElem?_append_left this])
          rw [h1] at hgx
          rw [h2, with_H]
          cases o <;> simp at hgx
          rw [hgx]; rfl
        rw [xstep_gact hxN, hx1]
        simp only [Option.map_some]
        rw [with_comm (H2 := H2) p2]
      · -- x adds, y is quiet
        have hxX : cl P Φ x.op = .X ∧ (cl P Φ y.op = .F ∨ cl P Φ y.op = .L) := by
          cases hcx : cl P Φ x.op <;> cases hcy : cl P Φ y.op <;> simp_all [okCl]
        obtain ⟨hxX, hqy⟩ := hxX
        have hleft : ∃ l, H1 = A.H ++ l := by
          unfold gact at hgx
          split at hgx
          · exact act_X hxX hgx
          · split at hgx <;> try cases hgx
            split at hgx <;> try cases hgx
            · split at hgx
              · exact act_X hxX hgx
              · cases hgx; exact ⟨[], by simp⟩
            · exact ⟨[], by simp⟩
        obtain ⟨l, rfl⟩ := hleft
        have same : ∀ r, r < A.H.length → A.H[r]? = (A.H ++ l)[r]? := fun r hr => (List.getElem?_append_left hr).symm
        obtain ⟨o, h1, h2⟩ := gact_quiet (A := A) (A' := A.with x.dst (d, A.H ++ l)) (ops := ops) hqy (agree_with p1)
          (fun hF z hz dz hdz r hr => by rw [with_H]; exact congrArg shp (same r (hA.ev_in hdz r hr)))
          (fun hL z hz dz hdz r hr => by rw [with_H]; exact same r (hA.ev_in hdz r hr))
        rw [h2, with_H] at hgy
        cases o with
        | none => cases hgy
        | some e' =>
          cases hgy
          refine ⟨A.with y.dst (e, A.H), by rw [xstep_gact hyN, h1]; rfl, ?_⟩
          have : gact P Φ ops x (A.with y.dst (e, A.H)) = some (d, A.H ++ l) := by
            rw [← gact_congr hxN (A := A) (agree_with p3) (with_H (r := (e, A.H))).symm]; exact hgx
          rw [xstep_gact hxN, this]
          simp only [Option.map_some]
          rw [with_comm (H2 := A.H) p2]

end
end Go.Dl
