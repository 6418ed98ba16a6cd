/- 'Dl', part E: quiet operations are what the function says. -/
import Derived.Test.YtdhlelineoggkaaDlD
namespace Go.Dl
open Go.RowKit

section
variable {P : Program} {g : G} {S : Nat → Prop} {E : Env} {F : List (List Nat)} {A : St} {a : Act} {w : World}

theorem vs_get {w : World} {S : Nat → Prop} {E : Env} : ∀ {xs : List C} {vs : List Value} {fp : List Nat}, Rep w S E (.vs xs vs) fp → xs.length = vs.length ∧
    ∀ (i : Nat) (c : C), xs[i]? = some c → ∃ v f, vs[i]? = some v ∧ Rep w S E (.k false c v) f ∧ ∀ x ∈ f, x ∈ fp := by
  intro xs
  induction xs with
  | nil => intro vs fp h; cases h; exact ⟨rfl, fun i c h => by simp at h⟩
  | cons y xs ih =>
    intro vs fp h
    cases h with
    | vcons hc hr =>
      obtain ⟨h1, h2⟩ := ih hr
      refine ⟨by simp [h1], fun i c h => ?_⟩
      cases i with
      | zero => simp at h; subst h; exact ⟨_, _, rfl, hc, fun x hx => List.mem_append_left _ hx⟩
      | succ i =>
        obtain ⟨v, f, e1, e2, e3⟩ := h2 i c (by simpa using h)
        exact ⟨v, f, by simpa using e1, e2, fun x hx => List.mem_append_right _ (e3 x hx)⟩

theorem vs_drop {w : World} {S : Nat → Prop} {E : Env} : ∀ (n : Nat) {xs : List C} {vs : List Value}, Rep w S E (.vs xs vs) [] → Rep w S E (.vs (xs.drop n) (vs.drop n)) [] := by
  intro n
  induction n with
  | zero => intro xs vs h; simpa using h
  | succ n ih =>
    intro xs vs h
    generalize hfp : ([] : List Nat) = fp at h
    cases h with
    | vnil => simpa using (Rep.vnil (w := w) (S := S) (E := E))
    | vcons hc hr =>
      obtain ⟨rfl, rfl⟩ := List.append_eq_nil_iff.1 hfp.symm
      simpa using ih hr

theorem vs_take {w : World} {S : Nat → Prop} {E : Env} : ∀ (n : Nat) {xs : List C} {vs : List Value}, Rep w S E (.vs xs vs) [] → Rep w S E (.vs (xs.take n) (vs.take n)) [] := by
  intro n
  induction n with
  | zero => intro xs vs _; simpa using (Rep.vnil (w := w) (S := S) (E := E))
  | succ n ih =>
    intro xs vs h
    generalize hfp : ([] : List Nat) = fp at h
    cases h with
    | vnil => simpa using (Rep.vnil (w := w) (S := S) (E := E))
    | vcons hc hr =>
      obtain ⟨rfl, rfl⟩ := List.append_eq_nil_iff.1 hfp.symm
      simpa using (Rep.vcons hc (ih hr))

theorem live_root (hr : Rel g S E F A a w) {r : Nat} (h : liveR A.H r = true) : ∃ R p f, A.H[r]? = some (some R) ∧ E[r]? = some (some p) ∧ F[r]? = some f ∧ RootAt w S E R p f := by
  unfold liveR at h
  split at h
  · rename_i R hR
    obtain ⟨p, f, h1, h2, h3⟩ := hr.root r R hR
    exact ⟨R, p, f, hR, h1, h2, h3⟩
  · cases h

theorem ptr_live (hr : Rel g S E F A a w) {r e c : Nat} {v : Value} (hl : liveR A.H r = true) (hd : RepD w S E (.c (.p r e c)) v) :
    ∃ R p f b off, A.H[r]? = some (some R) ∧ E[r]? = some (some p) ∧ F[r]? = some f ∧ RootAt w S E R p f ∧ p.at? = some (b, off) ∧ v = .pointer (some ⟨b, off + e * p.es + c, none⟩) := by
  obtain ⟨R, p, f, h1, h2, h3, h4⟩ := live_root hr hl
  cases hd with
  | c h => cases h with
    | p _ hh =>
      obtain ⟨b, off, e1, e2⟩ := hh p h2
      exact ⟨R, p, f, b, off, h1, h2, h3, h4, e1, e2⟩

theorem cellsAt_rep (hr : Rel g S E F A a w) {d : D} {v : Value} {xs : List C} (hd : RepD w S E d v) (h : cellsAt A.H d = some xs) :
    ∃ b off dat fp, v = .pointer (some ⟨b, off, none⟩) ∧ Rep w S E (.l dat xs b off) fp := by
  unfold cellsAt at h
  split at h
  · rename_i r e c
    split at h
    · rename_i R hR
      obtain ⟨R', p, f, b, off, h1, h2, h3, h4, h5, h6⟩ := ptr_live hr (by simp [liveR, hR]) hd
      rw [hR] at h1
      obtain rfl : R = R' := by simpa using h1
      cases hrow : R.rows[e]? with
      | none => rw [hrow] at h; simp at h
      | some row =>
        rw [hrow] at h
        obtain rfl : row.drop c = xs := by simpa using h
        obtain ⟨g1, g2, g3, g4, g5⟩ := h4
        rw [h5] at g5
        obtain ⟨fr, _, _, hrep⟩ := g5
        obtain ⟨ys, zs, e1, e2, _⟩ := flatten_split g4 e row hrow
        rw [e1] at hrep
        obtain ⟨f1, f2, _, _, hb2⟩ := hrep.append
        obtain ⟨f3, f4, _, hb3, _⟩ := hb2.append
        refine ⟨b, off + e * p.es + c, R.dat, ?_⟩
        by_cases hc : c ≤ row.length
        · rw [← List.take_append_drop c row] at hb3
          obtain ⟨f5, f6, _, _, hb5⟩ := hb3.append
          rw [e2, List.length_take, Nat.min_eq_left hc, ← g1] at hb5
          exact ⟨f6, h6, hb5⟩
        · rw [List.drop_eq_nil_of_le (by omega)]
          exact ⟨[], h6, .lnil⟩
    · cases h
  · cases h
    cases hd with
    | q hS h => exact ⟨_, _, true, [], rfl, h⟩
  · cases h

theorem rep_cpy {w : World} {S : Nat → Prop} {E : Env} {dat : Bool} {c : C} {v : Value} {fp : List Nat} (h : Rep w S E (.k dat c v) fp) : ∃ fp', Rep w S E (.k dat c.cpy v) fp' := by
  unfold C.cpy
  split
  · split
    · cases h with
      | nilO => exact ⟨_, .nilI⟩
      | own _ _ _ _ _ => exact ⟨_, .nilI⟩
    · exact ⟨_, h⟩
  · exact ⟨_, h⟩

theorem rep_cpys {w : World} {S : Nat → Prop} {E : Env} {dat : Bool} {b : Nat} : ∀ {cs : List C} {off : Nat} {fp : List Nat}, Rep w S E (.l dat cs b off) fp → ∃ fp', Rep w S E (.l dat (cs.map C.cpy) b off) fp'
  | [], off, fp, h => ⟨_, .lnil⟩
  | c :: cs, off, fp, h => by
    cases h with
    | lcons hv hc hr =>
      obtain ⟨f1, k1⟩ := rep_cpy hc
      obtain ⟨f2, k2⟩ := rep_cpys hr
      exact ⟨_, .lcons hv k1 k2⟩

theorem qload_sound (hr : Rel g S E F A a w) {t : TypeId} {d d' : D} {v : Value} (hd : RepD w S E d v) (h : qload P A.H t d = some d') :
    ∃ v', (Instr.loadAt t v).run P w = .ok v' w ∧ RepD w S E d' v' := by
  unfold qload at h
  cases hxs : cellsAt A.H d with
  | none => rw [hxs] at h; cases h
  | some xs =>
    rw [hxs] at h
    simp only [Option.bind_some] at h
    obtain ⟨b, off, dat, fp, rfl, hrep⟩ := cellsAt_rep hr hd hxs
    unfold qmk at h
    split at h
    · cases h
    · rename_i k hk
      simp only [Instr.loadAt, Instr.sureAddr, loadVar, Sem.run_bind, Sem.run_pure, Result.andThen_ok, run_agg hk]
      split at h
      · rename_i hagg
        split at h
        · rename_i hc
          obtain ⟨hc1, hc2⟩ := hc
          cases h
          rw [← List.take_append_drop (tsz P t) xs] at hrep
          obtain ⟨f1, f2, _, hr1, _⟩ := hrep.append
          obtain ⟨_, hr1⟩ := rep_cpys hr1
          rw [← List.length_map (f := C.cpy)] at hc1
          obtain ⟨vs, e1, e2, e3⟩ := hr1.load hc2
          rw [if_pos hagg]
          refine ⟨.agg vs.toArray, ?_, .agg (by simpa using e3)⟩
          simp only [Sem.run_bind, run_tsz hk, Result.andThen_ok]
          rw [← hc1, ← e1, run_loadCells_list w _ vs]
          · rfl
          · intro j v hj
            have := e2 j v hj
            unfold Addr.add
            split
            · rename_i h0; subst h0; simpa using this
            · exact this
        · cases h
      · rename_i hagg
        rw [if_neg hagg]
        split at h
        · rename_i c cs
          split at h
          · rename_i hcp
            cases h
            cases hrep with
            | lcons hv hc _ =>
              obtain ⟨_, hc⟩ := rep_cpy hc
              have := cp_fp hc hcp
              subst this
              exact ⟨_, by simp [hv], .c hc.undat⟩
          · cases h
        · cases h

theorem qnil_sound (hr : Rel g S E F A a w) {d d' : D} {v : Value} {o : Oper} {x : Operand} (hx : a.eval x = v) (ho : o.op = .nilCheck x) (hd : RepD w S E d v) (h : qnil A.H d = some d') :
    (execOp a.eval o).run P w = .ok (.value v) w ∧ RepD w S E d' v := by
  unfold qnil at h
  split at h
  · split at h
    · rename_i hl
      cases h
      obtain ⟨R, p, f, b, off, h1, h2, h3, h4, h5, rfl⟩ := ptr_live hr hl hd
      exact ⟨by simp [execOp, ho, hx], hd⟩
    · cases h
  · cases h
    refine ⟨?_, hd⟩
    cases hd with
    | c h => cases h with
      | f _ _ => simp [execOp, ho, hx]
  · cases h
    refine ⟨?_, hd⟩
    cases hd with
    | q _ _ => simp [execOp, ho, hx]
  · cases h

theorem addr_add (b off n : Nat) : (⟨b, off, none⟩ : Addr).add n = ⟨b, off + n, none⟩ := by
  unfold Addr.add; split
  · rename_i h; subst h; simp
  · rfl

theorem run_fieldPlace {b off : Nat} {f : Field} (h : tsz P f.type ≠ 0) : (fieldPlace ⟨b, off, none⟩ f).run P w = .ok ⟨b, off + f.offset, none⟩ w := by
  unfold fieldPlace
  simp only [Sem.run_bind, run_tsz' h, Result.andThen_ok, Sem.run_ite, if_neg h, Sem.run_pure, addr_add]

theorem st_field {t i ty off : Nat} {l : List (TypeId × Nat)} (hk : tk P t = some (.st l)) (hi : l[i]? = some (ty, off)) :
    ∃ fs f, P.underlying t = some (.struct fs) ∧ fs[i]? = some f ∧ f.type = ty ∧ f.offset = off := by
  obtain ⟨d, hu, hd⟩ := tk_some hk
  cases d <;> simp [TK.of] at hd
  rename_i fs
  subst hd
  simp only [List.getElem?_map, Array.getElem?_toList, Option.map_eq_some_iff] at hi
  obtain ⟨f, h1, h2⟩ := hi
  simp only [Prod.mk.injEq] at h2
  exact ⟨fs, f, hu, h1, h2.1, h2.2⟩

theorem qfieldAddr_sound (hr : Rel g S E F A a w) {t i : Nat} {d d' : D} {v : Value} (hd : RepD w S E d v) (h : qfieldAddr P A.H t i d = some d') :
    ∃ v', (Instr.fieldAt t v i).run P w = .ok v' w ∧ RepD w S E d' v' := by
  unfold qfieldAddr at h
  split at h
  · rename_i l hk
    split at h
    · rename_i ty off hi
      obtain ⟨fs, f, hu, hf, rfl, rfl⟩ := st_field hk hi
      split at h
      · cases h
      · rename_i hz
        split at h
        · rename_i r e c
          split at h
          · rename_i hl
            cases h
            obtain ⟨R, p, fq, b, off, h1, h2, h3, h4, h5, rfl⟩ := ptr_live hr hl hd
            refine ⟨.pointer (some ⟨b, off + e * p.es + c + f.offset, none⟩), ?_, .c (.p ?_ ?_)⟩
            · simp [Instr.fieldAt, run_und hu, hf, Instr.sureAddr, run_fieldPlace hz]
            · rcases Nat.lt_or_ge r E.length with h | h
              · exact h
              · rw [List.getElem?_eq_none h] at h2; cases h2
            · intro pl hpl
              rw [h2] at hpl
              cases hpl
              exact ⟨b, off, h5, by simp [Nat.add_assoc]⟩
          · cases h
        · cases h
          rename_i xs
          cases hd with
          | q hS hrep =>
            rename_i b off
            refine ⟨.pointer (some ⟨b, off + f.offset, none⟩), ?_, .q hS ?_⟩
            · simp [Instr.fieldAt, run_und hu, hf, Instr.sureAddr, run_fieldPlace hz]
            · by_cases hc : f.offset ≤ xs.length
              · rw [← List.take_append_drop f.offset xs] at hrep
                obtain ⟨f1, f2, hff, _, hr2⟩ := hrep.append
                obtain ⟨rfl, rfl⟩ := List.append_eq_nil_iff.1 hff.symm
                rw [List.length_take, Nat.min_eq_left hc] at hr2
                exact hr2
              · rw [List.drop_eq_nil_of_le (by omega)]; exact .lnil
        · cases h
    · cases h
  · cases h

theorem agg_inv {xs : List C} {v : Value} (hd : RepD w S E (.agg xs) v) : ∃ arr : Array Value, v = .agg arr ∧ Rep w S E (.vs xs arr.toList) [] := by
  cases hd with
  | agg h => exact ⟨_, rfl, h⟩

theorem qpart_sound {t off : Nat} {xs : List C} {arr : Array Value} {d' : D} (hrep : Rep w S E (.vs xs arr.toList) []) (h : qpart P t off xs = some d') :
    ∃ v', (part t arr off).run P w = .ok v' w ∧ RepD w S E d' v' := by
  unfold qpart at h
  split at h
  · cases h
  · rename_i k hk
    simp only [part, Sem.run_bind, run_agg hk, Result.andThen_ok, Sem.run_ite]
    split at h
    · rename_i hagg
      split at h
      · cases h
      · cases h
        rw [if_pos hagg]
        refine ⟨.agg (arr.extract off (off + tsz P t)), by simp only [run_tsz hk, Result.andThen_ok, Sem.run_pure], .agg ?_⟩
        have := vs_take (tsz P t) (vs_drop off hrep)
        rw [Array.toList_extract, List.extract_eq_take_drop, Nat.add_sub_cancel_left]
        exact this
    · rename_i hagg
      rw [if_neg hagg]
      cases hx : xs[off]? with
      | none => rw [hx] at h; cases h
      | some c =>
        rw [hx] at h
        cases h
        obtain ⟨_, h2⟩ := vs_get hrep
        obtain ⟨v, f, e1, e2, e3⟩ := h2 off c hx
        have : f = [] := List.eq_nil_iff_forall_not_mem.2 fun x hx => by cases e3 x hx
        subst this
        rw [Array.getElem?_toList] at e1
        exact ⟨v, by simp [e1], .c e2⟩

theorem qfield_sound {t i : Nat} {d d' : D} {v : Value} (hd : RepD w S E d v) (h : qfield P t i d = some d') :
    ∃ v', (Instr.field t v i).run P w = .ok v' w ∧ RepD w S E d' v' := by
  unfold qfield at h
  split at h
  · rename_i l hk
    split at h
    · rename_i ty off hi
      obtain ⟨fs, f, hu, hf, rfl, rfl⟩ := st_field hk hi
      split at h
      · obtain ⟨arr, rfl, hrep⟩ := agg_inv hd
        obtain ⟨v', h1, h2⟩ := qpart_sound hrep h
        exact ⟨v', by simp [Instr.field, run_und hu, hf, asAgg, h1], h2⟩
      · cases h
    · cases h
  · cases h

theorem int_inv {d : D} {v : Value} {n : Int} (hd : RepD w S E d v) (h : d.int = some n) : ∃ k, v = .int k n ∧ inR k n = true := by
  unfold D.int at h
  split at h
  · cases h
    cases hd with
    | c h => cases h with
      | v h => exact ⟨_, rfl, h⟩
  · cases h

end
end Go.Dl
