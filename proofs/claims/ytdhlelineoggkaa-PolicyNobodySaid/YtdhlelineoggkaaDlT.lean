/- 'Dl', part T: a call by its contract. -/
import Derived.Test.YtdhlelineoggkaaDlS
namespace Go.Dl
open Go.RowKit

/-- An argument's cell, as the callee sees it; what is lent. -/
def argC (H : List (Option Root)) (ρ : List Nat) : C → Option (C × List Nat)
  | .p r e c => match ρ.idxOf? r with
    | some i => some (.p i e c, [])
    | none => none
  | .h r lo len => match ρ.idxOf? r with
    | some i => some (.h i lo len, [])
    | none => match H[r]? with
      | some (some R) => if R.dat = true ∧ lo + len ≤ R.rows.length ∧ (((R.rows.drop lo).take len).all fun row => row.all C.cp) = true then some (.s false R.es ((R.rows.drop lo).take len), [r]) else none
      | _ => none
  | .f k caps => if caps.isEmpty then some (.f k caps, []) else none
  | c => if c.dat && c.cpy.cp then some (c.cpy, []) else none

def argCs (H : List (Option Root)) (ρ : List Nat) : List C → Option (List C × List Nat)
  | [] => some ([], [])
  | c :: cs => match argC H ρ c, argCs H ρ cs with
    | some (c', l1), some (cs', l2) => some (c' :: cs', l1 ++ l2)
    | _, _ => none

def argD (H : List (Option Root)) (ρ : List Nat) : D → Option (D × List Nat)
  | .top => some (.top, [])
  | .c y => (argC H ρ y).map fun r => (.c r.1, r.2)
  | .agg xs => (argCs H ρ xs).map fun r => (.agg r.1, r.2)
  | _ => none

def argDs (H : List (Option Root)) (ρ : List Nat) : List D → Option (List D × List Nat)
  | [] => some ([], [])
  | d :: ds => match argD H ρ d, argDs H ρ ds with
    | some (d', l1), some (ds', l2) => some (d' :: ds', l1 ++ l2)
    | _, _ => none

/-- The objects that are handed on. -/
def objsAt (H : List (Option Root)) : List Nat → Option (List Obj)
  | [] => some []
  | r :: rs => match (H[r]?).bind objOf, objsAt H rs with
    | some o, some os => some (o :: os)
    | _, _ => none

def setObjs (H : List (Option Root)) : List Nat → List Obj → List (Option Root)
  | r :: rs, o :: os => match H[r]? with
    | some (some R) => setObjs (H.set r (some ⟨R.dat, R.es, o.rows⟩)) rs os
    | _ => setObjs H rs os
  | _, _ => H

mutual
/-- No memory that was there is spoken of. -/
def C.ni : C → Bool
  | .s false _ (_ :: _) => false
  | .s true _ rows => C.niRows rows
  | .f _ caps => caps.isEmpty
  | .o row => C.niRow row
  | _ => true
def C.niRow : List C → Bool
  | [] => true
  | c :: cs => C.ni c && C.niRow cs
def C.niRows : List (List C) → Bool
  | [] => true
  | r :: rs => C.niRow r && C.niRows rs
end

def D.ni1 : D → Bool
  | .c y => y.ni
  | .agg xs => C.niRow xs
  | _ => true
def D.ni : D → Bool
  | .t ds => ds.all D.ni1
  | d => d.ni1

def settleC (H : List (Option Root)) : C → C × List (Option Root)
  | .s true es rows => (.h H.length 0 rows.length, H ++ [some ⟨true, es, rows⟩])
  | .o row => (.p H.length 0 0, H ++ [some ⟨false, row.length, [row]⟩])
  | c => (c, H)
def settleCs (H : List (Option Root)) : List C → List C × List (Option Root)
  | [] => ([], H)
  | c :: cs => let r := settleC H c; let q := settleCs r.2 cs; (r.1 :: q.1, q.2)
def settle1 (H : List (Option Root)) : D → D × List (Option Root)
  | .c y => let r := settleC H y; (.c r.1, r.2)
  | .agg xs => let r := settleCs H xs; (.agg r.1, r.2)
  | _ => (.top, H)
def settleDs (H : List (Option Root)) : List D → List D × List (Option Root)
  | [] => ([], H)
  | d :: ds => let r := settle1 H d; let q := settleDs r.2 ds; (r.1 :: q.1, q.2)
def settle (H : List (Option Root)) : D → D × List (Option Root)
  | .t ds => let r := settleDs H ds; (.t r.1, r.2)
  | d => settle1 H d

section
variable {P : Program} {g : G} {S : Nat → Prop} {E : Env} {F : List (List Nat)} {A : St} {a : Act} {w : World}

theorem Rep.ni {w : World} {S S' : Nat → Prop} {E : Env} {it : It} {fp : List Nat} (h : Rep w S E it fp) (hn : match it with | .k _ c _ => c.ni = true | .l _ cs _ _ => C.niRow cs = true | .vs cs _ => C.niRow cs = true) : Rep w S' E it fp := by
  induction h with
  | v h => exact .v h
  | nilI => exact .nilI
  | nilO => exact .nilO
  | imm hS hc hl hr ih =>
    rename_i dat es rows b off cap
    cases rows with
    | nil => exact .nilI
    | cons r rows => simp [C.ni] at hn
  | own hz hb hc hl hr ih =>
    rename_i dat es rows b off cap fp
    refine .own hz hb hc hl (ih ?_)
    have key : ∀ rows : List (List C), C.niRows rows = true → C.niRow rows.flatten = true := by
      intro rows
      have app : ∀ (xs ys : List C), C.niRow xs = true → C.niRow ys = true → C.niRow (xs ++ ys) = true := by
        intro xs ys
        induction xs with
        | nil => intro _ h; exact h
        | cons y xs ih =>
          intro h1 h2
          simp only [C.niRow, Bool.and_eq_true, List.cons_append] at *
          exact ⟨h1.1, ih h1.2 h2⟩
      induction rows with
      | nil => intro _; rfl
      | cons r rows ih =>
        intro h
        simp only [C.niRows, Bool.and_eq_true] at h
        exact app _ _ h.1 (ih h.2)
    exact key rows (by simpa [C.ni] using hn)
  | optr hb hr ih => exact .optr hb (ih (by simpa [C.ni] using hn))
  | x => exact .x
  | m => exact .m
  | h hr hh => exact .h hr hh
  | p hr hh => exact .p hr hh
  | f hc hr ih =>
    rename_i dat k caps cs
    refine .f hc (ih ?_)
    have : caps = [] := by simpa [C.ni] using hn
    subst this; rfl
  | lnil => exact .lnil
  | lcons hv hc hr ih1 ih2 =>
    simp only [C.niRow, Bool.and_eq_true] at hn
    exact .lcons hv (ih1 hn.1) (ih2 hn.2)
  | vnil => exact .vnil
  | vcons hc hr ih1 ih2 =>
    simp only [C.niRow, Bool.and_eq_true] at hn
    exact .vcons (ih1 hn.1) (ih2 hn.2)

/-- One more root, of blocks that are there already. -/
theorem Rel.addRoot (hr : Rel g S E F A a w) {R : Root} {p : Pl} {f : List Nat} (hR : RootAt w S [] R p f) (hf : f.Nodup) (hn : ∀ b ∈ f, b ∉ F.flatten ∧ ¬ S b ∧ b < w.heap.size ∧ (b ∈ g.own ∨ g.w0.heap.size ≤ b)) :
    Rel g S (E ++ [some p]) (F ++ [f]) { A with H := A.H ++ [some R] } a w := by
  refine { len := hr.len, sl := ?_, defers := hr.defers, lE := by simp [hr.lE], lF := by simp [hr.lF], root := ?_, dead := ?_, nodup := ?_, fS := ?_, fsz := ?_, Ssz := hr.Ssz, S0 := hr.S0, prot := hr.prot, size := hr.size, os := hr.os, tape := hr.tape, output := hr.output, fix := ?_ }
  · intro t d h
    exact (hr.sl t d h).mono (fun _ h => h) (envLe_append _ _ _) (fun _ _ => rfl)
  · intro r R' h
    by_cases hlt : r < A.H.length
    · rw [List.getElem?_append_left hlt] at h
      obtain ⟨p, f, h1, h2, h3⟩ := hr.root r R' h
      refine ⟨p, f, ?_, ?_, h3.mono (fun _ h => h) (envLe_append _ _ _) (fun _ _ => rfl)⟩
      · rw [List.getElem?_append_left (lt_len h1)]; exact h1
      · rw [List.getElem?_append_left (lt_len h2)]; exact h2
    · have hreq : r = A.H.length := by
        have := lt_len h
        simp at this; omega
      subst hreq
      rw [List.getElem?_append_right (Nat.le_refl _)] at h
      simp at h
      subst h
      refine ⟨p, f, by rw [List.getElem?_append_right (by rw [hr.lE]; exact Nat.le_refl _), hr.lE]; simp, by rw [List.getElem?_append_right (by rw [hr.lF]; exact Nat.le_refl _), hr.lF]; simp, ?_⟩
      refine hR.mono (fun _ h => h) ⟨by simp, fun i hi => by simp at hi⟩ (fun _ _ => rfl)
  · intro r h
    by_cases hlt : r < A.H.length
    · rw [List.getElem?_append_left hlt] at h
      obtain ⟨h1, h2⟩ := hr.dead r h
      exact ⟨by rw [List.getElem?_append_left (lt_len h1)]; exact h1, by rw [List.getElem?_append_left (lt_len h2)]; exact h2⟩
    · have hreq : r = A.H.length := by
        have := lt_len h
        simp at this; omega
      subst hreq
      rw [List.getElem?_append_right (Nat.le_refl _)] at h
      simp at h
  · rw [List.flatten_append, List.nodup_append]
    refine ⟨hr.nodup, by simpa using hf, ?_⟩
    intro x hx y hy hxy
    subst hxy
    simp at hy
    exact (hn x hy).1 hx
  · intro b hb
    rw [List.flatten_append, List.mem_append] at hb
    rcases hb with h | h
    · exact hr.fS b h
    · exact (hn b (by simpa using h)).2.1
  · intro b hb
    rw [List.flatten_append, List.mem_append] at hb
    rcases hb with h | h
    · exact hr.fsz b h
    · exact (hn b (by simpa using h)).2.2
  · intro r q hq
    obtain ⟨h1, h2⟩ := hr.fix r q hq
    refine ⟨by simp; omega, fun R' hR' => ?_⟩
    rw [List.getElem?_append_left h1] at hR'
    obtain ⟨k1, k2⟩ := h2 R' hR'
    refine ⟨k1, fun p hp => k2 p ?_⟩
    rwa [List.getElem?_append_left (by rw [hr.lE]; exact h1)] at hp

/-- Blocks that nobody has yet. -/
def New (g : G) (S : Nat → Prop) (F : List (List Nat)) (w : World) (fp : List Nat) : Prop := fp.Nodup ∧ ∀ b ∈ fp, b ∉ F.flatten ∧ ¬ S b ∧ b < w.heap.size ∧ (b ∈ g.own ∨ g.w0.heap.size ≤ b)

theorem New.app {fp1 fp2 : List Nat} (h : New g S F w (fp1 ++ fp2)) : New g S F w fp1 ∧ New g S (F ++ [fp1]) w fp2 ∧ New g S F w fp2 := by
  obtain ⟨h1, h2⟩ := h
  have n := List.nodup_append.1 h1
  refine ⟨⟨n.1, fun b hb => h2 b (List.mem_append_left _ hb)⟩, ⟨n.2.1, fun b hb => ?_⟩, ⟨n.2.1, fun b hb => h2 b (List.mem_append_right _ hb)⟩⟩
  obtain ⟨k1, k2⟩ := h2 b (List.mem_append_right _ hb)
  refine ⟨fun hh => ?_, k2⟩
  rw [List.flatten_append, List.mem_append] at hh
  rcases hh with h | h
  · exact k1 h
  · exact n.2.2 b (by simpa using h) b hb rfl

/-- What a settled piece leaves. -/
def Set1 (g : G) (S : Nat → Prop) (E : Env) (F : List (List Nat)) (A : St) (a : Act) (w : World) (fp : List Nat) (H' : List (Option Root)) (T : Env → Prop) : Prop :=
  ∃ E' F', Rel g S E' F' { A with H := H' } a w ∧ T E' ∧ EnvLe E E' (fun _ => false) ∧ ∀ b, b ∈ F'.flatten → b ∈ F.flatten ∨ b ∈ fp

theorem settleC_sound (hr : Rel g S E F A a w) {c : C} {v : Value} {fp : List Nat} (h : Rep w S [] (.k false c v) fp) (hn : New g S F w fp) :
    Set1 g S E F A a w fp (settleC A.H c).2 (fun E' => Rep w S E' (.k false (settleC A.H c).1 v) []) := by
  unfold settleC
  split
  · rename_i es rows
    cases h with
    | nilO =>
      rename_i ad
      have := hr.addRoot (R := ⟨true, es, []⟩) (p := ⟨none, es, 0, 0⟩) (f := []) ⟨rfl, rfl, Nat.le_refl _, by simp, rfl, rfl, rfl⟩ (by simp) (by simp)
      refine ⟨_, _, this, .h ?_ ?_, envLe_append _ _ _, fun b hb => .inl (by simpa using hb)⟩
      · have := this.lE; rw [this]; simp
      · intro pl hpl
        rw [← hr.lE, List.getElem?_append_right (Nat.le_refl _)] at hpl
        simp at hpl
        subst hpl
        exact ⟨by simp, ad, by simp⟩
    | own hz hb hc hl hrep =>
      rename_i b off cap fr
      have := hr.addRoot (R := ⟨true, es, rows⟩) (p := ⟨some (b, off), es, rows.length, cap⟩) (f := b :: fr) ⟨rfl, rfl, hc, hl, fr, rfl, hb, hrep⟩ hn.1 hn.2
      refine ⟨_, _, this, .h ?_ ?_, envLe_append _ _ _, fun x hx => ?_⟩
      · have := this.lE; rw [this]; simp
      · intro pl hpl
        rw [← hr.lE, List.getElem?_append_right (Nat.le_refl _)] at hpl
        simp at hpl
        subst hpl
        exact ⟨by simp, _, cap, rfl, hc, by simp, .inr (by simp)⟩
      · rw [List.flatten_append, List.mem_append] at hx
        exact hx.imp id (by simp)
  · rename_i row
    cases h with
    | optr hb hrep =>
      rename_i b off fr
      have := hr.addRoot (R := ⟨false, row.length, [row]⟩) (p := ⟨some (b, off), row.length, 1, 1⟩) (f := b :: fr) ⟨rfl, rfl, Nat.le_refl _, by simp, fr, rfl, by simpa using hb, by simpa using hrep.lundat⟩ hn.1 hn.2
      refine ⟨_, _, this, .p ?_ ?_, envLe_append _ _ _, fun x hx => ?_⟩
      · have := this.lE; rw [this]; simp
      · intro pl hpl
        rw [← hr.lE, List.getElem?_append_right (Nat.le_refl _)] at hpl
        simp at hpl
        subst hpl
        exact ⟨b, off, rfl, by simp⟩
      · rw [List.flatten_append, List.mem_append] at hx
        exact hx.imp id (by simp)
  · rename_i hne hno
    have hcp : c.cp = true := by
      unfold C.cp
      split
      · rename_i es rows; exact absurd rfl (hne es rows)
      · rename_i row; exact absurd rfl (hno row)
      · rfl
    have := cp_fp h hcp
    subst this
    refine ⟨E, F, hr, ?_, .refl _ _, fun b hb => .inl hb⟩
    exact h.mono (fun _ h => h) ⟨by simp, fun i hi => by simp at hi⟩ (fun _ _ => rfl)

theorem envLe_trans {E1 E2 E3 : Env} (h : EnvLe E1 E2 (fun _ => false)) (k : EnvLe E2 E3 (fun _ => false)) : EnvLe E1 E3 (fun _ => false) := by
  refine ⟨Nat.le_trans h.1 k.1, fun r hr _ q hq => ?_⟩
  obtain ⟨p, h1, h2⟩ := k.2 r (Nat.lt_of_lt_of_le hr h.1) rfl q hq
  obtain ⟨p', h3, h4⟩ := h.2 r hr rfl p h1
  exact ⟨p', h3, h4.trans h2⟩

theorem New.shrink {fp : List Nat} {F' : List (List Nat)} {fp1 : List Nat} (h : New g S F w (fp1 ++ fp)) (hF : ∀ b, b ∈ F'.flatten → b ∈ F.flatten ∨ b ∈ fp1) : New g S F' w fp := by
  obtain ⟨h1, h2⟩ := h
  have n := List.nodup_append.1 h1
  refine ⟨n.2.1, fun b hb => ?_⟩
  obtain ⟨k1, k2⟩ := h2 b (List.mem_append_right _ hb)
  refine ⟨fun hh => ?_, k2⟩
  rcases hF b hh with h | h
  · exact k1 h
  · exact n.2.2 b h b hb rfl

theorem settleCs_sound : ∀ {cs : List C} {vs : List Value} {fp : List Nat} {A : St} {E : Env} {F : List (List Nat)}, Rel g S E F A a w → Rep w S [] (.vs cs vs) fp → New g S F w fp →
    Set1 g S E F A a w fp (settleCs A.H cs).2 (fun E' => Rep w S E' (.vs (settleCs A.H cs).1 vs) [])
  | [], vs, fp, A, E, F, hr, h, hn => by
    cases h
    exact ⟨E, F, hr, .vnil, .refl _ _, fun b hb => .inl hb⟩
  | c :: cs, vs, fp, A, E, F, hr, h, hn => by
    cases h with
    | vcons h1 h2 =>
      obtain ⟨E1, F1, r1, r2, r3, r4⟩ := settleC_sound hr h1 hn.app.1
      obtain ⟨E2, F2, q1, q2, q3, q4⟩ := settleCs_sound r1 h2 (hn.shrink r4)
      refine ⟨E2, F2, q1, .vcons (f1 := []) (f2 := []) ?_ q2, envLe_trans r3 q3, ?_⟩
      · exact r2.mono (fun _ h => h) ⟨q3.1, fun i hi _ q hq => q3.2 i hi rfl q hq⟩ (fun _ _ => rfl)
      · intro b hb
        rcases q4 b hb with h | h
        · exact (r4 b h).imp id (List.mem_append_left _)
        · exact .inr (List.mem_append_right _ h)

theorem settle1_sound (hr : Rel g S E F A a w) {d : D} {v : Value} {fp : List Nat} (h : RepO1 w S d v fp) (hn : New g S F w fp) :
    Set1 g S E F A a w fp (settle1 A.H d).2 (fun E' => RepD w S E' (settle1 A.H d).1 v) := by
  cases d with
  | c y =>
    obtain ⟨E1, F1, r1, r2, r3, r4⟩ := settleC_sound hr h hn
    exact ⟨E1, F1, r1, .c r2, r3, r4⟩
  | agg xs =>
    obtain ⟨arr, rfl, h⟩ := h
    obtain ⟨E1, F1, r1, r2, r3, r4⟩ := settleCs_sound hr h hn
    exact ⟨E1, F1, r1, .agg r2, r3, r4⟩
  | top => exact h.elim
  | q xs => exact h.elim
  | t ds => exact h.elim

theorem settleDs_sound : ∀ {ds : List D} {vs : List Value} {fps : List (List Nat)} {A : St} {E : Env} {F : List (List Nat)}, Rel g S E F A a w → fps.length = ds.length → vs.length = ds.length →
    (∀ (i : Nat) (d : D) (f : List Nat), ds[i]? = some d → fps[i]? = some f → RepO1 w S d (vs.getD i undef) f) → New g S F w fps.flatten →
    Set1 g S E F A a w fps.flatten (settleDs A.H ds).2 (fun E' => (settleDs A.H ds).1.length = ds.length ∧ ∀ (i : Nat) (d : D), (settleDs A.H ds).1[i]? = some d → RepD w S E' d (vs.getD i undef))
  | [], vs, fps, A, E, F, hr, hl, hv, h, hn => ⟨E, F, hr, ⟨rfl, by simp [settleDs]⟩, .refl _ _, fun b hb => .inl hb⟩
  | d :: ds, vs, fps, A, E, F, hr, hl, hv, h, hn => by
    cases fps with
    | nil => simp at hl
    | cons f fps =>
      cases vs with
      | nil => simp at hv
      | cons v vs =>
        rw [List.flatten_cons] at hn
        obtain ⟨E1, F1, r1, r2, r3, r4⟩ := settle1_sound hr (h 0 d f rfl rfl) hn.app.1
        obtain ⟨E2, F2, q1, q2, q3, q4⟩ := settleDs_sound (ds := ds) (vs := vs) (fps := fps) r1 (by simpa using hl) (by simpa using hv) (fun i d f hd hf => by
          have := h (i + 1) d f (by simpa using hd) (by simpa using hf)
          simpa using this) (hn.shrink r4)
        refine ⟨E2, F2, q1, ⟨by simp [settleDs, q2.1], ?_⟩, envLe_trans r3 q3, ?_⟩
        · intro i d' hd
          cases i with
          | zero =>
            simp [settleDs] at hd
            subst hd
            refine RepD.mono (E := E1) (by simpa using r2) (fun _ h => h) ⟨q3.1, fun i hi _ q hq => q3.2 i hi rfl q hq⟩ (fun _ _ => rfl)
          | succ i =>
            have := q2.2 i d' (by simpa [settleDs] using hd)
            simpa using this
        · intro b hb
          rcases q4 b hb with h | h
          · exact (r4 b h).imp id (List.mem_append_left _)
          · exact .inr (List.mem_append_right _ h)

theorem settle_sound (hr : Rel g S E F A a w) {d : D} {v : Value} {fp : List Nat} (h : RepO w S d v fp) (hn : New g S F w fp) :
    Set1 g S E F A a w fp (settle A.H d).2 (fun E' => RepD w S E' (settle A.H d).1 v) := by
  cases d with
  | t ds =>
    obtain ⟨arr, fps, rfl, h1, h2, rfl, h3⟩ := h
    obtain ⟨E1, F1, r1, r2, r3, r4⟩ := settleDs_sound hr (vs := arr.toList) h2 (by simpa using h1) (fun i d f hd hf => by
      have := h3 i d f hd hf
      simpa [Array.getD_eq_getD_getElem?, List.getD] using this) hn
    refine ⟨E1, F1, r1, .t ?_ ?_, r3, r4⟩
    · have := r2.1; show arr.size = (settleDs A.H ds).1.length; omega
    · intro i d' hd
      have := r2.2 i d' hd
      simpa [Array.getD_eq_getD_getElem?, List.getD] using this
  | c y => exact settle1_sound hr h hn
  | agg xs => exact settle1_sound hr h hn
  | top => exact h.elim
  | q xs => exact h.elim

end
end Go.Dl
