/- 'Dl', part K: a root changes, a root goes; stores. -/
import Derived.Test.YtdhlelineoggkaaDlJ
namespace Go.Dl
open Go.RowKit

section
variable {P : Program} {g : G} {S : Nat → Prop} {E : Env} {F : List (List Nat)} {A : St} {a : Act} {w : World}

theorem flatten_set {F : List (List Nat)} {r : Nat} {f f' : List Nat} (h : F[r]? = some f) : ∃ xs ys, F.flatten = xs ++ (f ++ ys) ∧ (F.set r f').flatten = xs ++ (f' ++ ys) := by
  refine ⟨(F.take r).flatten, (F.drop (r + 1)).flatten, ?_, ?_⟩
  · conv => lhs; rw [← List.take_append_drop r F]
    rw [List.flatten_append]
    congr 1
    rw [List.drop_eq_getElem_cons (lt_len h), List.flatten_cons]
    congr 1
    rw [List.getElem?_eq_getElem (lt_len h)] at h
    exact Option.some.inj h
  · rw [List.set_eq_take_append_cons_drop, if_pos (lt_len h), List.flatten_append, List.flatten_cons]

theorem envLe_set {r : Nat} {p p' : Pl} {ok : Nat → Bool} (h : E[r]? = some (some p)) (hp : ok r = true ∨ p.le p') : EnvLe E (E.set r (some p')) ok := by
  refine ⟨by simp, fun i hi hok q hq => ?_⟩
  rw [List.getElem?_set] at hq
  split at hq
  · rename_i hri
    subst hri
    rw [if_pos hi] at hq
    cases hq
    rcases hp with hp | hp
    · rw [hp] at hok; cases hok
    · exact ⟨p, h, hp⟩
  · exact ⟨q, hq, q.le_refl⟩

theorem envLe_drop {r : Nat} {ok : Nat → Bool} : EnvLe E (E.set r none) ok := by
  refine ⟨by simp, fun i hi hok q hq => ?_⟩
  rw [List.getElem?_set] at hq
  split at hq
  · split at hq <;> cases hq
  · exact ⟨q, hq, q.le_refl⟩

/-- No slot and no other root speaks of a root. -/
def Free (A : St) (r : Nat) : Prop :=
  (∀ (t : Nat) (d : D), A.sl[t]? = some d → D.no r d = true) ∧ ∀ (i : Nat) (R : Root), i ≠ r → A.H[i]? = some (some R) → (R.dat || C.nos r R.rows.flatten) = true

theorem Rel.setRoot {w' : World} (hr : Rel g S E F A a w) {r : Nat} {R R' : Root} {p p' : Pl} {f f' : List Nat} (hR : A.H[r]? = some (some R)) (hE : E[r]? = some (some p)) (hF : F[r]? = some f)
    (hS : ∀ b, S b → w'.heap[b]? = w.heap[b]?) (hO : ∀ b, b ∈ F.flatten → b ∉ f → w'.heap[b]? = w.heap[b]?) (hP : ∀ b, b < g.w0.heap.size → b ∉ g.own → w'.heap[b]? = w.heap[b]?)
    (hz : w.heap.size ≤ w'.heap.size) (ho : w'.os = w.os) (ht : w'.tape = w.tape) (hu : OutLe w w')
    (hR' : RootAt w' S (E.set r (some p')) R' p' f') (hf1 : f'.Nodup) (hf2 : ∀ b ∈ f', (b ∈ f ∨ w.heap.size ≤ b) ∧ b < w'.heap.size) (hfree : p.le p' ∨ Free A r) (hdd : R'.dat = R.dat) (hle : R.dat = false → p.le p') :
    Rel g S (E.set r (some p')) (F.set r f') { A with H := A.H.set r (some R') } a w' := by
  have hSlt : ∀ b, S b → b < w.heap.size := fun b h => (hr.Ssz b h).1
  have hFlt : ∀ b, b ∈ F.flatten → b < w.heap.size := fun b h => (hr.fsz b h).1
  obtain ⟨xs, ys, e1, e2⟩ := flatten_set (f' := f') hF
  have hnd := hr.nodup
  rw [e1] at hnd
  have hnd2 := List.nodup_append.1 hnd
  have hnd3 := List.nodup_append.1 hnd2.2.1
  have hmem : ∀ b, b ∈ (F.set r f').flatten → (b ∈ F.flatten ∧ b ∉ f) ∨ b ∈ f' := by
    intro b hb
    rw [e2, List.mem_append, List.mem_append] at hb
    rcases hb with h | h | h
    · exact .inl ⟨by rw [e1]; exact List.mem_append_left _ h, fun hf => hnd2.2.2 b h b (List.mem_append_left _ hf) rfl⟩
    · exact .inr h
    · exact .inl ⟨by rw [e1]; exact List.mem_append_right _ (List.mem_append_right _ h), fun hf => hnd3.2.2 b hf b h rfl⟩
  refine { len := hr.len, sl := ?_, defers := hr.defers, lE := by simp [hr.lE], lF := by simp [hr.lF], root := ?_, dead := ?_, nodup := ?_, fS := ?_, fsz := ?_, Ssz := ?_, S0 := hr.S0, prot := ?_, size := Nat.le_trans hr.size hz, os := ho.trans hr.os, tape := ht.trans hr.tape, output := hu.trans hr.output, fix := ?_ }
  · intro t d h
    refine (hr.sl t d h).mono (fun _ h => h) (envLe_set hE ?_) hS
    exact hfree.elim .inr fun h' => .inl (h'.1 t d h)
  · intro i R0 h
    rw [List.getElem?_set] at h
    split at h
    · rename_i hri
      subst hri
      rw [if_pos (lt_len hR)] at h
      cases h
      exact ⟨p', f', by rw [List.getElem?_set_self (lt_len hE)], by rw [List.getElem?_set_self (lt_len hF)], hR'⟩
    · rename_i hri
      obtain ⟨q, fq, h1, h2, h3⟩ := hr.root i R0 h
      refine ⟨q, fq, by rw [List.getElem?_set_ne hri]; exact h1, by rw [List.getElem?_set_ne hri]; exact h2, h3.mono (fun _ h => h) (envLe_set hE ?_) ?_⟩
      · exact hfree.elim .inr fun h' => .inl (h'.2 i R0 (Ne.symm hri) h)
      · intro b hb
        rcases hb with hb | hb
        · exact hS b hb
        · refine hO b (flat_get h2 b hb) fun hbf => ?_
          obtain ⟨xs', ys', e1', e2'⟩ := flatten_set (f' := []) hF
          have hi : (F.set r [])[i]? = some fq := by rw [List.getElem?_set_ne hri]; exact h2
          have hb' := flat_get hi b hb
          rw [e2'] at hb'
          have hn := hr.nodup
          rw [e1'] at hn
          have n2 := List.nodup_append.1 hn
          have n3 := List.nodup_append.1 n2.2.1
          rw [List.mem_append] at hb'
          rcases hb' with hb' | hb'
          · exact n2.2.2 b hb' b (List.mem_append_left _ hbf) rfl
          · exact n3.2.2 b hbf b (by simpa using hb') rfl
  · intro i h
    rw [List.getElem?_set] at h
    split at h
    · rename_i hri
      split at h <;> cases h
    · rename_i hri
      obtain ⟨h1, h2⟩ := hr.dead i h
      exact ⟨by rw [List.getElem?_set_ne hri]; exact h1, by rw [List.getElem?_set_ne hri]; exact h2⟩
  · rw [e2, List.nodup_append]
    refine ⟨hnd2.1, List.nodup_append.2 ⟨hf1, hnd3.2.1, ?_⟩, ?_⟩
    · intro x hx y hy hxy
      subst hxy
      rcases (hf2 x hx).1 with h | h
      · exact hnd3.2.2 x h x hy rfl
      · have := hFlt x (by rw [e1]; exact List.mem_append_right _ (List.mem_append_right _ hy)); omega
    · intro x hx y hy hxy
      subst hxy
      rw [List.mem_append] at hy
      rcases hy with hy | hy
      · rcases (hf2 x hy).1 with h | h
        · exact hnd2.2.2 x hx x (List.mem_append_left _ h) rfl
        · have := hFlt x (by rw [e1]; exact List.mem_append_left _ hx); omega
      · exact hnd2.2.2 x hx x (List.mem_append_right _ hy) rfl
  · intro b hb
    rcases hmem b hb with h | h
    · exact hr.fS b h.1
    · rcases (hf2 b h).1 with h | h
      · exact hr.fS b (flat_get hF b h)
      · intro hs; have := hSlt b hs; omega
  · intro b hb
    rcases hmem b hb with h | h
    · exact ⟨Nat.lt_of_lt_of_le (hr.fsz b h.1).1 hz, (hr.fsz b h.1).2⟩
    · refine ⟨(hf2 b h).2, ?_⟩
      rcases (hf2 b h).1 with h | h
      · exact (hr.fsz b (flat_get hF b h)).2
      · exact .inr (Nat.le_trans hr.size h)
  · intro b hb
    exact ⟨Nat.lt_of_lt_of_le (hr.Ssz b hb).1 hz, (hr.Ssz b hb).2⟩
  · intro b h1 h2
    exact (hP b h1 h2).trans (hr.prot b h1 h2)
  · intro i q hq
    obtain ⟨h1, h2⟩ := hr.fix i q hq
    refine ⟨by simpa using h1, fun R0 h => ?_⟩
    rw [List.getElem?_set] at h
    split at h
    · rename_i hri
      subst hri
      rw [if_pos (lt_len hR)] at h
      cases h
      obtain ⟨k1, k2⟩ := h2 R hR
      refine ⟨hdd.trans k1, fun p1 hp1 => ?_⟩
      rw [List.getElem?_set_self (lt_len hE)] at hp1
      cases hp1
      exact (k2 p hE).trans (hle k1)
    · rename_i hri
      obtain ⟨k1, k2⟩ := h2 R0 h
      exact ⟨k1, fun p1 hp1 => k2 p1 (by rwa [List.getElem?_set_ne hri] at hp1)⟩

/-- A root goes out of sight. -/
theorem Rel.dropRoot (hr : Rel g S E F A a w) (r : Nat) : Rel g S (E.set r none) (F.set r []) { A with H := A.H.set r none } a w := by
  have hsub : ∀ b, b ∈ (F.set r []).flatten → b ∈ F.flatten := by
    intro b hb
    obtain ⟨f, h1, h2⟩ := List.mem_flatten.1 hb
    rcases List.mem_or_eq_of_mem_set h1 with h | h
    · exact List.mem_flatten.2 ⟨f, h, h2⟩
    · subst h; cases h2
  refine { len := hr.len, sl := ?_, defers := hr.defers, lE := by simp [hr.lE], lF := by simp [hr.lF], root := ?_, dead := ?_, nodup := ?_, fS := fun b h => hr.fS b (hsub b h), fsz := fun b h => hr.fsz b (hsub b h), Ssz := hr.Ssz, S0 := hr.S0, prot := hr.prot, size := hr.size, os := hr.os, tape := hr.tape, output := hr.output, fix := ?_ }
  · intro t d h
    exact (hr.sl t d h).mono (fun _ h => h) envLe_drop (fun _ _ => rfl)
  · intro i R0 h
    rw [List.getElem?_set] at h
    split at h
    · split at h <;> cases h
    · rename_i hri
      obtain ⟨q, fq, h1, h2, h3⟩ := hr.root i R0 h
      exact ⟨q, fq, by rw [List.getElem?_set_ne hri]; exact h1, by rw [List.getElem?_set_ne hri]; exact h2, h3.mono (fun _ h => h) envLe_drop (fun _ _ => rfl)⟩
  · intro i h
    rw [List.getElem?_set] at h
    split at h
    · rename_i hri
      subst hri
      split at h
      · rename_i hlt
        exact ⟨by rw [List.getElem?_set_self (by rw [hr.lE]; exact hlt)], by rw [List.getElem?_set_self (by rw [hr.lF]; exact hlt)]⟩
      · cases h
    · rename_i hri
      obtain ⟨h1, h2⟩ := hr.dead i h
      exact ⟨by rw [List.getElem?_set_ne hri]; exact h1, by rw [List.getElem?_set_ne hri]; exact h2⟩
  · by_cases hlt : r < F.length
    · obtain ⟨xs, ys, e1, e2⟩ := flatten_set (f' := []) (List.getElem?_eq_getElem hlt)
      have hn := hr.nodup
      rw [e1] at hn
      rw [e2, List.nil_append]
      have n2 := List.nodup_append.1 hn
      have n3 := List.nodup_append.1 n2.2.1
      exact List.nodup_append.2 ⟨n2.1, n3.2.1, fun x hx y hy => n2.2.2 x hx y (List.mem_append_right _ hy)⟩
    · rw [List.set_eq_of_length_le (by omega)]; exact hr.nodup
  · intro i q hq
    obtain ⟨h1, h2⟩ := hr.fix i q hq
    refine ⟨by simpa using h1, fun R0 h => ?_⟩
    rw [List.getElem?_set] at h
    split at h
    · split at h <;> cases h
    · rename_i hri
      obtain ⟨k1, k2⟩ := h2 R0 h
      exact ⟨k1, fun p1 hp1 => k2 p1 (by rwa [List.getElem?_set_ne hri] at hp1)⟩

theorem Rep.congr {w w' : World} {S : Nat → Prop} {E : Env} {dat : Bool} {b : Nat} : ∀ {cs : List C} {off : Nat} {fp : List Nat}, Rep w S E (.l dat cs b off) fp →
    (∀ j, j < cs.length → w'.cell? ⟨b, off + j, none⟩ = w.cell? ⟨b, off + j, none⟩) → (∀ b', S b' ∨ b' ∈ fp → w'.heap[b']? = w.heap[b']?) → Rep w' S E (.l dat cs b off) fp := by
  intro cs
  induction cs with
  | nil => intro off fp h _ _; cases h; exact .lnil
  | cons c cs ih =>
    intro off fp h hc hb
    cases h with
    | lcons hv h1 h2 =>
      refine .lcons ?_ (h1.mono (fun _ h => h) (.refl _ _) ?_) (ih h2 ?_ ?_)
      · rw [show off = off + 0 from rfl, hc 0 (by simp)]; exact hv
      · intro b' hb'
        rcases hb' with h | h | h
        · exact hb b' (.inl h)
        · exact hb b' (.inr (List.mem_append_left _ h))
        · cases h
      · intro j hj
        rw [show off + 1 + j = off + (j + 1) by omega]
        exact hc (j + 1) (by simp; omega)
      · intro b' hb'
        exact hb b' (hb'.imp id fun h => List.mem_append_right _ h)

end
end Go.Dl
