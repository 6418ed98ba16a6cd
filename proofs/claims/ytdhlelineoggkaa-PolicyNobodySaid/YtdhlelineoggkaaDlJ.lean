/- 'Dl', part J: the relation when the world changes: a new root. -/
import Derived.Test.YtdhlelineoggkaaDlI
import Derived.Laws.Append
import Derived.Laws.IdiomCopy
namespace Go.Dl
open Go.RowKit

section
variable {P : Program} {g : G} {S : Nat → Prop} {E : Env} {F : List (List Nat)} {A : St} {a : Act} {w : World}

theorem Rep.todat {w : World} {S : Nat → Prop} {E : Env} {c : C} {v : Value} {fp : List Nat} (h : Rep w S E (.k false c v) fp) (hd : c.dat = true) (dat : Bool) : Rep w S E (.k dat c v) fp := by
  cases h with
  | v h => exact .v h
  | nilI => exact .nilI
  | nilO => exact .nilO
  | imm hS hc hl hr => exact .imm hS hc hl hr
  | own hz hb hc hl hr => exact .own hz hb hc hl hr
  | optr hb hr => exact .optr hb hr
  | x => cases hd
  | m => exact .m
  | h _ _ => cases hd
  | p _ _ => cases hd
  | f hc hr => exact .f (.inr (by simpa [C.dat] using hd)) hr

/-- Values of one cell: what is stored in a cell. -/
theorem Rep.one {w : World} {S : Nat → Prop} {E : Env} {dat : Bool} {c : C} {v : Value} {fp : List Nat} (h : Rep w S E (.k dat c v) fp) (hx : c ≠ .x) (hh : ∀ r lo len, c = .h r lo len → ∃ p, E[r]? = some (some p))
    (hp : ∀ r e k, c = .p r e k → ∃ p, E[r]? = some (some p)) : v.oneCell' = true := by
  cases h with
  | v h => cases v <;> first | rfl | (simp [Sc] at h)
  | nilI => rfl
  | nilO => rfl
  | imm _ _ _ _ => rfl
  | own _ _ _ _ _ => rfl
  | optr _ _ => rfl
  | x => exact absurd rfl hx
  | m => rfl
  | h hr hh' =>
    obtain ⟨p, hp⟩ := hh _ _ _ rfl
    obtain ⟨_, h2⟩ := hh' p hp
    cases hat : p.at? with
    | none => rw [hat] at h2; obtain ⟨ad, rfl⟩ := h2; rfl
    | some bo => rw [hat] at h2; obtain ⟨ad, cap, rfl, _⟩ := h2; rfl
  | p hr hh' =>
    obtain ⟨p, hp⟩ := hp _ _ _ rfl
    obtain ⟨b, off, _, rfl⟩ := hh' p hp
    rfl
  | f _ _ => rfl

theorem flat_get {F : List (List Nat)} {r : Nat} {f : List Nat} (h : F[r]? = some f) : ∀ b ∈ f, b ∈ F.flatten := by
  intro b hb
  exact List.mem_flatten.2 ⟨f, List.mem_of_getElem? h, hb⟩

theorem RootAt.mono {w w' : World} {S S' : Nat → Prop} {E E' : Env} {R : Root} {p : Pl} {f : List Nat} (h : RootAt w S E R p f) (hS : ∀ b, S b → S' b)
    (hE : EnvLe E E' (fun r => R.dat || C.nos r R.rows.flatten)) (hb : ∀ b, S b ∨ b ∈ f → w'.heap[b]? = w.heap[b]?) : RootAt w' S' E' R p f := by
  obtain ⟨h1, h2, h3, h4, h5⟩ := h
  refine ⟨h1, h2, h3, h4, ?_⟩
  cases hat : p.at? with
  | none => rw [hat] at h5; exact h5
  | some bo =>
    obtain ⟨b, off⟩ := bo
    rw [hat] at h5
    obtain ⟨fr, e1, e2, e3⟩ := h5
    subst e1
    refine ⟨fr, rfl, e2.keep (hb b (.inr (List.mem_cons_self ..))), e3.mono hS hE ?_⟩
    intro b' hb'
    rcases hb' with h | h | h
    · exact hb b' (.inl h)
    · exact hb b' (.inr (List.mem_cons_of_mem _ h))
    · simp only [It.base, List.mem_singleton] at h; subst h; exact hb _ (.inr (List.mem_cons_self ..))

/-- The world has grown or changed elsewhere. -/
theorem Rel.world {w' : World} (hr : Rel g S E F A a w) (hb : ∀ b, S b ∨ b ∈ F.flatten → w'.heap[b]? = w.heap[b]?) (hp : ∀ b, b < g.w0.heap.size → b ∉ g.own → w'.heap[b]? = w.heap[b]?)
    (hz : w.heap.size ≤ w'.heap.size) (ho : w'.os = w.os) (ht : w'.tape = w.tape) (hu : OutLe w w') : Rel g S E F A a w' where
  len := hr.len
  sl t d h := (hr.sl t d h).mono (fun _ h => h) (.refl _ _) (fun b h => hb b (.inl h))
  defers := hr.defers
  lE := hr.lE
  lF := hr.lF
  root r R h := by
    obtain ⟨p, f, h1, h2, h3⟩ := hr.root r R h
    exact ⟨p, f, h1, h2, h3.mono (fun _ h => h) (.refl _ _) (fun b hb' => hb b (hb'.imp id (flat_get h2 b)))⟩
  dead := hr.dead
  nodup := hr.nodup
  fS := hr.fS
  fsz b h := ⟨Nat.lt_of_lt_of_le (hr.fsz b h).1 hz, (hr.fsz b h).2⟩
  Ssz b h := ⟨Nat.lt_of_lt_of_le (hr.Ssz b h).1 hz, (hr.Ssz b h).2⟩
  S0 := hr.S0
  prot b h1 h2 := (hp b h1 h2).trans (hr.prot b h1 h2)
  size := Nat.le_trans hr.size hz
  os := ho.trans hr.os
  tape := ht.trans hr.tape
  output := hu.trans hr.output
  fix := hr.fix

theorem Rel.drawn (hr : Rel g S E F A a w) (n : Nat) (hn : w.drawn ≤ n) : Rel g S E F A a { w with drawn := n } :=
  hr.world (fun _ _ => rfl) (fun _ _ _ => rfl) (Nat.le_refl _) rfl rfl ⟨rfl, hn⟩

theorem envLe_append (E : Env) (x : Option Pl) (ok : Nat → Bool) : EnvLe E (E ++ [x]) ok := by
  refine ⟨by simp, fun r hr _ q hq => ⟨q, ?_, q.le_refl⟩⟩
  rwa [List.getElem?_append_left hr] at hq

theorem heap_alloc_lt (w : World) (o : Obj) {b : Nat} (h : b < w.heap.size) : (w.alloc o).heap[b]? = w.heap[b]? := Below.heap_alloc w o b h

theorem rep_new {w : World} {S : Nat → Prop} {E : Env} {dat : Bool} {b : Nat} : ∀ {cs : List C} {vs : List Value} {off : Nat}, Rep w S E (.vs cs vs) [] → (dat = true → cs.all C.dat = true) →
    (∀ (j : Nat) (v : Value), vs[j]? = some v → w.cell? ⟨b, off + j, none⟩ = some v) → Rep w S E (.l dat cs b off) [] := by
  intro cs
  induction cs with
  | nil => intro vs off _ _ _; exact .lnil
  | cons c cs ih =>
    intro vs off h hd hc
    generalize hfp : ([] : List Nat) = fp at h
    cases h with
    | vcons h1 h2 =>
      obtain ⟨rfl, rfl⟩ := List.append_eq_nil_iff.1 hfp.symm
      refine .lcons (f1 := []) (f2 := []) (hc 0 _ rfl) ?_ (ih h2 (fun h => ?_) ?_)
      · cases dat with
        | false => exact h1
        | true => exact h1.todat (by have := hd rfl; simp at this; exact this.1) true
      · have := hd h; simp at this ⊢; exact this.2
      · intro j v hj
        rw [show off + 1 + j = off + (j + 1) by omega]
        exact hc (j + 1) v (by simpa using hj)

/-- A new root in a new block. -/
theorem Rel.newRoot' (hr : Rel g S E F A a w) {w' : World} {R : Root} {vs extra : List Value} {el : TypeId} {z : Nat × Nat} {m : Nat} (hrep : Rep w S E (.vs R.rows.flatten vs) []) (hdat : R.dat = true → R.rows.flatten.all C.dat = true)
    (hl : ∀ r ∈ R.rows, r.length = R.es) (hm : m * R.es ≤ vs.length + extra.length) (hn : R.rows.length ≤ m)
    (hold : ∀ b, b < w.heap.size → w'.heap[b]? = w.heap[b]?) (hnew : w'.heap[w.heap.size]? = some (.cells (vs ++ extra).toArray el z)) (hfz : ∀ o, o < (vs ++ extra).toArray.size → w'.frozen? ⟨w.heap.size, o, none⟩ = false)
    (hsz : w'.heap.size = w.heap.size + 1) (ho : w'.os = w.os) (ht : w'.tape = w.tape) (hu : OutLe w w') :
    Rel g S (E ++ [some ⟨some (w.heap.size, 0), R.es, R.rows.length, m⟩]) (F ++ [[w.heap.size]]) { A with H := A.H ++ [some R] } a w' := by
  have hSlt : ∀ b, S b → b < w.heap.size := fun b h => (hr.Ssz b h).1
  have hFlt : ∀ b, b ∈ F.flatten → b < w.heap.size := fun b h => (hr.fsz b h).1
  have hcell : ∀ (j : Nat) (v : Value), vs[j]? = some v → w'.cell? ⟨w.heap.size, 0 + j, none⟩ = some v := by
    intro j v hj
    rw [Nat.zero_add]
    simp only [World.cell?, hnew]
    simp [List.getElem?_append_left (lt_len hj), hj]
  refine { len := hr.len, sl := ?_, defers := hr.defers, lE := by simp [hr.lE], lF := by simp [hr.lF], root := ?_, dead := ?_, nodup := ?_, fS := ?_, fsz := ?_, Ssz := ?_, S0 := hr.S0, prot := ?_, size := ?_, os := ho.trans hr.os, tape := ht.trans hr.tape, output := hu.trans hr.output, fix := ?_ }
  · intro t d h
    exact (hr.sl t d h).mono (fun _ h => h) (envLe_append _ _ _) (fun b h => hold b (hSlt b h))
  · intro r R' h
    by_cases hlt : r < A.H.length
    · rw [List.getElem?_append_left hlt] at h
      obtain ⟨p, f, h1, h2, h3⟩ := hr.root r R' h
      refine ⟨p, f, ?_, ?_, h3.mono (fun _ h => h) (envLe_append _ _ _) (fun b hb => hold b (hb.elim (hSlt b) (fun h => hFlt b (flat_get h2 b h))))⟩
      · rw [List.getElem?_append_left (lt_len h1)]; exact h1
      · rw [List.getElem?_append_left (lt_len h2)]; exact h2
    · have hreq : r = A.H.length := by
        have := lt_len h
        simp at this; omega
      subst hreq
      rw [List.getElem?_append_right (Nat.le_refl _)] at h
      simp at h
      subst h
      refine ⟨⟨some (w.heap.size, 0), R.es, R.rows.length, m⟩, [w.heap.size], by rw [List.getElem?_append_right (by rw [hr.lE]; exact Nat.le_refl _), hr.lE]; simp, by rw [List.getElem?_append_right (by rw [hr.lF]; exact Nat.le_refl _), hr.lF]; simp, rfl, rfl, hn, hl, [], rfl, ?_, ?_⟩
      · exact ⟨_, el, z, hnew, by simp; omega, hfz⟩
      · refine (rep_new (w := w') (vs := vs) ?_ hdat hcell)
        exact hrep.mono (fun _ h => h) (envLe_append _ _ _) (fun b hb => by
          rcases hb with h | h | h
          · exact hold b (hSlt b h)
          · cases h
          · cases h)
  · intro r h
    by_cases hlt : r < A.H.length
    · rw [List.getElem?_append_left hlt] at h
      obtain ⟨h1, h2⟩ := hr.dead r h
      exact ⟨by rw [List.getElem?_append_left (lt_len h1)]; exact h1, by rw [List.getElem?_append_left (lt_len h2)]; exact h2⟩
    · have hreq : r = A.H.length := by
        have := lt_len h
        simp at this; omega
      subst hreq
      rw [List.getElem?_append_right (Nat.le_refl _)] at h
      simp at h
  · rw [List.flatten_append, List.nodup_append]
    refine ⟨hr.nodup, by simp, ?_⟩
    intro x hx y hy hxy
    simp at hy
    have := hFlt x hx
    omega
  · intro b hb
    rw [List.flatten_append, List.mem_append] at hb
    rcases hb with h | h
    · exact hr.fS b h
    · simp at h; subst h; intro hS; exact Nat.lt_irrefl _ (hSlt _ hS)
  · intro b hb
    rw [List.flatten_append, List.mem_append] at hb
    rw [hsz]
    rcases hb with h | h
    · exact ⟨Nat.lt_succ_of_lt (hr.fsz b h).1, (hr.fsz b h).2⟩
    · simp at h; subst h; exact ⟨Nat.lt_succ_self _, .inr hr.size⟩
  · intro b hb
    rw [hsz]
    exact ⟨Nat.lt_succ_of_lt (hr.Ssz b hb).1, (hr.Ssz b hb).2⟩
  · intro b h1 h2
    rw [hold b (Nat.lt_of_lt_of_le h1 hr.size)]
    exact hr.prot b h1 h2
  · rw [hsz]; exact Nat.le_succ_of_le hr.size
  · intro r q hq
    obtain ⟨h1, h2⟩ := hr.fix r q hq
    refine ⟨by simp; omega, fun R' hR' => ?_⟩
    rw [List.getElem?_append_left h1] at hR'
    obtain ⟨k1, k2⟩ := h2 R' hR'
    refine ⟨k1, fun p hp => k2 p ?_⟩
    rwa [List.getElem?_append_left (by rw [hr.lE]; exact h1)] at hp

theorem Rel.newRoot (hr : Rel g S E F A a w) {R : Root} {vs extra : List Value} {el : TypeId} {m : Nat} (hrep : Rep w S E (.vs R.rows.flatten vs) []) (hdat : R.dat = true → R.rows.flatten.all C.dat = true)
    (hl : ∀ r ∈ R.rows, r.length = R.es) (hm : m * R.es ≤ vs.length + extra.length) (hn : R.rows.length ≤ m) :
    Rel g S (E ++ [some ⟨some (w.heap.size, 0), R.es, R.rows.length, m⟩]) (F ++ [[w.heap.size]]) { A with H := A.H ++ [some R] } a (w.alloc (.cells (vs ++ extra).toArray el)) := by
  have hnew : (w.alloc (.cells (vs ++ extra).toArray el)).heap[w.heap.size]? = some (.cells (vs ++ extra).toArray el) := heap_alloc_new w _
  refine hr.newRoot' hrep hdat hl hm hn (fun b hb => heap_alloc_lt w _ hb) hnew (fun o ho => ?_) (by simp) rfl rfl (.rf _)
  simp only [World.frozen?, hnew]
  simp

end
end Go.Dl
