/- 'Dl', part O: append. -/
import Derived.Test.YtdhlelineoggkaaDlN
namespace Go.Dl
open Go.RowKit

def D.kill (r : Nat) (d : D) : D := if d.no r then d else .top
def C.kill (r : Nat) (c : C) : C := if c.no r then c else .x
def Root.kill (r : Nat) (R : Root) : Root := if R.dat then R else { R with rows := R.rows.map fun row => row.map (C.kill r) }
def killH (r : Nat) (H : List (Option Root)) : List (Option Root) := H.map fun o => o.map (Root.kill r)
def St.kill (r : Nat) (A : St) : St := ⟨A.sl.map (D.kill r), killH r A.H⟩

/-- The rows of what is appended. -/
def srcRows (H : List (Option Root)) : D → Option (Nat × List (List C))
  | .c (.h r lo len) => match H[r]? with
    | some (some R) => if R.dat = true ∧ lo + len ≤ R.rows.length ∧ (((R.rows.drop lo).take len).all fun row => row.all C.cp) = true then some (R.es, (R.rows.drop lo).take len) else none
    | _ => none
  | .c (.s false es rows) => some (es, rows)
  | .c (.v (.string s)) => some (1, s.data.toList.map fun b => [.v (.int .u8 b.toNat)])
  | _ => none

def srcOther (r : Nat) : D → Bool
  | .c (.h r' _ _) => r' != r
  | _ => true

def appendA (P : Program) (A : St) (t : TypeId) (d x : D) : Option (D × St) :=
  match tk P t with
  | some (.slice e) => match d, tz P e, srcRows A.H x with
    | .c (.h r lo len), some z, some (es, src) => match A.H[r]? with
      | some (some R) => if tsz P e = R.es ∧ es = R.es ∧ R.es ≠ 0 ∧ R.dat = true ∧ z.length = R.es ∧ P.bytesOf e ≠ 0 ∧ (len + src.length) * P.bytesOf e ≤ 140737488355328 ∧ srcOther r x = true then
          some (.c (.h r 0 (len + src.length)), ⟨A.sl.map (D.kill r), (killH r A.H).set r (some { R with rows := (R.rows.drop lo).take len ++ src })⟩) else none
      | _ => none
    | _, _, _ => none
  | _ => none

section
variable {P : Program} {g : G} {S : Nat → Prop} {E : Env} {F : List (List Nat)} {A : St} {a : Act} {w : World}

theorem kill_rep {r : Nat} {c : C} {v : Value} {fp : List Nat} (h : Rep w S E (.k false c v) fp) : Rep w S E (.k false (c.kill r) v) fp := by
  unfold C.kill
  split
  · exact h
  · rename_i hn
    have : fp = [] := by
      cases h <;> first | rfl | (simp [C.no] at hn)
    subst this
    exact .x

theorem kill_l {r b : Nat} : ∀ {cs : List C} {off : Nat} {fp : List Nat}, Rep w S E (.l false cs b off) fp → Rep w S E (.l false (cs.map (C.kill r)) b off) fp := by
  intro cs
  induction cs with
  | nil => intro off fp h; cases h; exact .lnil
  | cons c cs ih =>
    intro off fp h
    cases h with
    | lcons hv h1 h2 => exact .lcons hv (kill_rep h1) (ih h2)

theorem kill_no (r : Nat) (c : C) : C.no r (c.kill r) = true := by
  unfold C.kill
  split
  · assumption
  · rfl

theorem kill_nos (r : Nat) : ∀ (cs : List C), C.nos r (cs.map (C.kill r)) = true
  | [] => rfl
  | c :: cs => by simp [C.nos, kill_no, kill_nos r cs]

theorem killD_no (r : Nat) (d : D) : D.no r (d.kill r) = true := by
  unfold D.kill
  split
  · assumption
  · rfl

theorem Rel.kill (hr : Rel g S E F A a w) (r : Nat) : Rel g S E F (A.kill r) a w := by
  refine { hr with len := by simp [St.kill, hr.len], sl := ?_, lE := by simp [St.kill, killH, hr.lE], lF := by simp [St.kill, killH, hr.lF], root := ?_, dead := ?_, fix := ?_ }
  · intro t d h
    simp only [St.kill, List.getElem?_map, Option.map_eq_some_iff] at h
    obtain ⟨d0, h1, rfl⟩ := h
    unfold D.kill
    split
    · exact hr.sl t d0 h1
    · exact .top
  · intro i R h
    simp only [St.kill, killH, List.getElem?_map, Option.map_eq_some_iff] at h
    obtain ⟨o, h1, h2⟩ := h
    obtain ⟨R0, rfl, rfl⟩ := h2
    obtain ⟨p, f, k1, k2, k3⟩ := hr.root i R0 h1
    refine ⟨p, f, k1, k2, ?_⟩
    unfold Root.kill
    split
    · exact k3
    · rename_i hd
      obtain ⟨g1, g2, g3, g4, g5⟩ := k3
      refine ⟨g1, by simp [g2], g3, ?_, ?_⟩
      · intro row hrow
        obtain ⟨row0, h3, rfl⟩ := List.mem_map.1 hrow
        simpa using g4 row0 h3
      · cases hat : p.at? with
        | none => rw [hat] at g5; obtain ⟨e1, e2, e3⟩ := g5; exact ⟨by simp [e1], e2, e3⟩
        | some bo =>
          obtain ⟨b, off⟩ := bo
          rw [hat] at g5
          obtain ⟨fr, e1, e2, e3⟩ := g5
          have hd' : R0.dat = false := by simpa using hd
          refine ⟨fr, e1, e2, ?_⟩
          rw [hd'] at e3
          simp only [hd']
          rw [← List.map_flatten]
          exact kill_l e3
  · intro i h
    simp only [St.kill, killH, List.getElem?_map, Option.map_eq_some_iff] at h
    obtain ⟨o, h1, h2⟩ := h
    cases o with
    | none => exact hr.dead i h1
    | some R => cases h2
  · intro i q hq
    obtain ⟨h1, h2⟩ := hr.fix i q hq
    refine ⟨by simpa [St.kill, killH] using h1, fun R0 h => ?_⟩
    simp only [St.kill, killH, List.getElem?_map, Option.map_eq_some_iff] at h
    obtain ⟨o, k1, k2⟩ := h
    obtain ⟨R1, rfl, rfl⟩ := k2
    obtain ⟨m1, m2⟩ := h2 R1 k1
    refine ⟨?_, m2⟩
    unfold Root.kill
    split
    · rename_i hd; rw [m1] at hd; cases hd
    · exact m1

theorem kill_free (A : St) (r : Nat) : Free (A.kill r) r := by
  refine ⟨?_, ?_⟩
  · intro t d h
    simp only [St.kill, List.getElem?_map, Option.map_eq_some_iff] at h
    obtain ⟨d0, _, rfl⟩ := h
    exact killD_no r d0
  · intro i R _ h
    simp only [St.kill, killH, List.getElem?_map, Option.map_eq_some_iff] at h
    obtain ⟨o, _, h2⟩ := h
    obtain ⟨R0, _, rfl⟩ := h2
    unfold Root.kill
    split
    · rename_i hd; simp [hd]
    · rw [← List.map_flatten, kill_nos]; simp

/-- Cells in memory, as values; the same values elsewhere are the same cells. -/
theorem Rep.vals {dat : Bool} {b off : Nat} : ∀ {cs : List C} {fp : List Nat}, Rep w S E (.l dat cs b off) fp → ∃ vs : List Value, vs.length = cs.length ∧
    (∀ (j : Nat) (v : Value), vs[j]? = some v → w.cell? ⟨b, off + j, none⟩ = some v) ∧
    ∀ (w' : World) (b' off' : Nat), (∀ (j : Nat) (v : Value), vs[j]? = some v → w'.cell? ⟨b', off' + j, none⟩ = some v) → (∀ b, S b ∨ b ∈ fp → w'.heap[b]? = w.heap[b]?) → Rep w' S E (.l dat cs b' off') fp := by
  intro cs
  induction cs generalizing off with
  | nil => intro fp h; cases h; exact ⟨[], rfl, by simp, fun _ _ _ _ _ => .lnil⟩
  | cons c cs ih =>
    intro fp h
    cases h with
    | lcons hv hc hr =>
      obtain ⟨vs, h1, h2, h3⟩ := ih hr
      rename_i v f1 f2
      refine ⟨v :: vs, by simp [h1], ?_, ?_⟩
      · intro j u hj
        cases j with
        | zero => simp at hj; subst hj; exact hv
        | succ j => rw [show off + (j + 1) = off + 1 + j by omega]; exact h2 j u (by simpa using hj)
      · intro w' b' off' k1 k2
        refine .lcons (k1 0 v rfl) (hc.mono (fun _ h => h) (.refl _ _) ?_) (h3 w' b' (off' + 1) ?_ ?_)
        · intro b hb
          rcases hb with h | h | h
          · exact k2 b (.inl h)
          · exact k2 b (.inr (List.mem_append_left _ h))
          · cases h
        · intro j u hj
          rw [show off' + 1 + j = off' + (j + 1) by omega]
          exact k1 (j + 1) u (by simpa using hj)
        · intro b hb
          exact k2 b (hb.imp id fun h => List.mem_append_right _ h)

theorem cells_cp {dat : Bool} {b off : Nat} : ∀ {cs : List C} {fp : List Nat}, Rep w S E (.l dat cs b off) fp → cs.all C.cp = true → fp = [] := by
  intro cs
  induction cs generalizing off with
  | nil => intro fp h _; cases h; rfl
  | cons c cs ih =>
    intro fp h hc
    simp only [List.all_cons, Bool.and_eq_true] at hc
    cases h with
    | lcons hv h1 h2 => rw [cp_fp h1 hc.1, ih h2 hc.2]; rfl

/-- What is appended, as values. -/
theorem src_sound (hr : Rel g S E F A a w) {x : D} {vx : Value} {es : Nat} {src : List (List C)} (hx : RepD w S E x vx) (h : srcRows A.H x = some (es, src)) (hes : es ≠ 0) :
    ∃ news : List Value, (∀ r ∈ src, r.length = es) ∧ (Builtin.lenOf vx).run P w = .ok src.length w ∧ (Builtin.firstCells es src.length vx).run P w = .ok news.toArray w ∧ news.length = src.length * es ∧
      (∀ v ∈ news, v.oneCell' = true) ∧
      ∀ (w' : World) (b' off' : Nat), (∀ (j : Nat) (v : Value), news[j]? = some v → w'.cell? ⟨b', off' + j, none⟩ = some v) → (∀ b, S b → w'.heap[b]? = w.heap[b]?) → Rep w' S E (.l true src.flatten b' off') [] := by
  have fromMem : ∀ (b off cap : Nat) (src : List (List C)), (∀ r ∈ src, r.length = es) → Rep w S E (.l true src.flatten b off) [] →
      ∃ news : List Value, (∀ r ∈ src, r.length = es) ∧ (Builtin.lenOf (.slice (some ⟨b, off, none⟩) src.length cap)).run P w = .ok src.length w ∧
        (Builtin.firstCells es src.length (.slice (some ⟨b, off, none⟩) src.length cap)).run P w = .ok news.toArray w ∧ news.length = src.length * es ∧ (∀ v ∈ news, v.oneCell' = true) ∧
      ∀ (w' : World) (b' off' : Nat), (∀ (j : Nat) (v : Value), news[j]? = some v → w'.cell? ⟨b', off' + j, none⟩ = some v) → (∀ b, S b → w'.heap[b]? = w.heap[b]?) → Rep w' S E (.l true src.flatten b' off') [] := by
    intro b off cap src hl hrep
    obtain ⟨vs, h1, h2, h3⟩ := hrep.vals
    rw [flatten_len hl] at h1
    refine ⟨vs, hl, by simp [Builtin.lenOf], ?_, h1, ?_, fun w' b' off' k1 k2 => h3 w' b' off' k1 (fun b hb => k2 b (hb.elim id (fun h => by cases h)))⟩
    · exact run_firstCells_some w es src.length ⟨b, off, none⟩ src.length cap vs h1 (fun j v hj => by rw [addr_add]; exact h2 j v hj)
    · intro v hv
      obtain ⟨j, hj⟩ := List.getElem?_of_mem hv
      have hj' := lt_len hj
      obtain ⟨u, fp', k1, k2, _⟩ := hrep.at j (src.flatten[j]'(by rw [flatten_len hl]; omega)) (List.getElem?_eq_getElem _)
      have := h2 j v hj
      rw [this] at k1
      cases k1
      refine k2.one ?_ ?_ ?_
      · intro hh; rw [hh] at k2; cases k2
      · intro r lo len hh; rw [hh] at k2; cases k2
      · intro r e k hh; rw [hh] at k2; cases k2
  have nilCase : ∀ (ad : Option Addr) (cap : Nat), ∃ news : List Value, (∀ r ∈ ([] : List (List C)), r.length = es) ∧ (Builtin.lenOf (.slice ad 0 cap)).run P w = .ok ([] : List (List C)).length w ∧
        (Builtin.firstCells es ([] : List (List C)).length (.slice ad 0 cap)).run P w = .ok news.toArray w ∧ news.length = ([] : List (List C)).length * es ∧ (∀ v ∈ news, v.oneCell' = true) ∧
      ∀ (w' : World) (b' off' : Nat), (∀ (j : Nat) (v : Value), news[j]? = some v → w'.cell? ⟨b', off' + j, none⟩ = some v) → (∀ b, S b → w'.heap[b]? = w.heap[b]?) → Rep w' S E (.l true ([] : List (List C)).flatten b' off') [] := by
    intro ad cap
    refine ⟨[], by simp, by simp [Builtin.lenOf], ?_, by simp, by simp, fun _ _ _ _ _ => .lnil⟩
    cases ad <;> simp [Builtin.firstCells, loadCells, loadCellsFrom]
  unfold srcRows at h
  split at h
  · rename_i r lo len
    split at h
    · rename_i R hR
      split at h
      · rename_i hc
        obtain ⟨c1, c2, c3⟩ := hc
        cases h
        obtain ⟨p, f, h1, h2, h3, h4⟩ := handle_live hr hR hx
        obtain ⟨g1, g2, g3, g4, g5⟩ := h3
        obtain ⟨k1, k2⟩ := h4
        have hlen : ((R.rows.drop lo).take len).length = len := by rw [List.length_take, List.length_drop]; omega
        cases hat : p.at? with
        | none =>
          rw [hat] at k2 g5
          obtain ⟨ad, rfl⟩ := k2
          obtain ⟨e1, _, _⟩ := g5
          have : len = 0 := by rw [e1] at g2; simp at g2; omega
          subst this
          simp only [List.take_zero]
          exact nilCase ad 0
        | some bo =>
          obtain ⟨b, off⟩ := bo
          rw [hat] at k2 g5
          obtain ⟨ad, cap, rfl, q2, q3, q4⟩ := k2
          obtain ⟨fr, _, _, hrep⟩ := g5
          by_cases hl0 : len = 0
          · subst hl0
            simp only [List.take_zero]
            exact nilCase (some ad) cap
          · have had : ad = ⟨b, off + lo * p.es, none⟩ := by
              rcases q4 with q4 | q4
              · omega
              · exact q4
            subst had
            rw [c1] at hrep
            obtain ⟨f1, f2, f3, hff, hr2⟩ := flatten_sub g4 hrep lo len (by omega)
            have hf2 : f2 = [] := by
              refine cells_cp hr2 ?_
              rw [List.all_eq_true]
              intro c hcm
              obtain ⟨row, hrow, hcr⟩ := List.mem_flatten.1 hcm
              exact List.all_eq_true.1 (List.all_eq_true.1 c3 row hrow) c hcr
            subst hf2
            have := fromMem b (off + lo * R.es) cap ((R.rows.drop lo).take len) (fun r hr => g4 r (List.mem_of_mem_drop (List.mem_of_mem_take hr))) hr2
            rw [hlen] at this ⊢
            rw [g1]
            exact this
      · cases h
    · cases h
  · rename_i es' rows
    cases h
    cases hx with
    | c h => cases h with
      | nilI => exact nilCase _ _
      | imm hS hcap hl hrep => exact fromMem _ _ _ _ hl hrep
  · rename_i s
    cases h
    obtain ⟨rfl, hs⟩ := str_inv hx
    have hsz : (s.data.toList.map fun b => [C.v (.int .u8 b.toNat)]).length = s.size := by simp
    refine ⟨s.data.toList.map fun b => .int .u8 b.toNat, ?_, ?_, ?_, ?_, ?_, ?_⟩
    · intro r hr
      obtain ⟨b, _, rfl⟩ := List.mem_map.1 hr
      rfl
    · rw [hsz]; simp [Builtin.lenOf]
    · rw [hsz]
      simp only [Builtin.firstCells, Sem.run_pure]
      congr 1
      apply Array.toList_inj.1
      have : (s.extract 0 s.size).data = s.data := by
        rw [ByteArray.extract_zero_size]
      rw [Array.toList_map, this]
    · simp
    · intro v hv
      obtain ⟨b, _, rfl⟩ := List.mem_map.1 hv
      rfl
    · intro w' b' off' k1 k2
      have hfl : (s.data.toList.map fun b => [C.v (.int .u8 b.toNat)]).flatten = s.data.toList.map fun b => C.v (.int .u8 b.toNat) := by
        induction s.data.toList with
        | nil => rfl
        | cons x xs ih => simp at ih ⊢; exact ih
      rw [hfl]
      refine rep_new (vs := s.data.toList.map fun b => .int .u8 b.toNat) ?_ ?_ k1
      · clear k1 hfl hsz hs hx
        induction s.data.toList with
        | nil => exact .vnil
        | cons x xs ih =>
          refine .vcons (f1 := []) (f2 := []) (.v ?_) ih
          have := x.toNat_lt
          simp [Sc, inR]; omega
      · intro _
        rw [List.all_eq_true]
        intro c hc
        obtain ⟨b, _, rfl⟩ := List.mem_map.1 hc
        rfl
  · cases h

end
end Go.Dl
