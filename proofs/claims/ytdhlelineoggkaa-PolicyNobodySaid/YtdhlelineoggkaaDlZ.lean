/- 'Dl', part Z: on what an operation depends. -/
import Derived.Test.YtdhlelineoggkaaDlY
namespace Go.Dl
open Go.RowKit

/-- A root's shape: does it live, how many cells has an element? -/
def shp : Option (Option Root) → Option Nat
  | some (some R) => some R.es
  | _ => none

theorem liveR_shp {H : List (Option Root)} {r : Nat} : liveR H r = (shp H[r]?).isSome := by
  unfold liveR shp
  split <;> split <;> simp_all

theorem shp_cases {x y : Option (Option Root)} (h : shp x = shp y) : (∃ R R', x = some (some R) ∧ y = some (some R') ∧ R.es = R'.es) ∨ ((∀ R, x ≠ some (some R)) ∧ ∀ R, y ≠ some (some R)) := by
  unfold shp at h
  split at h
  · split at h
    · exact .inl ⟨_, _, rfl, rfl, by simpa using h⟩
    · cases h
  · split at h
    · cases h
    · rename_i h1 _ h2; exact .inr ⟨fun R e => h1 R e, fun R e => h2 R e⟩

section
variable {P : Program} {Φ : Fs} {H H' : List (Option Root)}

def Alike (H H' : List (Option Root)) (d : D) : Prop := ∀ r, d.no r = false → shp H[r]? = shp H'[r]?

theorem alike_p {r e c : Nat} (h : Alike H H' (.c (.p r e c))) : liveR H r = liveR H' r := by
  rw [liveR_shp, liveR_shp, h r (by simp [D.no, C.no])]
theorem alike_h {r l n : Nat} (h : Alike H H' (.c (.h r l n))) : shp H[r]? = shp H'[r]? := h r (by simp [D.no, C.no])
theorem alike_hl {r l n : Nat} (h : Alike H H' (.c (.h r l n))) : liveR H r = liveR H' r := by
  rw [liveR_shp, liveR_shp, alike_h h]

theorem qnil_alike {d : D} (h : Alike H H' d) : qnil H d = qnil H' d := by
  unfold qnil
  split <;> first | rfl | rw [alike_p h]

theorem qfieldAddr_alike {t : TypeId} {i : Nat} {d : D} (h : Alike H H' d) : qfieldAddr P H t i d = qfieldAddr P H' t i d := by
  unfold qfieldAddr
  split
  · split
    · split
      · rfl
      · split <;> first | rfl | rw [alike_p h]
    · rfl
  · rfl

theorem qindexAddr_alike {t : TypeId} {n : Int} {d : D} (h : Alike H H' d) : qindexAddr P H t d n = qindexAddr P H' t d n := by
  unfold qindexAddr
  split
  · rename_i e _
    split
    · rename_i r lo len
      rcases shp_cases (alike_h h) with ⟨R, R', h1, h2, h3⟩ | ⟨h1, h2⟩
      · rw [h1, h2]; simp only [h3]
      · cases k1 : H[r]? with
        | none => cases k2 : H'[r]? with
          | none => rfl
          | some y => cases y with
            | none => rfl
            | some R => exact absurd k2 (h2 R)
        | some x => cases x with
          | some R => exact absurd k1 (h1 R)
          | none => cases k2 : H'[r]? with
            | none => rfl
            | some y => cases y with
              | none => rfl
              | some R => exact absurd k2 (h2 R)
    · rfl
    · rfl
  · split <;> first | rfl | rw [alike_p h]
  · rfl

theorem qslice_alike {t : TypeId} {lo hi : Option (Option D)} {d : D} (h : Alike H H' d) : qslice P H t lo hi d = qslice P H' t lo hi d := by
  unfold qslice
  split
  · rfl
  · rfl
  · rename_i r l0 len
    split
    · rename_i e _
      rcases shp_cases (alike_h h) with ⟨R, R', h1, h2, h3⟩ | ⟨h1, h2⟩
      · rw [h1, h2]; simp only [h3]
      · cases k1 : H[r]? with
        | none => cases k2 : H'[r]? with
          | none => rfl
          | some y => cases y with
            | none => rfl
            | some R => exact absurd k2 (h2 R)
        | some x => cases x with
          | some R => exact absurd k1 (h1 R)
          | none => cases k2 : H'[r]? with
            | none => rfl
            | some y => cases y with
              | none => rfl
              | some R => exact absurd k2 (h2 R)
    · rfl
  · rfl

theorem qslice3_alike {t : TypeId} {lo hi mx : Option D} {d : D} (h : Alike H H' d) : qslice3 P H t lo hi mx d = qslice3 P H' t lo hi mx d := by
  unfold qslice3
  split
  · split
    · split
      · rfl
      · rw [alike_hl h]
      · rfl
    · rfl
  · rfl

theorem qlen_alike {t : TypeId} {d : D} (h : Alike H H' d) : qlen P H t d = qlen P H' t d := by
  unfold qlen
  split
  · rfl
  · rfl
  · rw [alike_hl h]
  · rfl
  · rfl

theorem qeq_alike {t : TypeId} {a b : D} (ha : Alike H H' a) (hb : Alike H H' b) : qeq P H t a b = qeq P H' t a b := by
  unfold qeq
  split
  · rfl
  · split <;> first | rfl | rw [alike_p ha] | rw [alike_p hb]
  · rfl
  · rfl
  · rfl

theorem qbin_alike {op : BinOp} {t : TypeId} {a b : D} (ha : Alike H H' a) (hb : Alike H H' b) : qbin P H op t a b = qbin P H' op t a b := by
  unfold qbin
  split
  · rfl
  · rfl
  · rfl
  · split
    · rw [qeq_alike ha hb]
    · rfl

theorem st_alike {c : C} (h : ∀ r, c.no r = false → shp H[r]? = shp H'[r]?) : c.st H = c.st H' := by
  cases c <;> simp only [C.st]
  case h r lo len => rw [liveR_shp, liveR_shp, h r (by simp [C.no])]
  case p r e c => rw [liveR_shp, liveR_shp, h r (by simp [C.no])]

theorem sts_alike : ∀ {cs : List C}, (∀ r, C.nos r cs = false → shp H[r]? = shp H'[r]?) → cs.all (C.st H) = cs.all (C.st H')
  | [], _ => rfl
  | c :: cs, h => by
    rw [List.all_cons, List.all_cons, st_alike (H := H) (H' := H') fun r hr => h r (by simp [C.nos, hr]), sts_alike fun r hr => h r (by simp [C.nos, hr])]

theorem cells_alike {d : D} {cs : List C} (h : Alike H H' d) (hc : d.cells = some cs) : cs.all (C.st H) = cs.all (C.st H') := by
  cases d <;> simp only [D.cells, Option.some.injEq, reduceCtorEq] at hc
  · subst hc; exact sts_alike fun r hr => h r (by simp only [C.nos, Bool.and_true] at hr; simpa [D.no] using hr)
  · subst hc; exact sts_alike fun r hr => h r (by simpa [D.no] using hr)

theorem partsA_alike {ρ ρ' : Operand → Option D} : ∀ {ps : List (Nat × Operand)}, (∀ x ∈ ps.map (·.2), ρ x = ρ' x ∧ ∀ d, ρ x = some d → Alike H H' d) → partsA ρ H ps = partsA ρ' H' ps
  | [], _ => rfl
  | (i, x) :: ps, h => by
    simp only [partsA]
    rw [partsA_alike (ps := ps) fun y hy => h y (by simp at hy ⊢; exact .inr hy)]
    obtain ⟨h1, h2⟩ := h x (by simp)
    rw [← h1]
    cases hx : ρ x with
    | none => rfl
    | some d =>
      simp only [Option.bind_some]
      cases hc : d.cells with
      | none => rfl
      | some cs => cases partsA ρ' H' ps with
        | none => rfl
        | some l => simp only; rw [cells_alike (h2 d hx) hc]

theorem omap_congr {ρ ρ' : Operand → Option D} {x : Option Operand} (h : ∀ y, x = some y → ρ y = ρ' y) : omap ρ x = omap ρ' x := by
  cases x with
  | none => rfl
  | some y => simp [omap, h y rfl]

theorem bind_alike {x y : Option D} {f g : D → Option D} (h : x = y) (hf : ∀ d, x = some d → f d = g d) : x.bind f = y.bind g := by
  subst h
  cases x with
  | none => rfl
  | some d => exact hf d rfl

/-- What a quiet operation gives depends on its operands and the shapes of the roots that they name. -/
theorem act_F {A A' : St} {op : Op} (hc : cl P Φ op = .F) (hev : ∀ x ∈ op.operands.toList, A.ev x = A'.ev x) (hH : ∀ x ∈ op.operands.toList, ∀ d, A.ev x = some d → Alike A.H A'.H d) :
    ∃ o : Option D, act P Φ A op = o.map (fun d => (d, A.H)) ∧ act P Φ A' op = o.map (fun d => (d, A'.H)) := by
  unfold cl at hc
  split at hc <;> try (first | cases hc | skip)
  all_goals simp only [act, qev]
  all_goals try (simp only [Op.operands] at hev hH)
  · exact ⟨_, rfl, by rw [hev _ (by simp)]⟩
  · exact ⟨_, rfl, by rw [hev _ (by simp)]⟩
  · rename_i c x y
    exact ⟨_, rfl, by rw [hev c (by simp), hev x (by simp), hev y (by simp)]⟩
  · exact ⟨_, rfl, congrArg _ (bind_alike (hev _ (by simp)).symm fun d hd => (qnil_alike (hH _ (by simp) d ((hev _ (by simp)).trans hd))).symm)⟩
  · rename_i op t x y ty
    refine ⟨_, rfl, ?_⟩
    rw [← hev x (by simp), ← hev y (by simp)]
    cases hx : A.ev x with
    | none => rfl
    | some d => cases hy : A.ev y with
      | none => rfl
      | some e => simp only; rw [qbin_alike (hH x (by simp) d hx) (hH y (by simp) e hy)]
  · exact ⟨_, rfl, by rw [hev _ (by simp)]⟩
  · exact ⟨_, rfl, congrArg _ (bind_alike (hev _ (by simp)).symm fun d hd => (qfieldAddr_alike (hH _ (by simp) d ((hev _ (by simp)).trans hd))).symm)⟩
  · exact ⟨_, rfl, by rw [hev _ (by simp)]⟩
  · rename_i t x i
    refine ⟨_, rfl, ?_⟩
    rw [← hev x (by simp), ← hev i (by simp)]
    cases hx : A.ev x with
    | none => rfl
    | some d => cases hy : (A.ev i).bind D.int with
      | none => rfl
      | some e => simp only; rw [qindexAddr_alike (hH x (by simp) d hx)]
  · rename_i t x i
    exact ⟨_, rfl, by rw [← hev x (by simp), ← hev i (by simp)]⟩
  · rename_i t x lo hi mx
    cases mx with
    | none =>
      refine ⟨_, rfl, congrArg _ ?_⟩
      have e1 : omap A'.ev lo = omap A.ev lo := omap_congr fun y hy => (hev y (by subst hy; simp)).symm
      have e2 : omap A'.ev hi = omap A.ev hi := omap_congr fun y hy => (hev y (by subst hy; simp)).symm
      simp only [e1, e2]
      exact bind_alike (hev _ (by simp)).symm fun d hd => (qslice_alike (hH _ (by simp) d ((hev _ (by simp)).trans hd))).symm
    | some mx =>
      cases lo with
      | none => exact ⟨none, rfl, rfl⟩
      | some lo =>
        cases hi with
        | none => exact ⟨none, rfl, rfl⟩
        | some hi =>
          refine ⟨_, rfl, congrArg _ ?_⟩
          simp only [← hev lo (by simp), ← hev hi (by simp), ← hev mx (by simp)]
          exact bind_alike (hev _ (by simp)).symm fun d hd => (qslice3_alike (hH _ (by simp) d ((hev _ (by simp)).trans hd))).symm
  · exact ⟨_, rfl, by rw [hev _ (by simp)]⟩
  · rename_i t ps
    refine ⟨_, rfl, congrArg _ ?_⟩
    unfold buildA
    rw [partsA_alike (ρ := A.ev) (ρ' := A'.ev) (H := A.H) (H' := A'.H) fun x hx => ⟨hev x (by simpa using hx), hH x (by simpa using hx)⟩]
  · split at hc
    · exact ⟨_, rfl, by rw [hev _ (by simp)]⟩
    · cases hc
  · rename_i c
    have hargs : ∀ x ∈ c.args.toList, A.ev x = A'.ev x := fun x hx => hev x (by simp [Call.operands, hx])
    have hargs' : ∀ x ∈ c.args.toList, ∀ d, A.ev x = some d → Alike A.H A'.H d := fun x hx => hH x (by simp [Call.operands, hx])
    split at hc
    · rename_i h
      simp only [qbuiltin, h]
      split
      · rename_i x t h1 h2
        exact ⟨_, rfl, congrArg _ (bind_alike (hargs x (by simp [h1])).symm fun d hd => (qlen_alike (hargs' x (by simp [h1]) d ((hargs x (by simp [h1])).trans hd))).symm)⟩
      · exact ⟨none, rfl, rfl⟩
    · rename_i h
      simp only [qbuiltin, h]
      split
      · rename_i x y h1
        exact ⟨_, rfl, by rw [hargs x (by simp [h1]), hargs y (by simp [h1])]⟩
      · exact ⟨none, rfl, rfl⟩
    · rename_i h
      simp only [qbuiltin, h]
      split
      · rename_i x y h1
        exact ⟨_, rfl, by rw [hargs x (by simp [h1]), hargs y (by simp [h1])]⟩
      · exact ⟨none, rfl, rfl⟩
    · split at hc <;> cases hc
    · cases hc

theorem act_L {A A' : St} {op : Op} (hc : cl P Φ op = .L) (hev : ∀ x ∈ op.operands.toList, A.ev x = A'.ev x) (hH : ∀ x ∈ op.operands.toList, ∀ d, A.ev x = some d → ∀ r, d.no r = false → A.H[r]? = A'.H[r]?) :
    ∃ o : Option D, act P Φ A op = o.map (fun d => (d, A.H)) ∧ act P Φ A' op = o.map (fun d => (d, A'.H)) := by
  unfold cl at hc
  split at hc <;> try (first | cases hc | skip)
  · split at hc <;> cases hc
  · rename_i t x
    simp only [act, qev]
    simp only [Op.operands] at hev hH
    refine ⟨_, rfl, congrArg _ (bind_alike (hev _ (by simp)).symm fun d hd => ?_)⟩
    have h1 := hH x (by simp) d ((hev _ (by simp)).trans hd)
    unfold qload
    congr 1
    unfold cellsAt
    split
    · rename_i r e c; rw [h1 r (by simp [D.no, C.no])]
    · rfl
    · rfl
  · split at hc <;> try cases hc
    split at hc <;> cases hc

end
end Go.Dl
