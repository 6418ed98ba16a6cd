/- 'Dl', part Zd: a slice that an object holds, taken out and put back; 'Dl', part Ze: rules for walking straight on; 'Dl', part Zf: what reads as a datum, by value; 'Dl', part Zg: from a function's contract to the row of a law; 'Dl', part Zh: a nil slice in a slot, taken as a row of the call's own; 'Dl', part Zi: an empty slice's cells may be of any size; 'Dl', part Zj: regions in which an operation may leave one of several; maps that are made. -/
import Derived.Test.YtbefgbljlmnfoaaE05
import Derived.Carry
import Derived.DataReads
import Derived.WalkKit
import Derived.ProofKit
import Derived.OpenShut
import Derived.ShutString
import Derived.ChangeOld
namespace Go.Dl
open Go.RowKit

section
variable {P : Program} {g : G} {S : Nat → Prop} {E : Env} {F : List (List Nat)} {A : St} {a : Act} {w : World}

/-- Another reading of a root, the world as it was. -/
theorem Rel.refoot (hr : Rel g S E F A a w) {r : Nat} {R R' : Root} {p : Pl} {f f' : List Nat} (hR : A.H[r]? = some (some R)) (hE : E[r]? = some (some p)) (hF : F[r]? = some f)
    (hR' : RootAt w S E R' p f') (hf' : f'.Nodup) (hnew : ∀ b ∈ f', b ∈ f ∨ (b ∉ F.flatten ∧ ¬ S b ∧ b < w.heap.size ∧ (b ∈ g.own ∨ g.w0.heap.size ≤ b))) (hdd : R'.dat = R.dat) :
    Rel g S E (F.set r f') { A with H := A.H.set r (some R') } a w := by
  obtain ⟨xs, ys, e1, e2⟩ := flatten_set (f' := f') hF
  have hn := hr.nodup
  rw [e1] at hn
  have n1 := List.nodup_append.1 hn
  have n2 := List.nodup_append.1 n1.2.1
  have memF : ∀ b, b ∈ (F.set r f').flatten → b ∈ F.flatten ∨ (b ∈ f' ∧ b ∉ f) := by
    intro b hb
    rw [e2, List.mem_append, List.mem_append] at hb
    rw [e1, List.mem_append, List.mem_append]
    rcases hb with h | h | h
    · exact .inl (.inl h)
    · by_cases hbf : b ∈ f
      · exact .inl (.inr (.inl hbf))
      · exact .inr ⟨h, hbf⟩
    · exact .inl (.inr (.inr h))
  refine { len := hr.len, sl := hr.sl, defers := hr.defers, lE := by simp [hr.lE], lF := by simp [hr.lF], root := ?_, dead := ?_, nodup := ?_, fS := ?_, fsz := ?_, Ssz := hr.Ssz, S0 := hr.S0, prot := hr.prot, size := hr.size, os := hr.os, tape := hr.tape, output := hr.output, fix := ?_ }
  · intro i R1 h
    rw [List.getElem?_set] at h
    split at h
    · rename_i hri; subst hri
      rw [if_pos (lt_len hR)] at h
      cases h
      exact ⟨p, f', hE, by rw [List.getElem?_set_self (lt_len hF)], hR'⟩
    · rename_i hri
      obtain ⟨p1, f1, h1, h2, h3⟩ := hr.root i R1 h
      exact ⟨p1, f1, h1, by rw [List.getElem?_set_ne hri]; exact h2, h3⟩
  · intro i h
    rw [List.getElem?_set] at h
    split at h
    · rename_i hri; subst hri
      rw [if_pos (lt_len hR)] at h; cases h
    · rename_i hri
      obtain ⟨h1, h2⟩ := hr.dead i h
      exact ⟨h1, by rw [List.getElem?_set_ne hri]; exact h2⟩
  · rw [e2]
    have key : ∀ b, b ∈ f' → b ∉ xs ∧ b ∉ ys := by
      intro b hb
      rcases hnew b hb with h | ⟨h, _⟩
      · refine ⟨fun hx => n1.2.2 b hx b (List.mem_append_left _ h) rfl, fun hy => n2.2.2 b h b hy rfl⟩
      · rw [e1] at h
        refine ⟨fun hx => h (List.mem_append_left _ hx), fun hy => h (List.mem_append_right _ (List.mem_append_right _ hy))⟩
    refine List.nodup_append.2 ⟨n1.1, List.nodup_append.2 ⟨hf', n2.2.1, fun x hx y hy hxy => (key x hx).2 (hxy ▸ hy)⟩, ?_⟩
    intro x hx y hy hxy
    subst hxy
    rcases List.mem_append.1 hy with h | h
    · exact (key x h).1 hx
    · exact n1.2.2 x hx x (List.mem_append_right _ h) rfl
  · intro b hb
    rcases memF b hb with h | ⟨h, hbf⟩
    · exact hr.fS b h
    · rcases hnew b h with h | h
      · exact absurd h hbf
      · exact h.2.1
  · intro b hb
    rcases memF b hb with h | ⟨h, hbf⟩
    · exact hr.fsz b h
    · rcases hnew b h with h | h
      · exact absurd h hbf
      · exact h.2.2
  · intro i q hq
    obtain ⟨h1, h2⟩ := hr.fix i q hq
    refine ⟨by simpa using h1, fun R1 hR1 => ?_⟩
    rw [List.getElem?_set] at hR1
    split at hR1
    · rename_i hri; subst hri
      rw [if_pos (lt_len hR)] at hR1
      cases hR1
      obtain ⟨k1, k2⟩ := h2 R hR
      exact ⟨hdd.trans k1, k2⟩
    · exact h2 R1 hR1

/-- One cell of an object by itself. -/
theorem Rel.cellAt (hr : Rel g S E F A a w) {r e c : Nat} {R : Root} {row : List C} {c0 : C} (hR : A.H[r]? = some (some R)) (hd : R.dat = false) (hrow : R.rows[e]? = some row) (hc : row[c]? = some c0) (hnb : ∀ T, c0 ≠ .b T) :
    ∃ (v : Value) (fc f1 f3 : List Nat) (b : Nat) (p : Pl), E[r]? = some (some p) ∧ F[r]? = some (b :: (f1 ++ (fc ++ f3))) ∧ Rep w S E (.k false c0 v) fc ∧ (b :: (f1 ++ (fc ++ f3))).Nodup ∧
      (∃ off, p.at? = some (b, off) ∧ w.cell? ⟨b, off + (e * R.es + c), none⟩ = some v) ∧
      ∀ (c1 : C) (fc1 : List Nat), Rep w S E (.k false c1 v) fc1 → RootAt w S E ⟨false, R.es, R.rows.set e (row.set c c1)⟩ p (b :: (f1 ++ (fc1 ++ f3))) := by
  obtain ⟨p, f, h1, h2, g1, g2, g3, g4, g5⟩ := hr.root r R hR
  have hnd := nodup_at hr.nodup h2
  cases hat : p.at? with
  | none =>
    rw [hat] at g5
    rw [g5.1] at hrow
    cases hrow
  | some bo =>
    obtain ⟨b, off⟩ := bo
    rw [hat] at g5
    obtain ⟨fr, rfl, hown, hrep⟩ := g5
    obtain ⟨xs, ys, e1, e2, e3, e4⟩ := flatten_split g4 e row hrow
    have hcl := lt_len hc
    have hrowsplit : row = row.take c ++ (c0 :: row.drop (c + 1)) := by
      rw [List.getElem?_eq_getElem hcl] at hc
      cases hc
      rw [List.getElem_cons_drop, List.take_append_drop]
    have hsplit : R.rows.flatten = (xs ++ row.take c) ++ (c0 :: (row.drop (c + 1) ++ ys)) := by
      rw [e1]; conv => lhs; rw [hrowsplit]
      simp
    rw [hd, hsplit] at hrep
    obtain ⟨f1, f23, rfl, r1, r2⟩ := hrep.append
    generalize hoo : off + (xs ++ row.take c).length = oo at r2
    cases r2 with
    | lcons hv hcc hrest =>
      rename_i v fc f3
      refine ⟨v, fc, f1, f3, b, p, h1, h2, hcc, hnd, ⟨off, hat, ?_⟩, ?_⟩
      · rw [List.length_append, e2, List.length_take, Nat.min_eq_left (by omega)] at hoo
        rw [hoo]
        exact hv
      intro c1 fc1 hc1
      have hrl : (row.set c c1).length = R.es := by rw [List.length_set]; exact g4 row (List.mem_of_getElem? hrow)
      refine ⟨g1, by simp [g2], g3, ?_, ?_⟩
      · intro r' hr'
        rcases List.mem_or_eq_of_mem_set hr' with h | h
        · exact g4 r' h
        · rw [h]; exact hrl
      · rw [hat]
        refine ⟨f1 ++ (fc1 ++ f3), rfl, hown, ?_⟩
        have hnew : (R.rows.set e (row.set c c1)).flatten = (xs ++ row.take c) ++ (c1 :: (row.drop (c + 1) ++ ys)) := by
          rw [List.set_eq_take_append_cons_drop, if_pos (lt_len hrow), List.flatten_append, List.flatten_cons, ← e3, ← e4, List.set_eq_take_append_cons_drop, if_pos hcl]
          simp
        show Rep w S E (.l false (R.rows.set e (row.set c c1)).flatten b off) _
        rw [hnew]
        exact r1.join (by rw [hoo]; exact .lcons hv hc1 hrest)
    | lb => exact absurd rfl (hnb _)

def openA (H : List (Option Root)) (r e c es' : Nat) : Option (List (Option Root)) :=
  match H[r]? with
  | some (some R) => if R.dat = true then none else match R.rows[e]? with
    | some row => match row[c]? with
      | some (.s true es rows) => if es = es' ∨ (es = 0 ∧ rows.isEmpty = true) then
          some (H.set r (some ⟨false, R.es, R.rows.set e (row.set c (.h H.length 0 rows.length))⟩) ++ [some ⟨true, es', rows⟩]) else none
      | _ => none
    | none => none
  | _ => none

theorem open_sat {H' : List (Option Root)} {r e c es' : Nat} (ho : openA A.H r e c es' = some H') (hs : Sat g A a w) : Sat g { A with H := H' } a w := by
  obtain ⟨S, E, F, hr⟩ := hs
  unfold openA at ho
  split at ho
  · rename_i R hR
    split at ho
    · cases ho
    · rename_i hd
      have hd : R.dat = false := by simpa using hd
      split at ho
      · rename_i row hrow
        split at ho
        · rename_i es rows hc
          split at ho
          · rename_i hes
            cases ho
            obtain ⟨v, fc, f1, f3, b, p, h1, h2, h3, h4, ⟨off, ha, hv⟩, h5⟩ := hr.cellAt hR hd hrow hc (by simp)
            -- the slice at the element size asked for
            have h3' : Rep w S E (.k false (.s true es' rows) v) fc := by
              rcases hes with rfl | ⟨rfl, he⟩
              · exact h3
              · rw [List.isEmpty_iff] at he
                subst he
                cases h3 with
                | nilO => exact .nilO
                | own hz _ _ _ _ => exact absurd rfl hz
            -- the cell forgotten
            have q1 := hr.refoot (f' := b :: (f1 ++ ([] ++ f3))) hR h1 h2 (h5 .x [] .x) (by
              have n := List.nodup_cons.1 h4
              have m := List.nodup_append.1 n.2
              have m2 := List.nodup_append.1 m.2.1
              refine List.nodup_cons.2 ⟨fun hx => n.1 ?_, List.nodup_append.2 ⟨m.1, by simpa using m2.2.1, fun x hx y hy => m.2.2 x hx y (List.mem_append_right _ (by simpa using hy))⟩⟩
              rcases List.mem_append.1 hx with h | h
              · exact List.mem_append_left _ h
              · exact List.mem_append_right _ (List.mem_append_right _ (by simpa using h))) (by
              intro x hx
              left
              rcases List.mem_cons.1 hx with h | h
              · rw [h]; exact List.mem_cons_self ..
              · refine List.mem_cons_of_mem _ ?_
                rcases List.mem_append.1 h with h | h
                · exact List.mem_append_left _ h
                · exact List.mem_append_right _ (List.mem_append_right _ (by simpa using h))) hd.symm
            -- its slice as a root
            have hpure : Rep w S [] (.k false (.s true es' rows) v) fc := h3'.noenv (.inr rfl)
            have n := List.nodup_cons.1 h4
            have m := List.nodup_append.1 n.2
            have m2 := List.nodup_append.1 m.2.1
            have hnew : New g S (F.set r (b :: (f1 ++ ([] ++ f3)))) w fc := by
              refine ⟨m2.1, fun x hx => ?_⟩
              have hxf : x ∈ b :: (f1 ++ (fc ++ f3)) := List.mem_cons_of_mem _ (List.mem_append_right _ (List.mem_append_left _ hx))
              refine ⟨fun hm => ?_, hr.fS x (flat_get h2 x hxf), hr.fsz x (flat_get h2 x hxf)⟩
              obtain ⟨f, k1, k2⟩ := List.mem_flatten.1 hm
              obtain ⟨i, hi⟩ := List.getElem?_of_mem k1
              rw [List.getElem?_set] at hi
              split at hi
              · rename_i hri
                rw [if_pos (lt_len h2)] at hi
                cases hi
                rcases List.mem_cons.1 k2 with h | h
                · rw [h] at hx; exact n.1 (List.mem_append_right _ (List.mem_append_left _ hx))
                · rcases List.mem_append.1 h with h | h
                  · exact m.2.2 x h x (List.mem_append_left _ hx) rfl
                  · exact m2.2.2 x hx x (by simpa using h) rfl
              · rename_i hri
                exact hri (apart hr h2 hi hxf k2)
            obtain ⟨E2, F2, t1, t2, t3, t4⟩ := settleC_sound q1 hpure hnew
            simp only [settleC, List.length_set] at t1 t2
            -- the cell again
            have hR2 : (A.H.set r (some ⟨false, R.es, R.rows.set e (row.set c .x)⟩) ++ [some ⟨true, es', rows⟩])[r]? = some (some ⟨false, R.es, R.rows.set e (row.set c .x)⟩) := by
              rw [List.getElem?_append_left (by simpa using lt_len hR), List.getElem?_set_self (lt_len hR)]
            obtain ⟨v2, fc2, g1, g3, b2, p2, u1, u2, u3, u4, ⟨off2, hb, hv2⟩, u5⟩ := t1.cellAt (r := r) (e := e) (c := c) (c0 := .x) hR2 rfl (by rw [List.getElem?_set_self (lt_len hrow)]) (by rw [List.getElem?_set_self (lt_len hc)]) (by simp)
            cases u3
            obtain ⟨p0, w1, w2⟩ := t3.2 r (lt_len h1) rfl p2 u1
            rw [h1] at w1
            cases w1
            rw [w2.1, ha] at hb
            cases hb
            rw [hv] at hv2
            cases hv2
            have t5 := t1.refoot (f' := b :: (g1 ++ ([] ++ g3))) hR2 u1 u2 (u5 _ _ t2) u4 (fun x hx => .inl hx) rfl
            rw [set_same u2] at t5
            refine ⟨S, E2, F2, ?_⟩
            have hfin : ∀ (X Y Z N : Option Root), ((A.H.set r X ++ [N]).set r Z) = A.H.set r Z ++ [N] := by
              intro X Y Z N
              rw [List.set_append_left _ _ (by simpa using lt_len hR), List.set_set]
            rw [hfin _ none _ _] at t5
            simp only [List.set_set] at t5
            exact t5
          · cases ho
        · cases ho
      · cases ho
  · cases ho

def closeA (A : St) (r e c : Nat) : Option St :=
  match A.H[r]? with
  | some (some R) => if R.dat = true then none else match R.rows[e]? with
    | some row => match row[c]? with
      | some (.h n 0 len) => match A.H[n]? with
        | some (some N) => if N.dat = true ∧ N.es ≠ 0 ∧ len = N.rows.length then
            some ⟨A.sl.map (D.kill n), ((killH n (A.H.set r (some ⟨false, R.es, R.rows.set e (row.set c .x)⟩))).set n none).set r
              (some ⟨false, R.es, ((R.rows.set e (row.set c .x)).map fun row => row.map (C.kill n)).set e (((row.set c .x).map (C.kill n)).set c (.s true N.es N.rows))⟩)⟩ else none
        | _ => none
      | _ => none
    | none => none
  | _ => none

theorem close_sat {A' : St} {r e c : Nat} (ho : closeA A r e c = some A') (hs : Sat g A a w) : Sat g A' a w := by
  obtain ⟨S, E, F, hr⟩ := hs
  unfold closeA at ho
  split at ho
  · rename_i R hR
    split at ho
    · cases ho
    · rename_i hd
      have hd : R.dat = false := by simpa using hd
      split at ho
      · rename_i row hrow
        split at ho
        · rename_i n len hc
          split at ho
          · rename_i N hN
            split at ho
            · rename_i hcond
              cases ho
              have hnr : n ≠ r := fun h => by
                subst h
                rw [hR] at hN; cases hN
                rw [hd] at hcond; cases hcond.1
              obtain ⟨v, fc, f1, f3, b, p, h1, h2, h3, h4, ⟨off, ha, hv⟩, h5⟩ := hr.cellAt hR hd hrow hc (by simp)
              have hfc : fc = [] := by cases h3; rfl
              subst hfc
              obtain ⟨fp, k1, k2, k3⟩ := outC_sound hr h3 (c' := .s true N.es N.rows) (ids := [n]) (by
                unfold outC
                simp only [hN]
                rw [if_pos ⟨hcond.1, hcond.2.1, trivial, hcond.2.2⟩])
              have q1 := hr.refoot (f' := b :: (f1 ++ ([] ++ f3))) hR h1 h2 (h5 .x [] .x) h4 (fun x hx => .inl hx) hd.symm
              rw [set_same h2] at q1
              have q3 := (q1.kill n).dropRoot n
              have hRx : ((St.kill n { A with H := A.H.set r (some ⟨false, R.es, R.rows.set e (row.set c .x)⟩) }).H.set n none)[r]? = some (some ⟨false, R.es, (R.rows.set e (row.set c .x)).map fun row => row.map (C.kill n)⟩) := by
                rw [List.getElem?_set_ne hnr]
                simp only [St.kill, killH, List.getElem?_map]
                rw [List.getElem?_set_self (lt_len hR)]
                rfl
              obtain ⟨v2, fc2, g1, g3, b2, p2, u1, u2, u3, u4, ⟨off2, hb, hv2⟩, u5⟩ := q3.cellAt (r := r) (e := e) (c := c) (c0 := .x) hRx rfl
                (by rw [List.getElem?_map, List.getElem?_set_self (lt_len hrow)]; rfl) (by rw [List.getElem?_map, List.getElem?_set_self (lt_len hc)]; rfl) (by simp)
              cases u3
              rw [List.getElem?_set_ne hnr, h1] at u1
              cases u1
              rw [ha] at hb
              cases hb
              rw [hv] at hv2
              cases hv2
              have hsub : ∀ x ∈ fp, ∃ f, F[n]? = some f ∧ x ∈ f := by
                intro x hx
                obtain ⟨i, hi, f, m1, m2⟩ := k2 x hx
                rw [List.mem_singleton] at hi
                subst hi
                exact ⟨f, m1, m2⟩
              have hout : ∀ x ∈ fp, x ∉ (F.set n []).flatten := by
                intro x hx hm
                obtain ⟨f, m1, m2⟩ := hsub x hx
                obtain ⟨f', m3, m4⟩ := List.mem_flatten.1 hm
                obtain ⟨i, hi⟩ := List.getElem?_of_mem m3
                rw [List.getElem?_set] at hi
                split at hi
                · rename_i hni
                  rw [if_pos (lt_len m1)] at hi
                  cases hi; cases m4
                · rename_i hni
                  exact hni (apart hr m1 hi m2 m4)
              have t5 := q3.refoot (f' := b :: (g1 ++ (fp ++ g3))) hRx (by rw [List.getElem?_set_ne hnr]; exact h1) u2 (u5 (.s true N.es N.rows) fp (k1.noenv (.inr rfl))) (by
                have y1 := List.nodup_cons.1 u4
                have y2 := List.nodup_append.1 y1.2
                have sub : ∀ x, x ∈ b :: (g1 ++ ([] ++ g3)) → x ∈ (F.set n []).flatten := flat_get u2
                have no : ∀ x ∈ fp, x ∉ b :: (g1 ++ ([] ++ g3)) := fun x hx h => hout x hx (sub x h)
                refine List.nodup_cons.2 ⟨fun h => ?_, List.nodup_append.2 ⟨y2.1, List.nodup_append.2 ⟨k3, by simpa using y2.2.1, fun x hx y hy hxy => ?_⟩, fun x hx y hy hxy => ?_⟩⟩
                · rcases List.mem_append.1 h with h | h
                  · exact y1.1 (List.mem_append_left _ h)
                  · rcases List.mem_append.1 h with h | h
                    · exact no b h (List.mem_cons_self ..)
                    · exact y1.1 (List.mem_append_right _ (by simpa using h))
                · subst hxy
                  exact no x hx (List.mem_cons_of_mem _ (List.mem_append_right _ (by simpa using hy)))
                · subst hxy
                  rcases List.mem_append.1 hy with h | h
                  · exact no x h (List.mem_cons_of_mem _ (List.mem_append_left _ hx))
                  · exact y2.2.2 x hx x (by simpa using h) rfl) (by
                intro x hx
                rcases List.mem_cons.1 hx with h | h
                · left; rw [h]; exact List.mem_cons_self ..
                · rcases List.mem_append.1 h with h | h
                  · left; exact List.mem_cons_of_mem _ (List.mem_append_left _ h)
                  · rcases List.mem_append.1 h with h | h
                    · right
                      obtain ⟨f, m1, m2⟩ := hsub x h
                      exact ⟨hout x h, hr.fS x (flat_get m1 x m2), hr.fsz x (flat_get m1 x m2)⟩
                    · left; exact List.mem_cons_of_mem _ (List.mem_append_right _ (by simpa using h))) rfl
              exact ⟨S, _, _, t5⟩
            · cases ho
          · cases ho
        · cases ho
      · cases ho
  · cases ho

theorem tri_open {code : Code} {Q : Exit → St → Prop} {H' : List (Option Root)} (r e c es' : Nat) (ho : openA A.H r e c es' = some H') (h : Tri P code { A with H := H' } Q) : Tri P code A Q :=
  Tri.weak (fun _ _ _ hs => open_sat ho hs) h

theorem tri_close {code : Code} {Q : Exit → St → Prop} {A' : St} (r e c : Nat) (ho : closeA A r e c = some A') (h : Tri P code A' Q) : Tri P code A Q :=
  Tri.weak (fun _ _ _ hs => close_sat ho hs) h

end
end Go.Dl

namespace Go.Dl
open Go.RowKit

section
variable {P : Program} {Φ : Fs} {A A' : St} {Q : Exit → St → Prop}

theorem runf_cons {ops : Array Oper} {o : Oper} {os : List Oper} {A1 : St} {r : Option St} (h : xstep P Φ ops o A = some A1) (h2 : runf P Φ ops os A1 = r) : runf P Φ ops (o :: os) A = r := by
  simp only [runf, h, Option.bind_some]; exact h2

theorem runf_nil {ops : Array Oper} : runf P Φ ops [] A = some A := rfl

theorem seq_run (hΦ : FsOK P Φ) {id : Nat} {l : List Oper} {y : Code} (hok : opsOK l.toArray = true) (h : runf P Φ l.toArray l A = some A') (hk : Tri P y A' Q) : Tri P (.seq (.region id l.toArray false) y) A Q :=
  tri_seq (tri_runf hΦ hok h hk)

theorem seq_any (hm : P.follows .mixedOrders = true) (hΦ : FsOK P Φ) {id : Nat} {l : List Oper} {y : Code} (hok : opsOK l.toArray = true) (hsw : anyOK P Φ l.toArray = true) (h : runf P Φ l.toArray l A = some A') (hk : Tri P y A' Q) :
    Tri P (.seq (.region id l.toArray true) y) A Q :=
  tri_seq (tri_any hm hΦ hok (anyOK_spec hsw) h hk)

theorem run_end (hΦ : FsOK P Φ) {id : Nat} {l : List Oper} (hok : opsOK l.toArray = true) (h : runf P Φ l.toArray l A = some A') (hk : Q .normal A') : Tri P (.region id l.toArray false) A Q :=
  tri_runf hΦ hok h hk

theorem any_end (hm : P.follows .mixedOrders = true) (hΦ : FsOK P Φ) {id : Nat} {l : List Oper} (hok : opsOK l.toArray = true) (hsw : anyOK P Φ l.toArray = true) (h : runf P Φ l.toArray l A = some A') (hk : Q .normal A') :
    Tri P (.region id l.toArray true) A Q :=
  tri_any hm hΦ hok (anyOK_spec hsw) h hk

theorem seq_cond {t : Tmp} {x y z : Code} {b : Bool} (hc : A.sl[t]? = some (.c (.v (.bool b)))) (ht : b = true → Tri P x A (thenQ (fun A' => Tri P z A' Q) Q))
    (hf : b = false → Tri P y A (thenQ (fun A' => Tri P z A' Q) Q)) : Tri P (.seq (.cond (.tmp t) x y) z) A Q := tri_seq (tri_cond hc ht hf)

theorem seq_in {x z : Code} (h : Tri P x A (thenQ (fun A' => Tri P z A' Q) Q)) : Tri P (.seq x z) A Q := tri_seq h

theorem then_skip {z : Code} (h : Tri P z A Q) : Tri P .skip A (thenQ (fun A' => Tri P z A' Q) Q) := tri_skip h

theorem seq_skip {z : Code} (h : Tri P z A Q) : Tri P (.seq .skip z) A Q := tri_seq (tri_skip h)
theorem seq_ret {z : Code} (h : Q .ret A) : Tri P (.seq .ret z) A Q := tri_seq (tri_ret h)
theorem seq_exit {z : Code} {id : Nat} (h : Q (.exit id) A) : Tri P (.seq (.exit id) z) A Q := tri_seq (tri_exit h)
theorem seq_block {c z : Code} {id : Nat} (h : Tri P c A (blockQ id (thenQ (fun A' => Tri P z A' Q) Q))) : Tri P (.seq (.block id c) z) A Q := tri_seq (tri_block h)

theorem ends_ret {rs : List ResultVar} {m : Nat} {R : D → List Obj → Prop} {d : D} {ids : List Nat} {objs : List Obj} (h : outRes P A rs = some (d, ids)) (ho : outObjs A.H m = some objs) (hn : ids.Nodup)
    (hm : ∀ r ∈ ids, m ≤ r) (hQ : R d objs) : Ends P rs m R .ret A := ⟨.inl rfl, d, ids, objs, h, ho, hn, hm, hQ⟩

theorem ends_norm {rs : List ResultVar} {m : Nat} {R : D → List Obj → Prop} {d : D} {ids : List Nat} {objs : List Obj} (h : outRes P A rs = some (d, ids)) (ho : outObjs A.H m = some objs) (hn : ids.Nodup)
    (hm : ∀ r ∈ ids, m ≤ r) (hQ : R d objs) : Ends P rs m R .normal A := ⟨.inr rfl, d, ids, objs, h, ho, hn, hm, hQ⟩

end
end Go.Dl

namespace Go.Dl
open Go.RowKit

mutual
/-- The cells of a value of a type. -/
inductive Ty (P : Program) : TypeId → List C → Prop
  | bool {t b} (h : tk P t = some .bool) : Ty P t [.v (.bool b)]
  | int {t k n} (h : tk P t = some (.int k)) (hn : inR k n = true) : Ty P t [.v (.int k n)]
  | str {t s} (h : tk P t = some .str) (hs : s.size ≤ maxStr) : Ty P t [.v (.string s)]
  | slice {t e} {rows : List (List C)} (h : tk P t = some (.slice e)) (hr : ∀ r, r ∈ rows → Ty P e r) (hl : ∀ r, r ∈ rows → r.length = tsz P e) (hn : rows.length ≤ maxStr) : Ty P t [.s false (tsz P e) rows]
  | arr {t n e} {rows : List (List C)} (h : tk P t = some (.arr n e)) (hn : rows.length = n) (hr : ∀ r, r ∈ rows → Ty P e r) : Ty P t rows.flatten
  | st {t fs} {css : List (List C)} (h : tk P t = some (.st fs)) (hf : TyL P fs css) : Ty P t css.flatten
inductive TyL (P : Program) : List (TypeId × Nat) → List (List C) → Prop
  | nil : TyL P [] []
  | cons {x xs c cs} (h : Ty P x.1 c) (hr : TyL P xs cs) : TyL P (x :: xs) (c :: cs)
end

def contig (P : Program) : Nat → List (TypeId × Nat) → Option Nat
  | off, [] => some off
  | off, (t, o) :: fs => if o = off then contig P (off + tsz P t) fs else none

/-- Types of numbers, texts, slices, arrays and structs of such. -/
def plainT (P : Program) : Nat → TypeId → Bool
  | 0, _ => false
  | f + 1, t => match tk P t with
    | some .bool => true
    | some (.int _) => true
    | some .str => true
    | some (.slice e) => tsz P e != 0 && plainT P f e
    | some (.arr n e) => tsz P t == n * tsz P e && plainT P f e
    | some (.st fs) => contig P 0 fs == some (tsz P t) && fs.all fun x => plainT P f x.1
    | _ => false

def Inside (w : World) : Nat → Prop := fun b => b < w.heap.size

section
variable {P : Program} {w : World} {H : Type} {enc : TypeId × Value → H} {sp : Nat → Bool} {held : Bool}

theorem vs_join {S : Nat → Prop} {E : Env} : ∀ {a b : List C} {x y : List Value}, Rep w S E (.vs a x) [] → Rep w S E (.vs b y) [] → Rep w S E (.vs (a ++ b) (x ++ y)) [] := by
  intro a
  induction a with
  | nil => intro b x y h1 h2; cases h1; exact h2
  | cons c a ih =>
    intro b x y h1 h2
    generalize hfp : ([] : List Nat) = fp at h1
    cases h1 with
    | vcons hc hr =>
      rename_i v vs f1 f2
      have := List.append_eq_nil_iff.1 hfp.symm
      obtain ⟨rfl, rfl⟩ := this
      exact .vcons (f1 := []) (f2 := []) hc (ih hr h2)

theorem cell_lt {a : Addr} {v : Value} (h : w.cell? a = some v) : a.spot = none ∧ a.block < w.heap.size := by
  have hs := World.cell?_spot h
  refine ⟨hs, ?_⟩
  rcases Nat.lt_or_ge a.block w.heap.size with h' | h'
  · exact h'
  · simp [World.cell?, Array.getElem?_eq_none h'] at h

theorem cells_get {base : Nat} {a : Addr} {n : Nat} {vs : List Value} (h : w.cells? base a n = some vs) : vs.length = n ∧ ∀ (j : Nat) (v : Value), vs[j]? = some v → w.cell? (a.add j) = some v := by
  unfold World.cells? at h
  split at h
  · have hl := mapM_some_length h
    rw [List.length_range] at hl
    refine ⟨hl, fun j v hj => ?_⟩
    have hjn := lt_len hj
    have := mapM_some_get h j j (by rw [List.getElem?_range (by omega)])
    rw [this, hj]
  · cases h

theorem mapM_all {α β : Type} {f : α → Option β} {l : List α} {r : List β} (h : l.mapM f = some r) : ∀ x ∈ l, ∃ y, f x = some y := by
  intro x hx
  obtain ⟨i, hi⟩ := List.getElem?_of_mem hx
  have h1 := mapM_some_get h i x hi
  have h2 := mapM_some_length h
  have h3 := lt_len hi
  exact ⟨r[i]'(by omega), by rw [h1]; exact List.getElem?_eq_getElem _⟩

section
variable {fuel : Nat} {t : TypeId} {vs : List Value} {x : DataW H × List MemPlace}

theorem trod_bool (hu : P.underlying t = some .bool) (h : DataW.trod enc P w 0 sp held (fuel + 1) t vs = some x) : ∃ b, vs = [.bool b] := by
  unfold DataW.trod at h
  rw [hu] at h
  split at h <;> simp_all

theorem trod_int {k : IntKind} (hu : P.underlying t = some (.int k)) (h : DataW.trod enc P w 0 sp held (fuel + 1) t vs = some x) : ∃ n, vs = [.int k n] ∧ (Lit.int k n).wf = true := by
  unfold DataW.trod at h
  rw [hu] at h
  split at h <;> simp_all

theorem trod_str (hu : P.underlying t = some .string) (h : DataW.trod enc P w 0 sp held (fuel + 1) t vs = some x) : ∃ s, vs = [.string s] ∧ s.size ≤ maxLen := by
  unfold DataW.trod at h
  rw [hu] at h
  split at h <;> simp_all

theorem trod_slice {e : TypeId} (hu : P.underlying t = some (.slice e)) (h : DataW.trod enc P w 0 sp held (fuel + 1) t vs = some x) : vs = [.slice none 0 0] ∨
    ∃ a len cap, vs = [.slice (some a) len cap] ∧ len ≤ cap ∧ cap ≤ maxLen ∧ ∀ i, i < len → ∃ y, (w.cells? 0 (a.add (i * P.cellsOf e)) (P.cellsOf e)).bind (DataW.trod enc P w 0 sp held fuel e) = some y := by
  unfold DataW.trod at h
  rw [hu] at h
  split at h <;> try (first | (simp_all; done) | cases h)
  rename_i e' a len cap heq
  cases heq
  right
  simp only at h
  split at h
  · rename_i hc
    refine ⟨a, len, cap, rfl, hc.2.1, hc.2.2, fun i hi => ?_⟩
    cases hm : (List.range len).mapM fun i => (w.cells? 0 (a.add (i * P.cellsOf e)) (P.cellsOf e)).bind (DataW.trod enc P w 0 sp held fuel e) with
    | none => rw [hm] at h; cases h
    | some r => exact mapM_all hm i (List.mem_range.2 hi)
  · cases h

theorem trod_arr {n : Nat} {e : TypeId} (hu : P.underlying t = some (.array n e)) (h : DataW.trod enc P w 0 sp held (fuel + 1) t vs = some x) : ∀ i, i < n →
    ∃ y, DataW.trod enc P w 0 sp held fuel e ((vs.drop (i * P.cellsOf e)).take (P.cellsOf e)) = some y := by
  unfold DataW.trod at h
  rw [hu] at h
  simp only at h
  split at h
  · intro i hi
    cases hm : (List.range n).mapM fun i => DataW.trod enc P w 0 sp held fuel e ((vs.drop (i * P.cellsOf e)).take (P.cellsOf e)) with
    | none => rw [hm] at h; cases h
    | some r => exact mapM_all hm i (List.mem_range.2 hi)
  · cases h

theorem trod_st {fs : Array Field} (hu : P.underlying t = some (.struct fs)) (h : DataW.trod enc P w 0 sp held (fuel + 1) t vs = some x) : ∀ f ∈ fs.toList,
    ∃ y, DataW.trod enc P w 0 sp held fuel f.type ((vs.drop f.offset).take (P.cellsOf f.type)) = some y := by
  unfold DataW.trod at h
  rw [hu] at h
  simp only at h
  split at h
  · intro f hf
    cases hm : fs.toList.mapM fun f => DataW.trod enc P w 0 sp held fuel f.type ((vs.drop f.offset).take (P.cellsOf f.type)) with
    | none => rw [hm] at h; cases h
    | some r => exact mapM_all hm f hf
  · cases h
end

theorem wf_inR {k : IntKind} {n : Int} (h : (Lit.int k n).wf = true) : inR k n = true := by
  cases k <;> simpa [Lit.wf, IntKind.min, IntKind.max, IntKind.signed, IntKind.bits, inR] using h

theorem choose_list {α : Type} {R : Nat → α → Prop} : ∀ n : Nat, (∀ i, i < n → ∃ c, R i c) → ∃ l : List α, l.length = n ∧ ∀ (i : Nat) (c : α), l[i]? = some c → R i c
  | 0, _ => ⟨[], rfl, by simp⟩
  | n + 1, h => by
    obtain ⟨l, h1, h2⟩ := choose_list n fun i hi => h i (by omega)
    obtain ⟨c, hc⟩ := h n (by omega)
    refine ⟨l ++ [c], by simp [h1], fun i c' hi => ?_⟩
    by_cases hil : i < l.length
    · rw [List.getElem?_append_left hil] at hi; exact h2 i c' hi
    · rw [List.getElem?_append_right (by omega)] at hi
      have : i - l.length = 0 := by
        have := lt_len hi
        simp at this; omega
      rw [this] at hi
      cases hi
      rw [show i = n by omega]; exact hc

theorem rows_l {S : Nat → Prop} {E : Env} {b es : Nat} : ∀ (rows : List (List C)) (off : Nat), (∀ (i : Nat) (c : List C), rows[i]? = some c → c.length = es ∧ Rep w S E (.l true c b (off + i * es)) []) → Rep w S E (.l true rows.flatten b off) []
  | [], off, _ => .lnil
  | c :: rows, off, h => by
    obtain ⟨h1, h2⟩ := h 0 c rfl
    rw [Nat.zero_mul, Nat.add_zero] at h2
    have := rows_l rows (off + es) fun i c hc => by
      have := h (i + 1) c (by simpa using hc)
      rw [Nat.succ_mul] at this
      rwa [show off + es + i * es = off + (i * es + es) by omega]
    rw [← h1] at this
    exact h2.join this

theorem rows_vs {S : Nat → Prop} {E : Env} {es : Nat} : ∀ (rows : List (List C)) (vs : List Value), (∀ (i : Nat) (c : List C), rows[i]? = some c → Rep w S E (.vs c ((vs.drop (i * es)).take es)) []) → vs.length = rows.length * es → Rep w S E (.vs rows.flatten vs) []
  | [], vs, _, hl => by
    simp at hl
    subst hl
    exact .vnil
  | c :: rows, vs, h, hl => by
    have h0 := h 0 c rfl
    rw [Nat.zero_mul, List.drop_zero] at h0
    have := rows_vs rows (vs.drop es) (fun i c hc => by
      have := h (i + 1) c (by simpa using hc)
      rw [Nat.succ_mul] at this
      rw [List.drop_drop, show es + i * es = i * es + es by omega]
      exact this) (by rw [List.length_drop, hl, List.length_cons, Nat.succ_mul]; omega)
    have hj := vs_join h0 this
    rw [List.take_append_drop] at hj
    exact hj

/-- What is read as a datum of such a type has a reading by value. -/
theorem rep_trod : ∀ (fuel pf : Nat) (t : TypeId) (vs : List Value) (x : DataW H × List MemPlace), DataW.trod enc P w 0 sp held fuel t vs = some x → plainT P pf t = true → vs.length = tsz P t →
    ∃ cs, Rep w (Inside w) [] (.vs cs vs) [] ∧ cs.length = tsz P t ∧ cs.all C.dat = true ∧ Ty P t cs := by
  intro fuel
  induction fuel with
  | zero => intro pf t vs x h; cases h
  | succ fuel ih =>
    intro pf t vs x h hp hlen
    cases pf with
    | zero => cases hp
    | succ pf =>
      unfold plainT at hp
      split at hp
      · rename_i hk
        obtain ⟨b, rfl⟩ := trod_bool (tk_bool hk) h
        exact ⟨[.v (.bool b)], .vcons (f1 := []) (f2 := []) (.v trivial) .vnil, hlen, rfl, .bool hk⟩
      · rename_i k hk
        obtain ⟨n, rfl, hn⟩ := trod_int (tk_int hk) h
        exact ⟨[.v (.int k n)], .vcons (f1 := []) (f2 := []) (.v (wf_inR hn)) .vnil, hlen, rfl, .int hk (wf_inR hn)⟩
      · rename_i hk
        obtain ⟨s, rfl, hs⟩ := trod_str (tk_str hk) h
        exact ⟨[.v (.string s)], .vcons (f1 := []) (f2 := []) (.v hs) .vnil, hlen, rfl, .str hk hs⟩
      · rename_i e hk
        rw [Bool.and_eq_true, bne_iff_ne] at hp
        obtain ⟨hz, hpe⟩ := hp
        rcases trod_slice (tk_slice hk) h with rfl | ⟨a, len, cap, rfl, hlc, hcm, hel⟩
        · exact ⟨[.s false (tsz P e) []], .vcons (f1 := []) (f2 := []) .nilI .vnil, hlen, rfl, .slice hk (by simp) (by simp) (by simp)⟩
        · by_cases hl0 : len = 0
          · subst hl0
            exact ⟨[.s false (tsz P e) []], .vcons (f1 := []) (f2 := []) .nilI .vnil, hlen, rfl, .slice hk (by simp) (by simp) (by simp)⟩
          · have key : ∀ i, i < len → ∃ c : List C, c.length = tsz P e ∧ c.all C.dat = true ∧ Ty P e c ∧ ∃ cv : List Value, Rep w (Inside w) [] (.vs c cv) [] ∧ ∀ (j : Nat) (v : Value), cv[j]? = some v → w.cell? ((a.add (i * tsz P e)).add j) = some v := by
              intro i hi
              obtain ⟨y, hy⟩ := hel i hi
              rw [Option.bind_eq_some_iff] at hy
              obtain ⟨cv, h1, h2⟩ := hy
              obtain ⟨k1, k2⟩ := cells_get h1
              obtain ⟨c, q1, q2, q3, q4⟩ := ih pf e cv y h2 hpe k1
              exact ⟨c, q2, q3, q4, cv, q1, k2⟩
            obtain ⟨rows, r1, r2⟩ := choose_list len key
            -- where it lies
            have hfirst : ∃ b off, a = ⟨b, off, none⟩ ∧ b < w.heap.size := by
              obtain ⟨c, c1, _, _, cv, c4, c5⟩ := key 0 (by omega)
              have := vs_len c4
              have hv : ∃ v, cv[0]? = some v := ⟨cv[0]'(by omega), List.getElem?_eq_getElem _⟩
              obtain ⟨v, hv⟩ := hv
              obtain ⟨e1, e2⟩ := cell_lt (c5 0 v hv)
              obtain ⟨b, off, spot⟩ := a
              have : spot = none := by simpa [Addr.add] using e1
              subst this
              rw [addr_add, addr_add] at e2
              exact ⟨b, off, rfl, e2⟩
            obtain ⟨b, off, rfl, hb⟩ := hfirst
            have hrl : ∀ r ∈ rows, r.length = tsz P e := by
              intro r hr
              obtain ⟨i, hi⟩ := List.getElem?_of_mem hr
              exact (r2 i r hi).1
            have hrep : Rep w (Inside w) [] (.l true rows.flatten b off) [] := rows_l rows off fun i c hc => by
              obtain ⟨q1, q2, _, cv, q4, q5⟩ := r2 i c hc
              refine ⟨q1, rep_new q4 (fun _ => q2) fun j v hj => ?_⟩
              have := q5 j v hj
              rw [addr_add, addr_add] at this
              exact this
            subst r1
            refine ⟨[.s false (tsz P e) rows], .vcons (f1 := []) (f2 := []) (.imm hb hlc hrl hrep) .vnil, hlen, rfl, .slice hk ?_ hrl ?_⟩
            · intro r hr
              obtain ⟨i, hi⟩ := List.getElem?_of_mem hr
              exact (r2 i r hi).2.2.1
            · have : maxLen = maxStr := rfl
              omega
      · rename_i n e hk
        rw [Bool.and_eq_true, beq_iff_eq] at hp
        obtain ⟨hz, hpe⟩ := hp
        have hel := trod_arr (tk_arr hk) h
        have key : ∀ i, i < n → ∃ c : List C, c.length = tsz P e ∧ c.all C.dat = true ∧ Ty P e c ∧ Rep w (Inside w) [] (.vs c ((vs.drop (i * tsz P e)).take (tsz P e))) [] := by
          intro i hi
          obtain ⟨y, hy⟩ := hel i hi
          have hle : (i + 1) * tsz P e ≤ n * tsz P e := Nat.mul_le_mul_right _ hi
          rw [Nat.succ_mul] at hle
          obtain ⟨c, q1, q2, q3, q4⟩ := ih pf e _ y hy hpe (by rw [List.length_take, List.length_drop, hlen, hz]; exact Nat.min_eq_left (by unfold tsz at *; omega))
          exact ⟨c, q2, q3, q4, q1⟩
        obtain ⟨rows, r1, r2⟩ := choose_list n key
        have hrep := rows_vs rows vs (fun i c hc => (r2 i c hc).2.2.2) (by rw [hlen, hz, r1])
        refine ⟨rows.flatten, hrep, by rw [vs_len hrep, hlen], ?_, .arr hk r1 ?_⟩
        · rw [List.all_eq_true]
          intro c hc
          obtain ⟨r, h1, h2⟩ := List.mem_flatten.1 hc
          obtain ⟨i, hi⟩ := List.getElem?_of_mem h1
          exact List.all_eq_true.1 (r2 i r hi).2.1 c h2
        · intro r hr
          obtain ⟨i, hi⟩ := List.getElem?_of_mem hr
          exact (r2 i r hi).2.2.1
      · rename_i fs hk
        rw [Bool.and_eq_true, beq_iff_eq, List.all_eq_true] at hp
        obtain ⟨hz, hpe⟩ := hp
        obtain ⟨d, hu, hd⟩ := tk_some hk
        cases d <;> simp only [TK.of, reduceCtorEq, TK.st.injEq] at hd
        rename_i fs'
        have hel := trod_st hu h
        have hel' : ∀ f ∈ fs, ∃ y, DataW.trod enc P w 0 sp held fuel f.1 ((vs.drop f.2).take (tsz P f.1)) = some y := by
          intro f hf
          rw [← hd] at hf
          obtain ⟨f', k1, rfl⟩ := List.mem_map.1 hf
          exact hel f' k1
        have go : ∀ (l : List (TypeId × Nat)) (off tot : Nat), contig P off l = some tot → tot ≤ vs.length → (∀ f ∈ l, f ∈ fs) →
            ∃ css : List (List C), TyL P l css ∧ Rep w (Inside w) [] (.vs css.flatten ((vs.drop off).take (tot - off))) [] ∧ css.flatten.all C.dat = true ∧ off ≤ tot := by
          intro l
          induction l with
          | nil =>
            intro off tot hc _ _
            cases hc
            exact ⟨[], .nil, by simp only [Nat.sub_self, Z20]; exact .vnil, rfl, Nat.le_refl _⟩
          | cons f l ihl =>
            intro off tot hc ht hm
            obtain ⟨ft, fo⟩ := f
            simp only [contig] at hc
            split at hc
            · rename_i ho
              subst ho
              obtain ⟨css, q1, q2, q3, q4⟩ := ihl _ tot hc ht fun f hf => hm f (List.mem_cons_of_mem _ hf)
              obtain ⟨y, hy⟩ := hel' _ (hm _ (List.mem_cons_self ..))
              obtain ⟨c, k1, k2, k3, k4⟩ := ih pf ft _ y hy (hpe _ (hm _ (List.mem_cons_self ..))) (by show ((vs.drop fo).take (tsz P ft)).length = tsz P ft; rw [List.length_take, List.length_drop]; exact Nat.min_eq_left (by omega))
              refine ⟨c :: css, .cons k4 q1, ?_, by rw [List.flatten_cons, List.all_append, k3, q3]; rfl, by omega⟩
              have := vs_join k1 q2
              have hsplit : (vs.drop fo).take (tot - fo) = (vs.drop fo).take (tsz P ft) ++ (vs.drop (fo + tsz P ft)).take (tot - (fo + tsz P ft)) := by
                rw [show tot - fo = tsz P ft + (tot - (fo + tsz P ft)) by omega, List.take_add, List.drop_drop]
              rw [hsplit]
              exact this
            · cases hc
        obtain ⟨css, q1, q2, q3, _⟩ := go fs 0 (tsz P t) hz (by omega) (fun f hf => hf)
        rw [List.drop_zero, Nat.sub_zero, ← hlen, List.take_length] at q2
        exact ⟨css.flatten, q2, by rw [vs_len q2, hlen], q3, .st hk q1⟩
      · cases hp

end
end Go.Dl

namespace Go.Dl
open Go.RowKit Go.ChangeShapes Go.WideShapes

/-- What an argument of a type is, by value. -/
def ArgTy (P : Program) (t : TypeId) (dd : D) : Prop :=
  match tk P t with
  | some k => if k.agg = true then ∃ cs, dd = .agg cs ∧ Ty P t cs else ∃ c, dd = .c c ∧ Ty P t [c]
  | none => False

def argOK (P : Program) (t : TypeId) : Bool :=
  plainT P 20 t && match tk P t with
  | some k => k.agg || tsz P t == 1
  | none => false

section
variable {P : Program} {W : World} {H : Type} {enc : TypeId × Value → H} {sp : Nat → Bool} {held : Bool}

theorem vs_single {S : Nat → Prop} {E : Env} {cs : List C} {v : Value} (h : Rep W S E (.vs cs [v]) []) : ∃ c, cs = [c] ∧ Rep W S E (.k false c v) [] := by
  generalize hfp : ([] : List Nat) = fp at h
  cases h with
  | vcons hc hr =>
    have := List.append_eq_nil_iff.1 hfp.symm
    obtain ⟨rfl, rfl⟩ := this
    cases hr
    exact ⟨_, rfl, hc⟩

theorem arg_trod {r : Reach} {b0 : Nat} {t : TypeId} {v : Value} {d : DataW H} {ps : List MemPlace} (hok : argOK P t = true) (hval : Value.okWide P W r b0 t v) (h : DataW.Trod enc P W 0 sp held t v d ps) :
    ∃ dd, RepD W (Inside W) [] dd v ∧ ArgTy P t dd := by
  obtain ⟨fuel, hf⟩ := h
  unfold argOK at hok
  rw [Bool.and_eq_true] at hok
  obtain ⟨hp, hk⟩ := hok
  unfold ArgTy
  have scal : ∀ k, tk P t = some k → k.agg = false → v.cells.toList = [v] → ∃ dd, RepD W (Inside W) [] dd v ∧ ∃ c, dd = .c c ∧ Ty P t [c] := by
    intro k h1 h2 h3
    rw [h1] at hk
    simp only [h2, Bool.false_or, beq_iff_eq] at hk
    rw [h3] at hf
    obtain ⟨cs, q1, q2, _, q4⟩ := rep_trod fuel 20 t [v] _ hf hp (by rw [hk]; rfl)
    obtain ⟨c, rfl, q5⟩ := vs_single q1
    exact ⟨.c c, .c q5, c, rfl, q4⟩
  have aggr : ∀ arr : Array Value, v = .agg arr → arr.size = tsz P t → ∃ dd, RepD W (Inside W) [] dd v ∧ ∃ cs, dd = .agg cs ∧ Ty P t cs := by
    rintro arr rfl hs
    obtain ⟨cs, q1, q2, _, q4⟩ := rep_trod fuel 20 t arr.toList _ hf hp (by simpa using hs)
    exact ⟨.agg cs, .agg q1, cs, rfl, q4⟩
  unfold plainT at hp
  split at hp
  · rename_i h1
    rw [h1]
    obtain ⟨b, rfl⟩ := okWide_bool (tk_bool h1) hval
    simpa [TK.agg] using scal _ h1 rfl rfl
  · rename_i k h1
    rw [h1]
    obtain ⟨n, rfl⟩ := okWide_int (tk_int h1) hval
    simpa [TK.agg] using scal _ h1 rfl rfl
  · rename_i h1
    rw [h1]
    obtain ⟨n, rfl⟩ := okWide_string (tk_str h1) hval
    simpa [TK.agg] using scal _ h1 rfl rfl
  · rename_i e h1
    rw [h1]
    obtain ⟨a, l, c, rfl⟩ := okWide_slice (tk_slice h1) hval
    simpa [TK.agg] using scal _ h1 rfl rfl
  · rename_i n e h1
    rw [h1]
    have hu := tk_arr h1
    unfold Value.okWide at hval
    rw [hu] at hval
    obtain ⟨arr, h2, h3, _⟩ := hval
    simpa [TK.agg] using aggr arr h2 h3
  · rename_i fs h1
    rw [h1]
    obtain ⟨dd, hu, hd⟩ := tk_some h1
    cases dd <;> simp only [TK.of, reduceCtorEq, TK.st.injEq] at hd
    unfold Value.okWide at hval
    rw [hu] at hval
    obtain ⟨arr, h2, h3, _⟩ := hval
    simpa [TK.agg] using aggr arr h2 h3
  · cases hp

theorem law_bool {k : FuncId} {F : List D → Option D} (hm : Meets P k (pureS F)) {vs : Array Value} {args : List D} {b : Bool} (hlen : args.length = vs.size)
    (hr : ∀ (i : Nat) (d : D), args[i]? = some d → RepD W (Inside W) [] d (vs.getD i undef)) (hF : F args = some (dB b)) :
    Calls P k vs W fun e W' => e = .returned (.bool b) ∧ Below W.heap.size W W' := by
  refine (hm args [] (fun d os => d = dB b ∧ os = []) ⟨rfl, _, hF, rfl, rfl⟩ W (Inside W) vs [] [] hlen hr ⟨rfl, rfl, by simp⟩ (by simp) (by simp) (fun _ h => h)).mono ?_
  rintro e W' ⟨v, d, os, rfl, ⟨rfl, rfl⟩, _, hl⟩
  obtain ⟨S', pls', fps', fpd, _, _, h3, _⟩ := hl.rest
  have hv : v = .bool b := by
    have h3 : Rep W' S' [] (.k false (.v (.bool b)) v) fpd := h3
    cases h3
    rfl
  subst hv
  exact ⟨rfl, hl.os, hl.tape, hl.output.1, hl.size, fun j hj => hl.keep j hj (by simp)⟩

end
end Go.Dl

namespace Go.Dl
open Go.RowKit

section
variable {P : Program} {g : G} {S : Nat → Prop} {E : Env} {F : List (List Nat)} {A : St} {a : Act} {w : World}

def nilA (A : St) (t es : Nat) : Option St :=
  match A.sl[t]? with
  | some (.c (.s true _ [])) => some ⟨A.sl.set t (.c (.h A.H.length 0 0)), A.H ++ [some ⟨true, es, []⟩]⟩
  | _ => none

theorem nil_sat {A' : St} {t es : Nat} (ho : nilA A t es = some A') (hs : Sat g A a w) : Sat g A' a w := by
  obtain ⟨S, E, F, hr⟩ := hs
  unfold nilA at ho
  split at ho
  · rename_i es0 ht
    cases ho
    have hv := hr.sl t _ ht
    generalize hval : a.tmps.getD t undef = v at hv
    have hn : ∃ ad, v = .slice ad 0 0 := by
      cases hv with
      | c h =>
        generalize hfp : ([] : List Nat) = fp at h
        cases h with
        | nilO => exact ⟨_, rfl⟩
        | own _ _ _ _ _ => cases hfp
    obtain ⟨ad, rfl⟩ := hn
    have h1 := hr.addRoot (R := ⟨true, es, []⟩) (p := ⟨none, es, 0, 0⟩) (f := []) ⟨rfl, rfl, Nat.le_refl _, by simp, rfl, rfl, rfl⟩ .nil (by simp)
    have h2 : RepD w S (E ++ [some ⟨none, es, 0, 0⟩]) (.c (.h A.H.length 0 0)) (.slice ad 0 0) := by
      refine .c (.h (by simp [hr.lE]) fun pl hpl => ?_)
      rw [← hr.lE, List.getElem?_append_right (Nat.le_refl _), Nat.sub_self] at hpl
      cases hpl
      exact ⟨Nat.le_refl _, ad, rfl⟩
    refine ⟨S, _, _, { h1 with len := by rw [List.length_set]; exact hr.len, sl := ?_ }⟩
    intro i d hd
    rw [List.getElem?_set] at hd
    split at hd
    · rename_i hti
      subst hti
      rw [if_pos (lt_len ht)] at hd
      cases hd
      rw [hval]; exact h2
    · exact h1.sl i d hd
  · cases ho

theorem tri_nil {code : Code} {Q : Exit → St → Prop} {A' : St} (t es : Nat) (ho : nilA A t es = some A') (h : Tri P code A' Q) : Tri P code A Q :=
  Tri.weak (fun _ _ _ hs => nil_sat ho hs) h

end
end Go.Dl

namespace Go.Dl
open Go.RowKit

/-- An empty slice, said of elements of a size. -/
def C.fixes (n : Nat) : C → C
  | .s false _ [] => .s false n []
  | c => c

def D.fixes (n : Nat) : D → D
  | .c y => .c (y.fixes n)
  | .agg xs => .agg (xs.map (C.fixes n))
  | d => d

section
variable {P : Program} {w : World} {S : Nat → Prop} {E : Env}

theorem rep_fixes (n : Nat) {dat : Bool} {c : C} {v : Value} {fp : List Nat} (h : Rep w S E (.k dat c v) fp) : Rep w S E (.k dat (c.fixes n) v) fp := by
  unfold C.fixes
  split
  · cases h with
    | nilI => exact .nilI
    | imm _ _ _ _ => exact .nilI
  · exact h

theorem reps_fixes (n : Nat) : ∀ {cs : List C} {vs : List Value} {fp : List Nat}, Rep w S E (.vs cs vs) fp → Rep w S E (.vs (cs.map (C.fixes n)) vs) fp
  | [], _, _, h => by cases h; exact .vnil
  | c :: cs, _, _, h => by
    cases h with
    | vcons h1 h2 => exact .vcons (rep_fixes n h1) (reps_fixes n h2)

theorem repD_fixes (n : Nat) {d : D} {v : Value} (h : RepD w S E d v) : RepD w S E (d.fixes n) v := by
  cases d with
  | c y =>
    cases h with
    | c h => exact .c (rep_fixes n h)
  | agg xs =>
    obtain ⟨arr, rfl, h1⟩ := agg_inv h
    exact .agg (reps_fixes n h1)
  | top => exact h
  | q xs => exact h
  | t ds => exact h

theorem args_fixes (n : Nat) {args : List D} {vs : Array Value} (h : ∀ (i : Nat) (d : D), args[i]? = some d → RepD w S E d (vs.getD i undef)) :
    ∀ (i : Nat) (d : D), (args.map (D.fixes n))[i]? = some d → RepD w S E d (vs.getD i undef) := by
  intro i d hd
  rw [List.getElem?_map, Option.map_eq_some_iff] at hd
  obtain ⟨d', h1, rfl⟩ := hd
  exact repD_fixes n (h i d' h1)

theorem meets_fixes {k : FuncId} {spec : Spec} (n : Nat) (h : Meets P k spec) : Meets P k (fun args objs Q => spec (args.map (D.fixes n)) objs Q) := by
  intro args objs Q hs w S vs pls fps hl ha
  exact h _ objs Q hs w S vs pls fps (by rw [List.length_map]; exact hl) (args_fixes n ha)

theorem pure_fixes {k : FuncId} {f : List D → Option D} (n : Nat) (h : Meets P k (pureS f)) : Meets P k (pureS fun args => f (args.map (D.fixes n))) :=
  meets_fixes n h

theorem det_fixes {k : FuncId} {f : List D → List Obj → Option (D × List Obj)} (n : Nat) (h : Meets P k (detS f)) : Meets P k (detS fun args => f (args.map (D.fixes n))) :=
  meets_fixes n h

end
end Go.Dl

namespace Go.Dl
open Go.RowKit

section
variable {P : Program} {Φ : Fs}

/-- One operation of a region, and all that it may leave. -/
def GStep (P : Program) (ops : Array Oper) (o : Oper) (A : St) (R : St → Prop) : Prop :=
  ∀ (i : Nat), ops[i]? = some o → ∀ g a w, Sat g A a w → ∀ (Q : Exit → Act → World → Prop) (K : Act → World → Prop), (∀ A' a' w', R A' → Sat g A' a' w' → K a' w') → wpOp P ops Q i K a w

def RunR (P : Program) (ops : Array Oper) : List Oper → St → (St → Prop) → Prop
  | [], A, K => K A
  | o :: os, A, K => GStep P ops o A (fun A' => RunR P ops os A' K)

theorem rr_nil {ops : Array Oper} {A : St} {K : St → Prop} (h : K A) : RunR P ops [] A K := h

theorem rr_det (hΦ : FsOK P Φ) {ops : Array Oper} {o : Oper} {os : List Oper} {A A1 : St} {K : St → Prop} (hop : o.op.operands.toList.all opdOK = true) (h : xstep P Φ ops o A = some A1) (hk : RunR P ops os A1 K) :
    RunR P ops (o :: os) A K := by
  intro i hi g a w hs Q K' hK
  exact xstep_wp hΦ hi hop h hs fun a' w' hs' => hK A1 a' w' hk hs'

theorem rr_step {ops : Array Oper} {o : Oper} {os : List Oper} {A : St} {R K : St → Prop} (hg : o.guard = none) (h : Step P o A R) (hk : ∀ A', R A' → RunR P ops os A' K) : RunR P ops (o :: os) A K := by
  intro i hi g a w hs Q K' hK
  unfold wpOp
  simp only [hi, Region.wanted, hg, if_true]
  exact .inl (h g a w hs _ _ fun A1 a' w' hR hs' => hK A1 a' w' (hk A1 hR) hs')

theorem runR_ops {ops : Array Oper} {g : G} {Q : Exit → Act → World → Prop} {K : St → Prop} (hQ : ∀ A' a' w', K A' → Sat g A' a' w' → Q .normal a' w') :
    ∀ (n i : Nat) (A : St) (a : Act) (w : World), i + n = ops.size → RunR P ops (ops.toList.drop i) A K → Sat g A a w → wpOps P ops Q (List.range' i n) a w := by
  intro n
  induction n with
  | zero =>
    intro i A a w hn h hs
    rw [List.drop_eq_nil_of_le (by simp; omega)] at h
    exact hQ A a w h hs
  | succ n ih =>
    intro i A a w hn h hs
    have hi : i < ops.toList.length := by simp; omega
    rw [List.drop_eq_getElem_cons hi] at h
    have ho : ops[i]? = some ops.toList[i] := by simp
    rw [List.range'_succ, wpOps_cons]
    exact h i ho g a w hs _ _ fun A1 a' w' h1 hs' => ih (i + 1) A1 a' w' (by omega) h1 hs'

theorem tri_runR {id : Nat} {l : List Oper} {A : St} {Q : Exit → St → Prop} (h : RunR P l.toArray l A (fun A' => Q .normal A')) : Tri P (.region id l.toArray false) A Q := by
  intro g a w hs
  refine wp_region ?_
  rw [List.range_eq_range']
  exact runR_ops (K := fun A' => Q .normal A') (fun A' a' w' hk hs' => ⟨A', hs', hk⟩) l.toArray.size 0 A a w (by omega) (by simpa using h) hs

theorem seq_runR {id : Nat} {l : List Oper} {y : Code} {A : St} {Q : Exit → St → Prop} (h : RunR P l.toArray l A (fun A' => Tri P y A' Q)) : Tri P (.seq (.region id l.toArray false) y) A Q :=
  tri_seq (tri_runR h)

/-- An operation that gives one scalar, of which something is said. -/
theorem step_gen {o : Oper} {A : St} {T : Value → Prop} (hop : o.op.operands.toList.all opdOK = true)
    (hrun : ∀ (e : Operand → Value) (w : World) (S : Nat → Prop) (E : Env), (∀ x ∈ o.op.operands.toList, ∀ d, A.ev x = some d → RepD w S E d (e x)) → (∀ v, e (.const v) = v) → (∀ k, e (.func k) = .func (.func k) #[] #[]) →
      ∃ v w', (execOp e o).run P w = .ok (.value v) w' ∧ (w' = w ∨ w' = { w with drawn := w.drawn + 1 }) ∧ Sc v ∧ T v) :
    Step P o A (fun A' => ∃ v, T v ∧ Sc v ∧ A' = A.put o.dst (.c (.v v))) := by
  intro g a w ⟨S, E, F, hr⟩ next Q hn
  obtain ⟨v, w', h1, h2, h3, h4⟩ := hrun a.eval w S E (fun x hx d hd => ev_rep hr (List.all_eq_true.1 hop x hx) hd) (fun _ => rfl) (fun _ => rfl)
  unfold Oper.wp
  rw [h1]
  rcases h2 with rfl | rfl
  · exact hn _ _ _ ⟨v, h4, h3, rfl⟩ ⟨S, E, F, hr.put (.c (.v h3))⟩
  · exact hn _ _ _ ⟨v, h4, h3, rfl⟩ ⟨S, E, F, (hr.drawn _ (Nat.le_succ _)).put (.c (.v h3))⟩

theorem sc_of {w : World} {S : Nat → Prop} {E : Env} {x v : Value} (h : RepD w S E (.c (.v x)) v) : v = x := by
  cases h with
  | c h => cases h; rfl

theorem eqIn_slice {w : World} {t e : TypeId} {d : Nat} (hu : P.underlying t = some (.slice e)) (a : Option Addr) (l c : Nat) : (Op.equalIn (d + 1) t (.slice a l c) (.slice none 0 0)).run P w = .ok a.isNone w := by
  cases a <;> simp [Op.equalIn, run_und hu]

/-- Whether a slice is nil, of which only the elements are known. -/
theorem nil_eq {w : World} {S : Nat → Prop} {E : Env} {t e : TypeId} {n : Nat} {rows : List (List C)} {v : Value} (hk : tk P t = some (.slice e)) (h : RepD w S E (.c (.s false n rows)) v) :
    ∃ b, (binOp .eql t v (.slice none 0 0)).run P w = .ok (.bool b) w ∧ (b = true → rows = []) := by
  have hu : P.underlying t = some (.slice e) := by
    obtain ⟨d, h1, h2⟩ := tk_some hk
    cases d <;> simp [TK.of] at h2
    subst h2; exact h1
  have run : ∀ (a : Option Addr) (l c : Nat), (binOp .eql t (.slice a l c) (.slice none 0 0)).run P w = .ok (.bool a.isNone) w := by
    intro a l c
    refine run_binOp_eql (by simp [plainEq]) ?_
    rw [equal_succ]
    exact eqIn_slice hu a l c
  cases h with
  | c h => cases h with
    | nilI => exact ⟨_, run _ _ _, fun _ => rfl⟩
    | imm _ _ _ _ => exact ⟨_, run _ _ _, fun h => by cases h⟩

theorem step_nil {o : Oper} {A : St} {t e yt : TypeId} {x : Operand} {n : Nat} {rows : List (List C)} (ho : o.op = .binOp .eql t x (.const (.slice none 0 0)) yt) (hop : o.op.operands.toList.all opdOK = true)
    (hk : tk P t = some (.slice e)) (hx : A.ev x = some (.c (.s false n rows))) : Step P o A (fun A' => ∃ b : Bool, (b = true → rows = []) ∧ A' = A.put o.dst (.c (.v (.bool b)))) := by
  intro g a w hs next Q hn
  refine step_gen (T := fun v => ∃ b : Bool, v = .bool b ∧ (b = true → rows = [])) hop ?_ g a w hs next Q fun A' a' w' h => ?_
  · intro e' w S E he hc _
    have hv := he x (by simp [ho, Op.operands]) _ hx
    obtain ⟨b, h1, h2⟩ := nil_eq hk hv
    refine ⟨.bool b, w, ?_, .inl rfl, trivial, b, rfl, h2⟩
    have hg : (eqGuard .eql t x (.const (.slice none 0 0)) (e' x) (.slice none 0 0)).run P w = .ok () w := run_eqGuard (by simp) (by simp)
    simp only [execOp, ho, hc, Sem.run_bind, hg, h1, Result.andThen_ok, Sem.run_pure]
  · obtain ⟨v, ⟨b, rfl, h2⟩, _, rfl⟩ := h
    exact hn _ _ _ ⟨b, h2, rfl⟩

/-- A call of which not all is said; its result is one scalar. -/
theorem step_callV {o : Oper} {c : Call} {A : St} {T : Value → Prop} {k : FuncId} {caps : List C} {f : Operand} {ds ds' : List D} {B : List Nat} {spec : Spec}
    (ho : o.op = .call c) (hop : o.op.operands.toList.all opdOK = true) (hc : c.callee = .value f) (hf : A.ev f = some (.c (.f k caps))) (hk : callable P k = true) (hds : evsA A c.args.toList = some ds)
    (harg : argDs A.H [] (ds ++ caps.map .c) = some (ds', B)) (hm : Meets P k spec) (hs : spec ds' [] (fun d os => os = [] ∧ ∃ v, T v ∧ d = .c (.v v))) :
    Step P o A (fun A' => ∃ v, T v ∧ A' = A.put o.dst (.c (.v v))) := by
  refine step_call ho hop hc hf hk hds harg .nil (objs := []) rfl hm hs ?_
  rintro _ _ ⟨rfl, v, hv, rfl⟩ _
  exact ⟨.inr ⟨rfl, by simp⟩, v, hv, rfl⟩

/-- A map that is made. -/
theorem step_map {o : Oper} {A : St} {t : TypeId} (ho : o.op = .makeMap t none) : Step P o A (fun A' => A' = A.put o.dst (.c .m)) := by
  intro g a w ⟨S, E, F, hr⟩ next Q hn
  have h1 : (execOp a.eval o).run P w = .ok (.value (.map (some w.heap.size))) { w with heap := w.heap.push (.map #[] 0) } := by
    simp only [execOp, ho, Z11, Instr.makeMap, newObj]
    simp [Sem.run_bind, Sem.run_pure, Sem.run, Result.andThen]
  unfold Oper.wp
  rw [h1]
  have hlt : ∀ b, b < w.heap.size → (w.heap.push (.map #[] 0))[b]? = w.heap[b]? := fun b hb => by
    rw [Array.getElem?_push, if_neg (by omega)]
  have hr' : Rel g S E F A a { w with heap := w.heap.push (.map #[] 0) } := by
    refine hr.world (fun b hb => hlt b ?_) (fun b hb _ => hlt b (Nat.lt_of_lt_of_le hb hr.size)) (by simp) rfl rfl (.rf _)
    rcases hb with h | h
    · exact (hr.Ssz b h).1
    · exact (hr.fsz b h).1
  exact hn _ _ _ rfl ⟨S, E, F, hr'.put (.c .m)⟩


theorem rr_gen {ops : Array Oper} {o : Oper} {os : List Oper} {A : St} {K : St → Prop} {T : Value → Prop} (hg : o.guard = none) (hop : o.op.operands.toList.all opdOK = true)
    (hrun : ∀ (e : Operand → Value) (w : World) (S : Nat → Prop) (E : Env), (∀ x ∈ o.op.operands.toList, ∀ d, A.ev x = some d → RepD w S E d (e x)) → (∀ v, e (.const v) = v) → (∀ k, e (.func k) = .func (.func k) #[] #[]) →
      ∃ v w', (execOp e o).run P w = .ok (.value v) w' ∧ (w' = w ∨ w' = { w with drawn := w.drawn + 1 }) ∧ Sc v ∧ T v)
    (hk : ∀ v, T v → RunR P ops os (A.put o.dst (.c (.v v))) K) : RunR P ops (o :: os) A K :=
  rr_step hg (step_gen hop hrun) (by rintro _ ⟨v, h1, _, rfl⟩; exact hk v h1)

theorem rr_isnil {ops : Array Oper} {o : Oper} {os : List Oper} {A : St} {K : St → Prop} {t e yt : TypeId} {x : Operand} {n : Nat} {rows : List (List C)} (hg : o.guard = none) (ho : o.op = .binOp .eql t x (.const (.slice none 0 0)) yt)
    (hop : o.op.operands.toList.all opdOK = true) (hk : tk P t = some (.slice e)) (hx : A.ev x = some (.c (.s false n rows))) (h : ∀ b : Bool, (b = true → rows = []) → RunR P ops os (A.put o.dst (.c (.v (.bool b)))) K) : RunR P ops (o :: os) A K :=
  rr_step hg (step_nil ho hop hk hx) (by rintro _ ⟨b, h1, rfl⟩; exact h b h1)

theorem rr_callV {ops : Array Oper} {o : Oper} {os : List Oper} {A : St} {K : St → Prop} {c : Call} {T : Value → Prop} {k : FuncId} {caps : List C} {f : Operand} {ds ds' : List D} {B : List Nat} {spec : Spec}
    (hg : o.guard = none) (ho : o.op = .call c) (hop : o.op.operands.toList.all opdOK = true) (hc : c.callee = .value f) (hf : A.ev f = some (.c (.f k caps))) (hk : callable P k = true) (hds : evsA A c.args.toList = some ds)
    (harg : argDs A.H [] (ds ++ caps.map .c) = some (ds', B)) (hm : Meets P k spec) (hs : spec ds' [] (fun d os => os = [] ∧ ∃ v, T v ∧ d = .c (.v v)))
    (h : ∀ v, T v → RunR P ops os (A.put o.dst (.c (.v v))) K) : RunR P ops (o :: os) A K :=
  rr_step hg (step_callV ho hop hc hf hk hds harg hm hs) (by rintro _ ⟨v, h1, rfl⟩; exact h v h1)

theorem rr_map {ops : Array Oper} {o : Oper} {os : List Oper} {A : St} {K : St → Prop} {t : TypeId} (hg : o.guard = none) (ho : o.op = .makeMap t none) (h : RunR P ops os (A.put o.dst (.c .m)) K) : RunR P ops (o :: os) A K :=
  rr_step hg (step_map ho) (by rintro _ rfl; exact h)

/-- A contract at one input. -/
noncomputable def one (a : List D) (o : List Obj) (r : D × List Obj) : List D → List Obj → Option (D × List Obj) := by
  classical exact fun args objs => if args = a ∧ objs = o then some r else none
noncomputable def oneP (a : List D) (r : D) : List D → Option D := by
  classical exact fun args => if args = a then some r else none

theorem one_eq (a : List D) (o : List Obj) (r : D × List Obj) : one a o r a o = some r := by unfold one; rw [if_pos ⟨rfl, rfl⟩]
theorem oneP_eq (a : List D) (r : D) : oneP a r a = some r := by unfold oneP; rw [if_pos rfl]
theorem one_inv {a : List D} {o : List Obj} {r z : D × List Obj} {args : List D} {objs : List Obj} (h : one a o r args objs = some z) : args = a ∧ objs = o ∧ z = r := by
  unfold one at h
  split at h
  · rename_i hc; cases h; exact ⟨hc.1, hc.2, rfl⟩
  · cases h
theorem oneP_inv {a : List D} {r z : D} {args : List D} (h : oneP a r args = some z) : args = a ∧ z = r := by
  unfold oneP at h
  split at h
  · rename_i hc; cases h; exact ⟨hc, rfl⟩
  · cases h

/-- The first of several contracts that speaks. -/
def orP (f g : List D → Option D) (args : List D) : Option D := match f args with
  | some d => some d
  | none => g args

theorem meets_or {k : FuncId} {f g : List D → Option D} (h1 : Meets P k (pureS f)) (h2 : Meets P k (pureS g)) : Meets P k (pureS (orP f g)) := by
  intro args objs Q hs
  obtain ⟨rfl, d, hd, hQ⟩ := hs
  unfold orP at hd
  split at hd
  · rename_i d' hf
    cases hd
    exact h1 args [] Q ⟨rfl, _, hf, hQ⟩
  · exact h2 args [] Q ⟨rfl, d, hd, hQ⟩


end
end Go.Dl
