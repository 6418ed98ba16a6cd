/- 'Dl', part Zd: a slice that an object holds, taken out and put back. -/
import Derived.Test.YtdhlelineoggkaaDlZc
namespace Go.Dl
open Go.RowKit

section
variable {P : Program} {g : G} {S : Nat → Prop} {E : Env} {F : List (List Nat)} {A : St} {a : Act} {w : World}

/-- Another reading of a root, the world as it was. -/
theorem Rel.refoot (hr : Rel g S E F A a w) {r : Nat} {R R' : Root} {p : Pl} {f f' : List Nat} (hR : A.H[r]? = some (some R)) (hE : E[r]? = some (some p)) (hF : F[r]? = some f)
    (hR' : RootAt w S E R' p f') (hf' : f'.Nodup) (hnew : ∀ b ∈ f', b ∈ f ∨ (b ∉ F.flatten ∧ ¬ S b ∧ b < w.heap.size ∧ (b ∈ g.own ∨ g.w0.heap.size ≤ b))) (hdd : R'.dat = R.dat) :
    Rel g S E (F.set r f') { A with H := A.H.set r (some R') } a w := by
  obtain ⟨xs, ys, e1, e2⟩ := flatten_set (f' := f') hF
  have hn := hr.nodup
  rw [e1] at hn
  have n1 := List.nodup_append.1 hn
  have n2 := List.nodup_append.1 n1.2.1
  have memF : ∀ b, b ∈ (F.set r f').flatten → b ∈ F.flatten ∨ (b ∈ f' ∧ b ∉ f) := by
    intro b hb
    rw [e2, List.mem_append, List.mem_append] at hb
    rw [e1, List.mem_append, List.mem_append]
    rcases hb with h | h | h
    · exact .inl (.inl h)
    · by_cases hbf : b ∈ f
      · exact .inl (.inr (.inl hbf))
      · exact .inr ⟨h, hbf⟩
    · exact .inl (.inr (.inr h))
  refine { len := hr.len, sl := hr.sl, defers := hr.defers, lE := by simp [hr.lE], lF := by simp [hr.lF], root := ?_, dead := ?_, nodup := ?_, fS := ?_, fsz := ?_, Ssz := hr.Ssz, S0 := hr.S0, prot := hr.prot, size := hr.size, os := hr.os, tape := hr.tape, output := hr.output, fix := ?_ }
  · intro i R1 h
    rw [List.getElem?_set] at h
    split at h
    · rename_i hri; subst hri
      rw [if_pos (lt_len hR)] at h
      cases h
      exact ⟨p, f', hE, by rw [List.getElem?_set_self (lt_len hF)], hR'⟩
    · rename_i hri
      obtain ⟨p1, f1, h1, h2, h3⟩ := hr.root i R1 h
      exact ⟨p1, f1, h1, by rw [List.getElem?_set_ne hri]; exact h2, h3⟩
  · intro i h
    rw [List.getElem?_set] at h
    split at h
    · rename_i hri; subst hri
      rw [if_pos (lt_len hR)] at h; cases h
    · rename_i hri
      obtain ⟨h1, h2⟩ := hr.dead i h
      exact ⟨h1, by rw [List.getElem?_set_ne hri]; exact h2⟩
  · rw [e2]
    have key : ∀ b, b ∈ f' → b ∉ xs ∧ b ∉ ys := by
      intro b hb
      rcases hnew b hb with h | ⟨h, _⟩
      · refine ⟨fun hx => n1.2.2 b hx b (List.mem_append_left _ h) rfl, fun hy => n2.2.2 b h b hy rfl⟩
      · rw [e1] at h
        refine ⟨fun hx => h (List.mem_append_left _ hx), fun hy => h (List.mem_append_right _ (List.mem_append_right _ hy))⟩
    refine List.nodup_append.2 ⟨n1.1, List.nodup_append.2 ⟨hf', n2.2.1, fun x hx y hy hxy => (key x hx).2 (hxy ▸ hy)⟩, ?_⟩
    intro x hx y hy hxy
    subst hxy
    rcases List.mem_append.1 hy with h | h
    · exact (key x h).1 hx
    · exact n1.2.2 x hx x (List.mem_append_right _ h) rfl
  · intro b hb
    rcases memF b hb with h | ⟨h, hbf⟩
    · exact hr.fS b h
    · rcases hnew b h with h | h
      · exact absurd h hbf
      · exact h.2.1
  · intro b hb
    rcases memF b hb with h | ⟨h, hbf⟩
    · exact hr.fsz b h
    · rcases hnew b h with h | h
      · exact absurd h hbf
      · exact h.2.2
  · intro i q hq
    obtain ⟨h1, h2⟩ := hr.fix i q hq
    refine ⟨by simpa using h1, fun R1 hR1 => ?_⟩
    rw [List.getElem?_set] at hR1
    split at hR1
    · rename_i hri; subst hri
      rw [if_pos (lt_len hR)] at hR1
      cases hR1
      obtain ⟨k1, k2⟩ := h2 R hR
      exact ⟨hdd.trans k1, k2⟩
    · exact h2 R1 hR1

/-- One cell of an object by itself. -/
theorem Rel.cellAt (hr : Rel g S E F A a w) {r e c : Nat} {R : Root} {row : List C} {c0 : C} (hR : A.H[r]? = some (some R)) (hd : R.dat = false) (hrow : R.rows[e]? = some row) (hc : row[c]? = some c0) :
    ∃ (v : Value) (fc f1 f3 : List Nat) (b : Nat) (p : Pl), E[r]? = some (some p) ∧ F[r]? = some (b :: (f1 ++ (fc ++ f3))) ∧ Rep w S E (.k false c0 v) fc ∧ (b :: (f1 ++ (fc ++ f3))).Nodup ∧
      (∃ off, p.at? = some (b, off) ∧ w.cell? ⟨b, off + (e * R.es + c), none⟩ = some v) ∧
      ∀ (c1 : C) (fc1 : List Nat), Rep w S E (.k false c1 v) fc1 → RootAt w S E ⟨false, R.es, R.rows.set e (row.set c c1)⟩ p (b :: (f1 ++ (fc1 ++ f3))) := by
  obtain ⟨p, f, h1, h2, g1, g2, g3, g4, g5⟩ := hr.root r R hR
  have hnd := nodup_at hr.nodup h2
  cases hat : p.at? with
  | none =>
    rw [hat] at g5
    rw [g5.1] at hrow
    cases hrow
  | some bo =>
    obtain ⟨b, off⟩ := bo
    rw [hat] at g5
    obtain ⟨fr, rfl, hown, hrep⟩ := g5
    obtain ⟨xs, ys, e1, e2, e3, e4⟩ := flatten_split g4 e row hrow
    have hcl := lt_len hc
    have hrowsplit : row = row.take c ++ (c0 :: row.drop (c + 1)) := by
      rw [List.getElem?_eq_getElem hcl] at hc
      cases hc
      rw [List.getElem_cons_drop, List.take_append_drop]
    have hsplit : R.rows.flatten = (xs ++ row.take c) ++ (c0 :: (row.drop (c + 1) ++ ys)) := by
      rw [e1]; conv => lhs; rw [hrowsplit]
      simp
    rw [hd, hsplit] at hrep
    obtain ⟨f1, f23, rfl, r1, r2⟩ := hrep.append
    cases r2 with
    | lcons hv hcc hrest =>
      rename_i v fc f3
      refine ⟨v, fc, f1, f3, b, p, h1, h2, hcc, hnd, ⟨off, hat, ?_⟩, ?_⟩
      · rw [List.length_append, e2, List.length_take, Nat.min_eq_left (by omega)] at hv
        exact hv
      intro c1 fc1 hc1
      have hrl : (row.set c c1).length = R.es := by rw [List.length_set]; exact g4 row (List.mem_of_getElem? hrow)
      refine ⟨g1, by simp [g2], g3, ?_, ?_⟩
      · intro r' hr'
        rcases List.mem_or_eq_of_mem_set hr' with h | h
        · exact g4 r' h
        · rw [h]; exact hrl
      · rw [hat]
        refine ⟨f1 ++ (fc1 ++ f3), rfl, hown, ?_⟩
        have hnew : (R.rows.set e (row.set c c1)).flatten = (xs ++ row.take c) ++ (c1 :: (row.drop (c + 1) ++ ys)) := by
          rw [List.set_eq_take_append_cons_drop, if_pos (lt_len hrow), List.flatten_append, List.flatten_cons, ← e3, ← e4, List.set_eq_take_append_cons_drop, if_pos hcl]
          simp
        show Rep w S E (.l false (R.rows.set e (row.set c c1)).flatten b off) _
        rw [hnew]
        exact r1.join (.lcons hv hc1 hrest)

def openA (H : List (Option Root)) (r e c es' : Nat) : Option (List (Option Root)) :=
  match H[r]? with
  | some (some R) => if R.dat = true then none else match R.rows[e]? with
    | some row => match row[c]? with
      | some (.s true es rows) => if es = es' ∨ (es = 0 ∧ rows.isEmpty = true) then
          some (H.set r (some ⟨false, R.es, R.rows.set e (row.set c (.h H.length 0 rows.length))⟩) ++ [some ⟨true, es', rows⟩]) else none
      | _ => none
    | none => none
  | _ => none

theorem open_sat {H' : List (Option Root)} {r e c es' : Nat} (ho : openA A.H r e c es' = some H') (hs : Sat g A a w) : Sat g { A with H := H' } a w := by
  obtain ⟨S, E, F, hr⟩ := hs
  unfold openA at ho
  split at ho
  · rename_i R hR
    split at ho
    · cases ho
    · rename_i hd
      have hd : R.dat = false := by simpa using hd
      split at ho
      · rename_i row hrow
        split at ho
        · rename_i es rows hc
          split at ho
          · rename_i hes
            cases ho
            obtain ⟨v, fc, f1, f3, b, p, h1, h2, h3, h4, ⟨off, ha, hv⟩, h5⟩ := hr.cellAt hR hd hrow hc
            -- the slice at the element size asked for
            have h3' : Rep w S E (.k false (.s true es' rows) v) fc := by
              rcases hes with rfl | ⟨rfl, he⟩
              · exact h3
              · rw [List.isEmpty_iff] at he
                subst he
                cases h3 with
                | nilO => exact .nilO
                | own hz _ _ _ _ => exact absurd rfl hz
            -- the cell forgotten
            have q1 := hr.refoot (f' := b :: (f1 ++ ([] ++ f3))) hR h1 h2 (h5 .x [] .x) (by
              have n := List.nodup_cons.1 h4
              have m := List.nodup_append.1 n.2
              have m2 := List.nodup_append.1 m.2.1
              refine List.nodup_cons.2 ⟨fun hx => n.1 ?_, List.nodup_append.2 ⟨m.1, by simpa using m2.2.1, fun x hx y hy => m.2.2 x hx y (List.mem_append_right _ (by simpa using hy))⟩⟩
              rcases List.mem_append.1 hx with h | h
              · exact List.mem_append_left _ h
              · exact List.mem_append_right _ (List.mem_append_right _ (by simpa using h))) (by
              intro x hx
              left
              rcases List.mem_cons.1 hx with h | h
              · rw [h]; exact List.mem_cons_self ..
              · refine List.mem_cons_of_mem _ ?_
                rcases List.mem_append.1 h with h | h
                · exact List.mem_append_left _ h
                · exact List.mem_append_right _ (List.mem_append_right _ (by simpa using h))) hd.symm
            -- its slice as a root
            have hpure : Rep w S [] (.k false (.s true es' rows) v) fc := h3'.noenv (.inr rfl)
            have n := List.nodup_cons.1 h4
            have m := List.nodup_append.1 n.2
            have m2 := List.nodup_append.1 m.2.1
            have hnew : New g S (F.set r (b :: (f1 ++ ([] ++ f3)))) w fc := by
              refine ⟨m2.1, fun x hx => ?_⟩
              have hxf : x ∈ b :: (f1 ++ (fc ++ f3)) := List.mem_cons_of_mem _ (List.mem_append_right _ (List.mem_append_left _ hx))
              refine ⟨fun hm => ?_, hr.fS x (flat_get h2 x hxf), hr.fsz x (flat_get h2 x hxf)⟩
              obtain ⟨f, k1, k2⟩ := List.mem_flatten.1 hm
              obtain ⟨i, hi⟩ := List.getElem?_of_mem k1
              rw [List.getElem?_set] at hi
              split at hi
              · rename_i hri
                rw [if_pos (lt_len h2)] at hi
                cases hi
                rcases List.mem_cons.1 k2 with h | h
                · rw [h] at hx; exact n.1 (List.mem_append_right _ (List.mem_append_left _ hx))
                · rcases List.mem_append.1 h with h | h
                  · exact m.2.2 x h x (List.mem_append_left _ hx) rfl
                  · exact m2.2.2 x hx x (by simpa using h) rfl
              · rename_i hri
                exact hri (apart hr h2 hi hxf k2)
            obtain ⟨E2, F2, t1, t2, t3, t4⟩ := settleC_sound q1 hpure hnew
            simp only [settleC, List.length_set] at t1 t2
            -- the cell again
            have hR2 : (A.H.set r (some ⟨false, R.es, R.rows.set e (row.set c .x)⟩) ++ [some ⟨true, es', rows⟩])[r]? = some (some ⟨false, R.es, R.rows.set e (row.set c .x)⟩) := by
              rw [List.getElem?_append_left (by simpa using lt_len hR), List.getElem?_set_self (lt_len hR)]
            obtain ⟨v2, fc2, g1, g3, b2, p2, u1, u2, u3, u4, ⟨off2, hb, hv2⟩, u5⟩ := t1.cellAt (r := r) (e := e) (c := c) (c0 := .x) hR2 rfl (by rw [List.getElem?_set_self (lt_len hrow)]) (by rw [List.getElem?_set_self (lt_len hc)])
            cases u3
            obtain ⟨p0, w1, w2⟩ := t3.2 r (lt_len h1) rfl p2 u1
            rw [h1] at w1
            cases w1
            rw [w2.1, ha] at hb
            cases hb
            rw [hv] at hv2
            cases hv2
            have t5 := t1.refoot (f' := b :: (g1 ++ ([] ++ g3))) hR2 u1 u2 (u5 _ _ t2) u4 (fun x hx => .inl hx) rfl
            rw [set_same u2] at t5
            refine ⟨S, E2, F2, ?_⟩
            have hfin : ∀ (X Y Z N : Option Root), ((A.H.set r X ++ [N]).set r Z) = A.H.set r Z ++ [N] := by
              intro X Y Z N
              rw [List.set_append_left _ _ (by simpa using lt_len hR), List.set_set]
            rw [hfin _ none _ _] at t5
            simp only [List.set_set] at t5
            exact t5
          · cases ho
        · cases ho
      · cases ho
  · cases ho

def closeA (A : St) (r e c : Nat) : Option St :=
  match A.H[r]? with
  | some (some R) => if R.dat = true then none else match R.rows[e]? with
    | some row => match row[c]? with
      | some (.h n 0 len) => match A.H[n]? with
        | some (some N) => if N.dat = true ∧ N.es ≠ 0 ∧ len = N.rows.length then
            some ⟨A.sl.map (D.kill n), ((killH n (A.H.set r (some ⟨false, R.es, R.rows.set e (row.set c .x)⟩))).set n none).set r
              (some ⟨false, R.es, ((R.rows.set e (row.set c .x)).map fun row => row.map (C.kill n)).set e (((row.set c .x).map (C.kill n)).set c (.s true N.es N.rows))⟩)⟩ else none
        | _ => none
      | _ => none
    | none => none
  | _ => none

theorem close_sat {A' : St} {r e c : Nat} (ho : closeA A r e c = some A') (hs : Sat g A a w) : Sat g A' a w := by
  obtain ⟨S, E, F, hr⟩ := hs
  unfold closeA at ho
  split at ho
  · rename_i R hR
    split at ho
    · cases ho
    · rename_i hd
      have hd : R.dat = false := by simpa using hd
      split at ho
      · rename_i row hrow
        split at ho
        · rename_i n len hc
          split at ho
          · rename_i N hN
            split at ho
            · rename_i hcond
              cases ho
              have hnr : n ≠ r := fun h => by
                subst h
                rw [hR] at hN; cases hN
                rw [hd] at hcond; cases hcond.1
              obtain ⟨v, fc, f1, f3, b, p, h1, h2, h3, h4, ⟨off, ha, hv⟩, h5⟩ := hr.cellAt hR hd hrow hc
              have hfc : fc = [] := by cases h3; rfl
              subst hfc
              obtain ⟨fp, k1, k2, k3⟩ := outC_sound hr h3 (c' := .s true N.es N.rows) (ids := [n]) (by
                unfold outC
                simp only [hN]
                rw [if_pos ⟨hcond.1, hcond.2.1, trivial, hcond.2.2⟩])
              have q1 := hr.refoot (f' := b :: (f1 ++ ([] ++ f3))) hR h1 h2 (h5 .x [] .x) h4 (fun x hx => .inl hx) hd.symm
              rw [set_same h2] at q1
              have q3 := (q1.kill n).dropRoot n
              have hRx : ((St.kill n { A with H := A.H.set r (some ⟨false, R.es, R.rows.set e (row.set c .x)⟩) }).H.set n none)[r]? = some (some ⟨false, R.es, (R.rows.set e (row.set c .x)).map fun row => row.map (C.kill n)⟩) := by
                rw [List.getElem?_set_ne hnr]
                simp only [St.kill, killH, List.getElem?_map]
                rw [List.getElem?_set_self (lt_len hR)]
                rfl
              obtain ⟨v2, fc2, g1, g3, b2, p2, u1, u2, u3, u4, ⟨off2, hb, hv2⟩, u5⟩ := q3.cellAt (r := r) (e := e) (c := c) (c0 := .x) hRx rfl
                (by rw [List.getElem?_map, List.getElem?_set_self (lt_len hrow)]; rfl) (by rw [List.getElem?_map, List.getElem?_set_self (lt_len hc)]; rfl)
              cases u3
              rw [List.getElem?_set_ne hnr, h1] at u1
              cases u1
              rw [ha] at hb
              cases hb
              rw [hv] at hv2
              cases hv2
              have hsub : ∀ x ∈ fp, ∃ f, F[n]? = some f ∧ x ∈ f := by
                intro x hx
                obtain ⟨i, hi, f, m1, m2⟩ := k2 x hx
                rw [List.mem_singleton] at hi
                subst hi
                exact ⟨f, m1, m2⟩
              have hout : ∀ x ∈ fp, x ∉ (F.set n []).flatten := by
                intro x hx hm
                obtain ⟨f, m1, m2⟩ := hsub x hx
                obtain ⟨f', m3, m4⟩ := List.mem_flatten.1 hm
                obtain ⟨i, hi⟩ := List.getElem?_of_mem m3
                rw [List.getElem?_set] at hi
                split at hi
                · rename_i hni
                  rw [if_pos (lt_len m1)] at hi
                  cases hi; cases m4
                · rename_i hni
                  exact hni (apart hr m1 hi m2 m4)
              have t5 := q3.refoot (f' := b :: (g1 ++ (fp ++ g3))) hRx (by rw [List.getElem?_set_ne hnr]; exact h1) u2 (u5 (.s true N.es N.rows) fp (k1.noenv (.inr rfl))) (by
                have y1 := List.nodup_cons.1 u4
                have y2 := List.nodup_append.1 y1.2
                have sub : ∀ x, x ∈ b :: (g1 ++ ([] ++ g3)) → x ∈ (F.set n []).flatten := flat_get u2
                have no : ∀ x ∈ fp, x ∉ b :: (g1 ++ ([] ++ g3)) := fun x hx h => hout x hx (sub x h)
                refine List.nodup_cons.2 ⟨fun h => ?_, List.nodup_append.2 ⟨y2.1, List.nodup_append.2 ⟨k3, by simpa using y2.2.1, fun x hx y hy hxy => ?_⟩, fun x hx y hy hxy => ?_⟩⟩
                · rcases List.mem_append.1 h with h | h
                  · exact y1.1 (List.mem_append_left _ h)
                  · rcases List.mem_append.1 h with h | h
                    · exact no b h (List.mem_cons_self ..)
                    · exact y1.1 (List.mem_append_right _ (by simpa using h))
                · subst hxy
                  exact no x hx (List.mem_cons_of_mem _ (List.mem_append_right _ (by simpa using hy)))
                · subst hxy
                  rcases List.mem_append.1 hy with h | h
                  · exact no x h (List.mem_cons_of_mem _ (List.mem_append_left _ hx))
                  · exact y2.2.2 x hx x (by simpa using h) rfl) (by
                intro x hx
                rcases List.mem_cons.1 hx with h | h
                · left; rw [h]; exact List.mem_cons_self ..
                · rcases List.mem_append.1 h with h | h
                  · left; exact List.mem_cons_of_mem _ (List.mem_append_left _ h)
                  · rcases List.mem_append.1 h with h | h
                    · right
                      obtain ⟨f, m1, m2⟩ := hsub x h
                      exact ⟨hout x h, hr.fS x (flat_get m1 x m2), hr.fsz x (flat_get m1 x m2)⟩
                    · left; exact List.mem_cons_of_mem _ (List.mem_append_right _ (by simpa using h))) rfl
              exact ⟨S, _, _, t5⟩
            · cases ho
          · cases ho
        · cases ho
      · cases ho
  · cases ho

theorem tri_open {code : Code} {Q : Exit → St → Prop} {H' : List (Option Root)} (r e c es' : Nat) (ho : openA A.H r e c es' = some H') (h : Tri P code { A with H := H' } Q) : Tri P code A Q :=
  Tri.weak (fun _ _ _ hs => open_sat ho hs) h

theorem tri_close {code : Code} {Q : Exit → St → Prop} {A' : St} (r e c : Nat) (ho : closeA A r e c = some A') (h : Tri P code A' Q) : Tri P code A Q :=
  Tri.weak (fun _ _ _ hs => close_sat ho hs) h

end
end Go.Dl
