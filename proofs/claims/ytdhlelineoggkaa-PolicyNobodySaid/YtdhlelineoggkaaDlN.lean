/- 'Dl', part N: slices that are made. -/
import Derived.Test.YtdhlelineoggkaaDlM
namespace Go.Dl
open Go.RowKit

/-- make: rows of zero values. -/
def makeA (P : Program) (H : List (Option Root)) (t : TypeId) (l c : Int) : Option (D × List (Option Root)) :=
  match tk P t with
  | some (.slice e) => match tz P e with
    | some z => if tsz P e ≠ 0 ∧ z.length = tsz P e ∧ 0 ≤ l ∧ l ≤ c ∧ P.bytesOf e * c ≤ 140737488355328 ∧ z.all C.dat = true ∧ c ≤ 9223372036854775807 then
        some (.c (.h H.length 0 l.toNat), H ++ [some ⟨true, tsz P e, List.replicate l.toNat z⟩]) else none
    | none => none
  | _ => none

section
variable {P : Program} {g : G} {S : Nat → Prop} {E : Env} {F : List (List Nat)} {A : St} {a : Act} {w : World}

theorem run_newRow (P : Program) (w : World) (e : TypeId) (cells : Array Value) : (newRow e cells).run P w = .ok ⟨w.heap.size, 0, none⟩ (w.alloc (.cells cells e)) := rfl

theorem map_range0 (f : Nat → Value) : (Array.range 0).map f = #[] := by
  rw [Array.map_eq_empty_iff]; rfl

theorem chop_spec (n : Nat) : ∀ (k : Nat) (cs : List C), cs.length = k * n → (chop n k cs).flatten = cs ∧ (∀ r ∈ chop n k cs, r.length = n) ∧ (chop n k cs).length = k
  | 0, cs, h => by
    have : cs = [] := List.eq_nil_of_length_eq_zero (by simpa using h)
    subst this
    simp [chop]
  | k + 1, cs, h => by
    rw [Nat.succ_mul] at h
    obtain ⟨h1, h2, h3⟩ := chop_spec n k (cs.drop n) (by rw [List.length_drop]; omega)
    refine ⟨by simp [chop, h1], ?_, by simp [chop, h3]⟩
    intro r hr
    rcases List.mem_cons.1 hr with rfl | hr
    · rw [List.length_take]; omega
    · exact h2 r hr

theorem reps_len {α : Type} : ∀ (n : Nat) (xs : List α), (reps n xs).length = n * xs.length
  | 0, _ => by simp [reps]
  | n + 1, xs => by simp [reps, reps_len n xs, Nat.succ_mul]; omega

theorem reps_get {α : Type} [Inhabited α] (xs : List α) (hx : 0 < xs.length) : ∀ (n i : Nat), i < n * xs.length → (reps n xs)[i]? = xs[i % xs.length]?
  | 0, i, h => by simp at h
  | n + 1, i, h => by
    rw [Nat.succ_mul] at h
    simp only [reps]
    by_cases hi : i < xs.length
    · rw [List.getElem?_append_left hi, Nat.mod_eq_of_lt hi]
    · rw [List.getElem?_append_right (by omega), reps_get xs hx n (i - xs.length) (by omega)]
      rw [Nat.mod_eq_sub_mod (a := i) (by omega)]

theorem range_reps (zero : Array Value) (hz : 0 < zero.size) (n : Nat) : ((Array.range (n * zero.size)).map (zero[· % zero.size]!)).toList = reps n zero.toList := by
  apply List.ext_getElem?
  intro i
  by_cases hi : i < n * zero.size
  · rw [reps_get zero.toList (by simpa using hz) n i (by simpa using hi)]
    have hm : i % zero.size < zero.size := Nat.mod_lt _ hz
    simp [hi, getElem!_pos, hm]
  · rw [List.getElem?_eq_none (by simp; omega), List.getElem?_eq_none (by rw [reps_len]; simp; omega)]

theorem vs_app : ∀ {xs ys : List C} {us ws : List Value}, Rep w S E (.vs xs us) [] → Rep w S E (.vs ys ws) [] → Rep w S E (.vs (xs ++ ys) (us ++ ws)) [] := by
  intro xs
  induction xs with
  | nil => intro ys us ws h1 h2; cases h1; exact h2
  | cons y xs ih =>
    intro ys us ws h1 h2
    generalize hfp : ([] : List Nat) = fp at h1
    cases h1 with
    | vcons k1 k2 =>
      obtain ⟨rfl, rfl⟩ := List.append_eq_nil_iff.1 hfp.symm
      exact .vcons (f1 := []) (f2 := []) k1 (ih k2 h2)

theorem reps_vs {z : List C} {zv : List Value} (h : Rep w S E (.vs z zv) []) : ∀ n, Rep w S E (.vs (reps n z) (reps n zv)) []
  | 0 => .vnil
  | n + 1 => vs_app h (reps_vs h n)

theorem replicate_flat (z : List C) : ∀ n, (List.replicate n z).flatten = reps n z
  | 0 => rfl
  | n + 1 => by simp [List.replicate_succ, reps, replicate_flat z n]

theorem buildSlice_sound (hr : Rel g S E F A a w) {t : TypeId} {len : Nat} {parts : Array (Nat × Operand)} {d : D} {H' : List (Option Root)} (hok : ∀ x ∈ parts.toList, opdOK x.2 = true)
    (h : buildSliceA P A.ev A.H t len parts.toList = some (d, H')) :
    ∃ v w' E' F', (Instr.buildSlice t len (parts.map fun (i, x) => (i, a.eval x))).run P w = .ok v w' ∧ Rel g S E' F' { A with H := H' } a w' ∧ RepD w' S E' d v := by
  unfold buildSliceA at h
  split at h
  · rename_i e hk
    split at h
    · rename_i z ps hz hp
      split at h
      · rename_i hc
        obtain ⟨c1, c2, c3⟩ := hc
        split at h
        · rename_i cs hf
          split at h
          · rename_i hdat
            cases h
            obtain ⟨v, z1, z2, z3⟩ := tz_some (P := P) (w := w) (S := S) (E := E) hz
            obtain ⟨p1, p2⟩ := parts_sound hr hok hp
            have hzs : v.cells.size = tsz P e := by omega
            have hz0 : 0 < v.cells.size := by omega
            have hrr : Rep w S E (.vs (reps len z) ((Array.range (len * tsz P e)).map (v.cells[· % v.cells.size]!)).toList) [] := by
              rw [← hzs, range_reps v.cells hz0]
              exact reps_vs z2 len
            obtain ⟨arr, e1, e2, e3⟩ := fill_sound (w := w) hrr p1 hf
            have hcl : cs.length = len * tsz P e := by rw [e3, reps_len, c2]
            obtain ⟨q1, q2, q3⟩ := chop_spec (tsz P e) len cs hcl
            have hal := vs_len e2
            have hrun : (Instr.buildSlice t len (parts.map fun (i, x) => (i, a.eval x))).run P w = .ok (.slice (some ⟨w.heap.size, 0, none⟩) len len) (w.alloc (.cells arr e)) := by
              have hlim : ¬ (len * tsz P e > 2 ^ 24) := by omega
              simp only [Instr.buildSlice, Sem.run_bind, run_und (tk_slice hk), Result.andThen_ok, run_tsz' c1, Sem.run_ite, if_neg hlim, Sem.run_pure]
              by_cases hl0 : len = 0
              · subst hl0
                simp only [Nat.zero_mul, if_true, Array.toList_map]
                simp only [Nat.zero_mul] at e1
                rw [show (List.map (fun x : Nat × Operand => match x with | (i, x) => (i, a.eval x)) parts.toList) = parts.toList.map fun x => (x.1, a.eval x.2) from rfl]
                rw [show Array.map (fun x => (#[] : Array Value)[x % (#[] : Array Value).size]!) (Array.range 0) = Array.map (fun x => v.cells[x % v.cells.size]!) (Array.range 0) by simp, e1]
                simp [run_newRow]
              · have : len * tsz P e ≠ 0 := Nat.mul_ne_zero hl0 c1
                simp only [if_neg this, z1, Result.andThen_ok, Array.toList_map]
                rw [show (List.map (fun x : Nat × Operand => match x with | (i, x) => (i, a.eval x)) parts.toList) = parts.toList.map fun x => (x.1, a.eval x.2) from rfl, e1]
                simp [run_newRow]
            have hnew := hr.newRoot (R := ⟨true, tsz P e, chop (tsz P e) len cs⟩) (vs := arr.toList) (extra := []) (el := e) (m := len) (by rw [q1]; exact e2) (by intro _; rw [q1]; exact hdat) q2 (by simp at hal; simp; omega) (by simp [q3])
            rw [List.append_nil] at hnew
            refine ⟨_, _, _, _, hrun, hnew, .c (.h ?_ ?_)⟩
            · have := hnew.lE; rw [this]; simp
            · intro pl hpl
              rw [← hr.lE, List.getElem?_append_right (Nat.le_refl _)] at hpl
              simp at hpl
              subst hpl
              exact ⟨by simp [q3], ⟨w.heap.size, 0, none⟩, len, rfl, Nat.le_refl _, by simp, .inr (by simp)⟩
          · cases h
        · cases h
      · cases h
    · cases h
  · cases h

theorem make_sound (hr : Rel g S E F A a w) {t : TypeId} {l c : Int} {k k' : IntKind} {d : D} {H' : List (Option Root)} (h : makeA P A.H t l c = some (d, H')) :
    ∃ v w' E' F', (Instr.makeSlice t (.int k l) (.int k' c)).run P w = .ok v w' ∧ Rel g S E' F' { A with H := H' } a w' ∧ RepD w' S E' d v := by
  unfold makeA at h
  split at h
  · rename_i e hk
    split at h
    · rename_i z hz
      split at h
      · rename_i hc
        obtain ⟨c1, c2, c3, c4, c5, c6, c7⟩ := hc
        cases h
        obtain ⟨i, hi⟩ := tsz_info c1
        obtain ⟨v, z1, z2, z3⟩ := tz_some (P := P) (w := w) (S := S) (E := E) hz
        have hzs : v.cells.size = tsz P e := by omega
        have hz0 : 0 < v.cells.size := by omega
        have hby : P.bytesOf e = i.bytes := by simp [Program.bytesOf, hi]
        rw [hby] at c5
        have w1 : IntKind.i64.wrap l = l := wrap_i64 l (by omega) (by omega)
        have w2 : IntKind.i64.wrap c = c := wrap_i64 c (by omega) (by omega)
        obtain ⟨ln, rfl⟩ := Int.eq_ofNat_of_zero_le c3
        obtain ⟨cn, rfl⟩ := Int.eq_ofNat_of_zero_le (show 0 ≤ c by omega)
        have hbig : ¬ ((i.bytes : Int) * (cn : Int) > 281474976710656) := by
          intro h; omega
        have hrun : (Instr.makeSlice t (.int k ln) (.int k' cn)).run P w = .ok (.slice (some ⟨w.heap.size, 0, none⟩) ln cn) (w.alloc (.cells ((Array.range (cn * tsz P e)).map (v.cells[· % v.cells.size]!)) e)) := by
          have hroom : (askRoom (cn * i.bytes)).run P w = .ok () w := by
            unfold askRoom; split
            · simp [mark, Sem.run]
            · rfl
          simp only [Instr.makeSlice, Sem.run_bind, run_und (tk_slice hk), Result.andThen_ok, asInt, asIntOf, Sem.run_pure, run_typeInfo w hi, w1, w2]
          have hcond : (decide ((cn : Int) < 0) || decide ((i.bytes : Int) * (cn : Int) > 2 ^ 48) || decide ((ln : Int) < 0) || decide ((ln : Int) > (cn : Int))) = false := by
            simp; omega
          simp only [hcond, Bool.false_eq_true, if_false, Sem.run_bind, Int.toNat_natCast, hroom, Result.andThen_ok, run_tsz' c1, Sem.run_ite, Sem.run_pure]
          by_cases hl0 : cn * tsz P e = 0
          · rw [hl0]
            simp [run_newRow, map_range0]
          · simp only [if_neg hl0, z1, Result.andThen_ok]
            simp [run_newRow]
        have hsplit : ((Array.range (cn * tsz P e)).map (v.cells[· % v.cells.size]!)) = (reps ln v.cells.toList ++ reps (cn - ln) v.cells.toList).toArray := by
          apply Array.toList_inj.1
          rw [← hzs, range_reps v.cells hz0]
          have : ∀ (n m : Nat) (xs : List Value), reps (n + m) xs = reps n xs ++ reps m xs := by
            intro n m xs
            induction n with
            | zero => simp [reps]
            | succ n ih => rw [show n + 1 + m = (n + m) + 1 by omega]; simp [reps, ih]
          rw [← this, show ln + (cn - ln) = cn by omega]
        rw [hsplit] at hrun
        have hnew := hr.newRoot (R := ⟨true, tsz P e, List.replicate ln z⟩) (vs := reps ln v.cells.toList) (extra := reps (cn - ln) v.cells.toList) (el := e) (m := cn) (by rw [replicate_flat]; exact reps_vs z2 ln)
          (by
            intro _
            rw [replicate_flat]
            have : ∀ n, (reps n z).all C.dat = true := by
              intro n
              induction n with
              | zero => rfl
              | succ n ih => rw [reps, List.all_append, c6, ih]; rfl
            exact this ln)
          (by intro r hr'; rw [List.eq_of_mem_replicate hr', c2])
          (by
            rw [reps_len, reps_len, ← Nat.add_mul, show ln + (cn - ln) = cn by omega]
            simp only [Array.length_toList, hzs]
            exact Nat.le_refl _) (by simp; omega)
        refine ⟨_, _, _, _, hrun, hnew, .c (.h ?_ ?_)⟩
        · have := hnew.lE; rw [this]; simp
        · intro pl hpl
          rw [← hr.lE, List.getElem?_append_right (Nat.le_refl _)] at hpl
          simp at hpl
          subst hpl
          exact ⟨by simp, ⟨w.heap.size, 0, none⟩, cn, rfl, by omega, by simp, .inr (by simp)⟩
      · cases h
    · cases h
  · cases h

end
end Go.Dl
