/- 'Dl', part Q: one operation as a function; runs of operations. -/
import Derived.Test.YtdhlelineoggkaaDlP
import Derived.Laws.BytesArg
import Derived.Lib.ConvBytes
namespace Go.Dl
open Go.RowKit

def rowByte : List C → UInt8
  | [.v (.int _ n)] => UInt8.ofNat n.toNat
  | _ => 0
def isByteRow : List C → Bool
  | [.v (.int .u8 _)] => true
  | _ => false
def byteRow (b : UInt8) : List C := [.v (.int .u8 b.toNat)]

/-- The rows of a slice. -/
def rowsOf (H : List (Option Root)) : D → Option (List (List C))
  | .c (.h r lo len) => match H[r]? with
    | some (some R) => if R.es = 1 then some ((R.rows.drop lo).take len) else none
    | _ => none
  | .c (.s false 1 rows) => some rows
  | _ => none

/-- Bytes as a text. -/
def bytesStr (P : Program) (H : List (Option Root)) (s t : TypeId) (d : D) : Option D :=
  match tk P t, tk P s with
  | some .str, some (.slice e) => match tk P e, rowsOf H d with
    | some (.int .u8), some rows => if rows.all isByteRow = true ∧ rows.length ≤ maxStr then some (.c (.v (.string ⟨(rows.map rowByte).toArray⟩))) else none
    | _, _ => none
  | _, _ => none

/-- A text as bytes. -/
def strBytes (P : Program) (H : List (Option Root)) (s t : TypeId) (d : D) : Option (D × List (Option Root)) :=
  match tk P t, tk P s with
  | some (.slice e), some .str => match tk P e, d with
    | some (.int .u8), .c (.v (.string x)) => some (.c (.h H.length 0 x.data.toList.length), H ++ [some ⟨true, 1, x.data.toList.map byteRow⟩])
    | _, _ => none
  | _, _ => none

section
variable {P : Program} {g : G} {S : Nat → Prop} {E : Env} {F : List (List Nat)} {A : St} {a : Act} {w : World}

theorem byteRow_inv {row : List C} (h : isByteRow row = true) : ∃ n, row = [.v (.int .u8 n)] := by
  unfold isByteRow at h
  split at h
  · exact ⟨_, rfl⟩
  · cases h

theorem bytesStr_sound (hr : Rel g S E F A a w) {s t : TypeId} {d d' : D} {v : Value} (hd : RepD w S E d v) (h : bytesStr P A.H s t d = some d') :
    ∃ v', (convert s t v).run P w = .ok v' w ∧ RepD w S E d' v' := by
  unfold bytesStr at h
  split at h
  · rename_i e hk hs
    split at h
    · rename_i rows he hrows
      split at h
      · rename_i hc
        obtain ⟨c1, c2⟩ := hc
        cases h
        refine ⟨.string ⟨(rows.map rowByte).toArray⟩, ?_, .c (.v ?_)⟩
        · -- the cells
          have hb : ∃ ad cap, v = .slice ad rows.length cap ∧ ((ad = none ∧ rows = []) ∨ ∃ a' , ad = some a' ∧ ∀ (j : Nat) (row : List C), rows[j]? = some row → w.cell? (a'.add j) = some (.int .u8 (match row with | [.v (.int _ n)] => n | _ => 0))) := by
            have fromRep : ∀ (b off : Nat) (dat : Bool) (rows : List (List C)) (fp : List Nat), (∀ r ∈ rows, r.length = 1) → rows.all isByteRow = true → Rep w S E (.l dat rows.flatten b off) fp →
                ∀ (j : Nat) (row : List C), rows[j]? = some row → w.cell? ((⟨b, off, none⟩ : Addr).add j) = some (.int .u8 (match row with | [.v (.int _ n)] => n | _ => 0)) := by
              intro b off dat rows fp hl hall hrep j row hj
              obtain ⟨n, rfl⟩ := byteRow_inv (List.all_eq_true.1 hall row (List.mem_of_getElem? hj))
              obtain ⟨xs, ys, e1, e2, _⟩ := flatten_split hl j _ hj
              rw [e1] at hrep
              obtain ⟨f1, f2, _, _, h2⟩ := hrep.append
              cases h2 with
              | lcons hv hcc _ =>
                rw [Nat.mul_one] at e2
                rw [addr_add, ← e2, hv]
                cases hcc; rfl
            unfold rowsOf at hrows
            split at hrows
            · rename_i r lo len
              split at hrows
              · rename_i R hR
                split at hrows
                · rename_i hes
                  cases hrows
                  obtain ⟨p, f, h1, h2, h3, h4⟩ := handle_live hr hR hd
                  obtain ⟨g1, g2, g3, g4, g5⟩ := h3
                  obtain ⟨k1, k2⟩ := h4
                  have hlen : ((R.rows.drop lo).take len).length = len := by rw [List.length_take, List.length_drop]; omega
                  cases hat : p.at? with
                  | none =>
                    rw [hat] at k2 g5
                    obtain ⟨ad, rfl⟩ := k2
                    obtain ⟨e1, _, _⟩ := g5
                    have hl0 : len = 0 := by rw [e1] at g2; simp at g2; omega
                    subst hl0
                    cases ad with
                    | none => exact ⟨none, 0, by simp, .inl ⟨rfl, by simp⟩⟩
                    | some ad => exact ⟨some ad, 0, by simp, .inr ⟨ad, rfl, by simp⟩⟩
                  | some bo =>
                    obtain ⟨b, off⟩ := bo
                    rw [hat] at k2 g5
                    obtain ⟨ad, cap, rfl, q2, q3, q4⟩ := k2
                    obtain ⟨fr, _, _, hrep⟩ := g5
                    refine ⟨some ad, cap, by rw [hlen], .inr ⟨ad, rfl, ?_⟩⟩
                    intro j row hj
                    have hjl := lt_len hj
                    have had : ad = ⟨b, off + lo * R.es, none⟩ := by
                      rcases q4 with q4 | q4
                      · omega
                      · rw [q4, g1]
                    subst had
                    obtain ⟨f1, f2, f3, _, hr2⟩ := flatten_sub g4 hrep lo len (by omega)
                    exact fromRep b (off + lo * R.es) R.dat _ f2 (fun r hr => by rw [← hes]; exact g4 r (List.mem_of_mem_drop (List.mem_of_mem_take hr))) c1 hr2 j row hj
                · cases hrows
              · cases hrows
            · cases hrows
              cases hd with
              | c h => cases h with
                | nilI =>
                  rename_i ad cap
                  cases ad with
                  | none => exact ⟨none, cap, rfl, .inl ⟨rfl, rfl⟩⟩
                  | some ad => exact ⟨some ad, cap, rfl, .inr ⟨ad, rfl, by simp⟩⟩
                | imm hS hcap hl hrep => exact ⟨_, _, rfl, .inr ⟨_, rfl, fromRep _ _ true _ _ hl c1 hrep⟩⟩
            · cases hrows
          obtain ⟨ad, cap, rfl, hcase⟩ := hb
          have hnum : (rows.map fun row => UInt8.ofNat (match row with | [.v (.int _ n)] => n | _ => (0 : Int)).toNat) = rows.map rowByte := by
            refine List.map_congr_left fun row hrow => ?_
            obtain ⟨n, rfl⟩ := byteRow_inv (List.all_eq_true.1 c1 row hrow)
            rfl
          rcases hcase with ⟨rfl, rfl⟩ | ⟨a', rfl, hcell⟩
          · rw [run_convert_bytes_nil w s e (tk_slice hs) (tk_int he) _ _ t (tk_str hk)]; rfl
          · have hload : (loadCells a' rows.length).run P w = .ok ((rows.map fun row => (match row with | [.v (.int _ n)] => n | _ => (0 : Int))).map (Value.int .u8)).toArray w := by
              have := run_loadCells_list (P := P) w a' ((rows.map fun row => (match row with | [.v (.int _ n)] => n | _ => (0 : Int))).map (Value.int .u8)) (by
                intro j v hj
                rw [List.map_map, List.getElem?_map, Option.map_eq_some_iff] at hj
                obtain ⟨row, h1, h2⟩ := hj
                rw [← h2]
                exact hcell j row h1)
              simpa using this
            rw [run_convert_bytes_string w s t e _ rows.length cap (tk_slice hs) (tk_int he) (tk_str hk), run_bytesToString w _ rows.length cap _ hload, foldl_push_bytes, List.map_map]
            rw [show ((fun n : Int => UInt8.ofNat n.toNat) ∘ fun row : List C => (match row with | [.v (.int _ n)] => n | _ => (0 : Int))) = fun row => UInt8.ofNat (match row with | [.v (.int _ n)] => n | _ => (0 : Int)).toNat from rfl, hnum]
            simp
        · show ((rows.map rowByte).toArray).size ≤ maxStr
          simpa using c2
      · cases h
    · cases h
  · cases h

theorem byteRows_flat : ∀ (l : List UInt8), (l.map byteRow).flatten = l.map fun b => C.v (.int .u8 b.toNat)
  | [] => rfl
  | b :: l => by simp [byteRow, byteRows_flat l]

theorem byteRows_vs : ∀ (l : List UInt8), Rep w S E (.vs (l.map fun b => C.v (.int .u8 b.toNat)) (l.map fun b => Value.int .u8 b.toNat)) []
  | [] => .vnil
  | b :: l => by
    refine .vcons (f1 := []) (f2 := []) (.v ?_) (byteRows_vs l)
    have := b.toNat_lt
    simp [Sc, inR]; omega

theorem strBytes_sound (hr : Rel g S E F A a w) {s t : TypeId} {d d' : D} {v : Value} {H' : List (Option Root)} (hd : RepD w S E d v) (h : strBytes P A.H s t d = some (d', H')) :
    ∃ v' w' E' F', (convert s t v).run P w = .ok v' w' ∧ Rel g S E' F' { A with H := H' } a w' ∧ RepD w' S E' d' v' := by
  unfold strBytes at h
  split at h
  · rename_i e hk hs
    split at h
    · rename_i x he
      cases h
      obtain ⟨rfl, hx⟩ := str_inv hd
      have hrun := Lib.run_convert_string_bytes (P := P) w s t e x (tk_str hs) (tk_slice hk) (tk_int he)
      have hge := grownCap_ge w x.size 0 e
      generalize hcap : grownCap w x.size 0 e = cap at hrun hge
      have hcells : Lib.bytesCells w e x = ((x.data.toList.map fun (b : UInt8) => Value.int .u8 b.toNat) ++ List.replicate (cap - x.size) (Value.int .u8 0)).toArray := by
        unfold Lib.bytesCells
        rw [hcap]
        apply Array.toList_inj.1
        simp
      have hsize : x.data.toList.length = x.size := by simp
      have hnew := hr.newRoot' (w' := Lib.bytesWorld w e x) (R := ⟨true, 1, x.data.toList.map byteRow⟩) (vs := x.data.toList.map fun (b : UInt8) => Value.int .u8 b.toNat) (extra := List.replicate (cap - x.size) (Value.int .u8 0)) (el := e)
        (z := ((Lib.bytesCells w e x).size, (Lib.bytesCells w e x).size + 1)) (m := cap) (by simp only [byteRows_flat]; exact byteRows_vs _)
        (by
          intro _
          simp only [byteRows_flat]
          rw [List.all_eq_true]
          intro c hc
          obtain ⟨b, _, rfl⟩ := List.mem_map.1 hc
          rfl)
        (by
          intro r hr
          obtain ⟨b, _, rfl⟩ := List.mem_map.1 hr
          rfl)
        (by simp; omega) (by simp; omega) (fun b hb => Lib.bytesWorld_at_old w e x b hb) (by rw [← hcells]; exact Lib.bytesWorld_at_new w e x)
        (fun o ho => by
          simp only [World.frozen?, Lib.bytesWorld_at_new]
          rw [hcells]
          simp at ho ⊢
          omega) (Lib.bytesWorld_size w e x) (by unfold Lib.bytesWorld World.freeze; split <;> rfl) (by unfold Lib.bytesWorld World.freeze; split <;> rfl) (by unfold Lib.bytesWorld World.freeze; split <;> exact ⟨rfl, Nat.le_succ _⟩)
      refine ⟨_, _, _, _, hrun, hnew, .c (.h ?_ ?_)⟩
      · have := hnew.lE; rw [this]; simp
      · intro pl hpl
        rw [← hr.lE, List.getElem?_append_right (Nat.le_refl _)] at hpl
        simp at hpl
        subst hpl
        exact ⟨by simp, ⟨w.heap.size, 0, none⟩, cap, by rw [hsize], by rw [hsize]; exact hge, by simp, .inr (by simp)⟩
    · cases h
  · cases h

end
end Go.Dl
