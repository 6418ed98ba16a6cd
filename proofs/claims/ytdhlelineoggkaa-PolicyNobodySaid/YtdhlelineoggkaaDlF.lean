/- 'Dl', part F: quiet operations are what the function says: indexes, slices, operators. -/
import Derived.Test.YtdhlelineoggkaaDlE
namespace Go.Dl
open Go.RowKit

section
variable {P : Program} {g : G} {S : Nat → Prop} {E : Env} {F : List (List Nat)} {A : St} {a : Act} {w : World}

theorem tk_slice {t e : TypeId} (h : tk P t = some (.slice e)) : P.underlying t = some (.slice e) := by
  obtain ⟨d, hu, hd⟩ := tk_some h
  cases d <;> simp [TK.of] at hd
  subst hd; exact hu
theorem tk_arr {t n e : Nat} (h : tk P t = some (.arr n e)) : P.underlying t = some (.array n e) := by
  obtain ⟨d, hu, hd⟩ := tk_some h
  cases d <;> simp [TK.of] at hd
  obtain ⟨rfl, rfl⟩ := hd; exact hu
theorem tk_str {t : TypeId} (h : tk P t = some .str) : P.underlying t = some .string := by
  obtain ⟨d, hu, hd⟩ := tk_some h
  cases d <;> simp [TK.of] at hd
  exact hu
theorem tk_int {t : TypeId} {k : IntKind} (h : tk P t = some (.int k)) : P.underlying t = some (.int k) := by
  obtain ⟨d, hu, hd⟩ := tk_some h
  cases d <;> simp [TK.of] at hd
  subst hd; exact hu
theorem tk_bool {t : TypeId} (h : tk P t = some .bool) : P.underlying t = some .bool := by
  obtain ⟨d, hu, hd⟩ := tk_some h
  cases d <;> simp [TK.of] at hd
  exact hu
theorem tk_ptr {t e : TypeId} (h : tk P t = some (.ptr e)) : P.underlying t = some (.pointer e) := by
  obtain ⟨d, hu, hd⟩ := tk_some h
  cases d <;> simp [TK.of] at hd
  subst hd; exact hu
theorem tk_map {t k e : TypeId} (h : tk P t = some (.map k e)) : P.underlying t = some (.map k e) := by
  obtain ⟨d, hu, hd⟩ := tk_some h
  cases d <;> simp [TK.of] at hd
  obtain ⟨rfl, rfl⟩ := hd; exact hu
theorem tk_func {t : TypeId} (h : tk P t = some .func) : ∃ ps rs v, P.underlying t = some (.func ps rs v) := by
  obtain ⟨d, hu, hd⟩ := tk_some h
  cases d <;> simp [TK.of] at hd
  exact ⟨_, _, _, hu⟩

theorem handle_live (hr : Rel g S E F A a w) {r lo len : Nat} {v : Value} {R : Root} (hR : A.H[r]? = some (some R)) (hd : RepD w S E (.c (.h r lo len)) v) :
    ∃ p f, E[r]? = some (some p) ∧ F[r]? = some f ∧ RootAt w S E R p f ∧ HandleAt p lo len v := by
  obtain ⟨p, f, h1, h2, h3⟩ := hr.root r R hR
  cases hd with
  | c h => cases h with
    | h _ hh => exact ⟨p, f, h1, h2, h3, hh p h1⟩

theorem lt_len {α : Type} {l : List α} {i : Nat} {x : α} (h : l[i]? = some x) : i < l.length := by
  rcases Nat.lt_or_ge i l.length with h' | h'
  · exact h'
  · rw [List.getElem?_eq_none h'] at h; cases h

theorem run_indexAt_slice {t e : TypeId} {k : IntKind} {n : Int} {ad : Addr} {len cap : Nat} (hu : P.underlying t = some (.slice e)) (hz : tsz P e ≠ 0) (h0 : 0 ≤ n) (h1 : n < len) :
    (Instr.indexAt t (.slice (some ad) len cap) (.int k n)).run P w = .ok (.pointer (some (ad.add (n.toNat * tsz P e)))) w := by
  simp [Instr.indexAt, asIntOf, run_und hu, h0, h1, run_tsz' hz]

theorem run_indexAt_arr {t e : TypeId} {k : IntKind} {n : Int} {ad : Addr} {len : Nat} (hu : P.underlying t = some (.array len e)) (hz : tsz P e ≠ 0) (h0 : 0 ≤ n) (h1 : n < len) :
    (Instr.indexAt t (.pointer (some ad)) (.int k n)).run P w = .ok (.pointer (some (ad.add (n.toNat * tsz P e)))) w := by
  simp [Instr.indexAt, asIntOf, run_und hu, Instr.sureAddr, h0, h1, run_tsz' hz]

theorem qindexAddr_sound (hr : Rel g S E F A a w) {t : TypeId} {d d' : D} {v : Value} {k : IntKind} {n : Int} (hd : RepD w S E d v) (h : qindexAddr P A.H t d n = some d') :
    ∃ v', (Instr.indexAt t v (.int k n)).run P w = .ok v' w ∧ RepD w S E d' v' := by
  unfold qindexAddr at h
  split at h
  · rename_i e hk
    have hu := tk_slice hk
    split at h
    · rename_i r lo len
      split at h
      · rename_i R hR
        split at h
        · rename_i hc
          obtain ⟨c1, c2, c3, c4⟩ := hc
          cases h
          obtain ⟨p, f, h1, h2, h3, h4⟩ := handle_live hr hR hd
          obtain ⟨g1, g2, g3, g4, g5⟩ := h3
          obtain ⟨k1, k2⟩ := h4
          cases hat : p.at? with
          | none =>
            rw [hat] at g5
            obtain ⟨e1, _, _⟩ := g5
            rw [e1] at g2; simp at g2; omega
          | some bo =>
            obtain ⟨b, off⟩ := bo
            rw [hat] at k2
            obtain ⟨ad, cap, rfl, e2, e3, e4⟩ := k2
            have : ad = ⟨b, off + lo * p.es, none⟩ := by
              rcases e4 with e4 | e4
              · omega
              · exact e4
            subst this
            refine ⟨_, run_indexAt_slice hu (by omega) c3 c4, .c (.p (lt_len h1) fun pl hpl => ?_)⟩
            rw [h1] at hpl; cases hpl
            exact ⟨b, off, hat, by rw [addr_add, c1, g1, Nat.add_zero, Nat.add_mul, Nat.add_assoc]⟩
        · cases h
      · cases h
    · rename_i es rows
      split at h
      · rename_i hc
        obtain ⟨c1, c2, c3, c4⟩ := hc
        cases hrow : rows[n.toNat]? with
        | none => rw [hrow] at h; cases h
        | some row =>
          rw [hrow] at h; cases h
          cases hd with
          | c h => cases h with
            | nilI => simp at c4; omega
            | imm hS hcap hl hrep =>
              rename_i b off cap
              obtain ⟨xs, ys, e1, e2, _⟩ := flatten_split hl n.toNat row hrow
              rw [e1] at hrep
              obtain ⟨f1, f2, hff, _, hr2⟩ := hrep.append
              obtain ⟨rfl, rfl⟩ := List.append_eq_nil_iff.1 hff.symm
              obtain ⟨f3, f4, hff, hr3, _⟩ := hr2.append
              obtain ⟨rfl, rfl⟩ := List.append_eq_nil_iff.1 hff.symm
              refine ⟨_, run_indexAt_slice hu (by omega) c3 c4, ?_⟩
              rw [addr_add, c1, ← e2]
              exact .q hS hr3
      · cases h
    · cases h
  · rename_i len e hk
    have hu := tk_arr hk
    split at h
    · rename_i r el c
      split at h
      · rename_i hc
        obtain ⟨c1, c2, c3, c4⟩ := hc
        cases h
        obtain ⟨R, p, f, b, off, h1, h2, h3, h4, h5, rfl⟩ := ptr_live hr c1 hd
        refine ⟨_, run_indexAt_arr hu c2 c3 c4, .c (.p (lt_len h2) fun pl hpl => ?_)⟩
        rw [h2] at hpl; cases hpl
        exact ⟨b, off, h5, by rw [addr_add]; simp [Nat.add_assoc]⟩
      · cases h
    · rename_i xs
      split at h
      · rename_i hc
        obtain ⟨c2, c3, c4⟩ := hc
        cases h
        cases hd with
        | q hS hrep =>
          refine ⟨_, run_indexAt_arr hu c2 c3 c4, ?_⟩
          rw [addr_add]
          refine .q hS ?_
          by_cases hc : n.toNat * tsz P e ≤ xs.length
          · rw [← List.take_append_drop (n.toNat * tsz P e) xs] at hrep
            obtain ⟨f1, f2, hff, _, hr2⟩ := hrep.append
            obtain ⟨rfl, rfl⟩ := List.append_eq_nil_iff.1 hff.symm
            rw [List.length_take, Nat.min_eq_left hc] at hr2
            exact hr2
          · rw [List.drop_eq_nil_of_le (by omega)]; exact .lnil
      · cases h
    · cases h
  · cases h

theorem str_inv {s : ByteArray} {v : Value} (hd : RepD w S E (.c (.v (.string s))) v) : v = .string s ∧ s.size ≤ maxStr := by
  cases hd with
  | c h => cases h with
    | v h => exact ⟨rfl, h⟩

theorem v_inv {x v : Value} (hd : RepD w S E (.c (.v x)) v) : v = x ∧ Sc x := by
  cases hd with
  | c h => cases h with
    | v h => exact ⟨rfl, h⟩

theorem bytes_getD (s : ByteArray) (i : Nat) (h : i < s.size) : s[i]? = some (s.data.toList.getD i 0) := by
  have h' : i < s.data.size := h
  rw [getElem?_pos s i h, List.getD_eq_getElem?_getD, Array.getElem?_toList, Array.getElem?_eq_getElem h']
  rfl

theorem qindex_sound {t : TypeId} {d d' : D} {v : Value} {k : IntKind} {n : Int} (hd : RepD w S E d v) (h : qindex P t d n = some d') :
    ∃ v', (Instr.index t v (.int k n)).run P w = .ok v' w ∧ RepD w S E d' v' := by
  unfold qindex at h
  split at h
  · rename_i hk
    split at h
    · rename_i s
      obtain ⟨rfl, hs⟩ := str_inv hd
      split at h
      · rename_i hc
        cases h
        have hg := bytes_getD s n.toNat (by omega)
        generalize s.data.toList.getD n.toNat 0 = y at *
        refine ⟨.int .u8 y.toNat, ?_, .c (.v ?_)⟩
        · simp [Instr.index, asIntOf, run_und (tk_str hk), hc.1, hg]
        · have := y.toNat_lt
          simp [Sc, inR]; omega
      · cases h
    · cases h
  · rename_i len e hk
    split at h
    · obtain ⟨arr, rfl, hrep⟩ := agg_inv hd
      split at h
      · rename_i hc
        obtain ⟨c1, c2, c3⟩ := hc
        obtain ⟨v', h1, h2⟩ := qpart_sound hrep h
        exact ⟨v', by simp [Instr.index, asIntOf, run_und (tk_arr hk), c2, c3, run_tsz' c1, h1], h2⟩
      · cases h
    · cases h
  · cases h

theorem bool_inv {b : Bool} {v : Value} (hd : RepD w S E (.c (.v (.bool b))) v) : v = .bool b := (v_inv hd).1

theorem qpick_sound {dc da db d' : D} {vc va vb : Value} (hc : RepD w S E dc vc) (ha : RepD w S E da va) (hb : RepD w S E db vb) (h : qpick dc da db = some d') :
    ∃ c, vc = .bool c ∧ RepD w S E d' (if c then va else vb) := by
  unfold qpick at h
  split at h
  · rename_i c
    refine ⟨c, bool_inv hc, ?_⟩
    split at h
    · cases h
      obtain rfl := bool_inv ha
      obtain rfl := bool_inv hb
      cases c <;> exact .c (.v trivial)
    · cases h
      cases c
      · exact hb
      · exact ha
  · cases h

theorem qext_sound {i : Nat} {d d' : D} {v : Value} (hd : RepD w S E d v) (h : qext i d = some d') : ∃ v', (Instr.extract v i).run P w = .ok v' w ∧ RepD w S E d' v' := by
  unfold qext at h
  split at h
  · cases hd with
    | t hn hh =>
      rename_i ds arr
      have hi := lt_len h
      have := hh i d' h
      refine ⟨arr.getD i undef, ?_, this⟩
      have h' : i < arr.size := by omega
      simp [Instr.extract, Array.getD, h']
  · cases h

theorem qlen_sound (hr : Rel g S E F A a w) {t : TypeId} {ty : TypeId} {d d' : D} {v : Value} (hd : RepD w S E d v) (h : qlen P A.H t d = some d') :
    ∃ v', (Builtin.len_ #[t] ty #[v]).run P w = .ok v' w ∧ RepD w S E d' v' := by
  unfold qlen at h
  split at h
  · rename_i s
    split at h
    · rename_i hk
      obtain ⟨rfl, hs⟩ := str_inv hd
      cases h
      exact ⟨.int .i64 s.size, by simp [Builtin.len_, run_und (tk_str hk), goInt], .c (.v (by simp [Sc, inR]; unfold maxStr at hs; omega))⟩
    · cases h
  · rename_i o es rows
    split at h
    · rename_i e hk
      split at h
      · rename_i hm
        cases h
        have : ∃ ad cap, v = .slice ad rows.length cap := by
          cases hd with
          | c h => cases h <;> exact ⟨_, _, rfl⟩
        obtain ⟨ad, cap, rfl⟩ := this
        exact ⟨.int .i64 rows.length, by simp [Builtin.len_, run_und (tk_slice hk), goInt], .c (.v (by simp [Sc, inR]; unfold maxStr at hm; omega))⟩
      · cases h
    · cases h
  · rename_i r lo len
    split at h
    · rename_i e hk
      split at h
      · rename_i hm
        obtain ⟨hl, hm⟩ := hm
        cases h
        obtain ⟨R, _, _, hR, _, _, _⟩ := live_root hr hl
        obtain ⟨p, f, h1, h2, h3, h4⟩ := handle_live hr hR hd
        obtain ⟨g1, g2, g3, g4, g5⟩ := h3
        obtain ⟨k1, k2⟩ := h4
        have : ∃ ad cap, v = .slice ad len cap := by
          cases hat : p.at? with
          | none =>
            rw [hat] at g5 k2
            obtain ⟨e1, _, _⟩ := g5
            rw [e1] at g2
            obtain ⟨ad, rfl⟩ := k2
            have : len = 0 := by simp at g2; omega
            subst this
            exact ⟨_, _, rfl⟩
          | some bo => rw [hat] at k2; obtain ⟨ad, cap, rfl, _⟩ := k2; exact ⟨_, _, rfl⟩
        obtain ⟨ad, cap, rfl⟩ := this
        exact ⟨.int .i64 len, by simp [Builtin.len_, run_und (tk_slice hk), goInt], .c (.v (by simp [Sc, inR]; unfold maxStr at hm; omega))⟩
      · cases h
    · cases h
  · split at h
    · rename_i hk
      cases h
      obtain ⟨rfl, _⟩ := v_inv hd
      exact ⟨.int .i64 0, by simp [Builtin.len_, run_und (tk_map hk), goInt], .c (.v (by simp [Sc, inR]))⟩
    · cases h
  · cases h

end
end Go.Dl
