/- 'Dl', part F: quiet operations are what the function says: indexes, slices, operators; 'Dl', part G: operators, slice expressions; the whole function; 'Dl', part H: slice expressions, equality; what quiet operations come to; 'Dl', part I: one operation, a region in the text's order; 'Dl', part J: the relation when the world changes: a new root. -/
import Derived.Test.YtbefgbljlmnfoaaC01
import Derived.Laws.Append
import Derived.Laws.IdiomCopy
namespace Go.Dl
open Go.RowKit

section
variable {P : Program} {g : G} {S : Nat → Prop} {E : Env} {F : List (List Nat)} {A : St} {a : Act} {w : World}

theorem tk_slice {t e : TypeId} (h : tk P t = some (.slice e)) : P.underlying t = some (.slice e) := by
  obtain ⟨d, hu, hd⟩ := tk_some h
  cases d <;> simp [TK.of] at hd
  subst hd; exact hu
theorem tk_arr {t n e : Nat} (h : tk P t = some (.arr n e)) : P.underlying t = some (.array n e) := by
  obtain ⟨d, hu, hd⟩ := tk_some h
  cases d <;> simp [TK.of] at hd
  obtain ⟨rfl, rfl⟩ := hd; exact hu
theorem tk_str {t : TypeId} (h : tk P t = some .str) : P.underlying t = some .string := by
  obtain ⟨d, hu, hd⟩ := tk_some h
  cases d <;> simp [TK.of] at hd
  exact hu
theorem tk_int {t : TypeId} {k : IntKind} (h : tk P t = some (.int k)) : P.underlying t = some (.int k) := by
  obtain ⟨d, hu, hd⟩ := tk_some h
  cases d <;> simp [TK.of] at hd
  subst hd; exact hu
theorem tk_bool {t : TypeId} (h : tk P t = some .bool) : P.underlying t = some .bool := by
  obtain ⟨d, hu, hd⟩ := tk_some h
  cases d <;> simp [TK.of] at hd
  exact hu
theorem tk_ptr {t e : TypeId} (h : tk P t = some (.ptr e)) : P.underlying t = some (.pointer e) := by
  obtain ⟨d, hu, hd⟩ := tk_some h
  cases d <;> simp [TK.of] at hd
  subst hd; exact hu
theorem tk_map {t k e : TypeId} (h : tk P t = some (.map k e)) : P.underlying t = some (.map k e) := by
  obtain ⟨d, hu, hd⟩ := tk_some h
  cases d <;> simp [TK.of] at hd
  obtain ⟨rfl, rfl⟩ := hd; exact hu
theorem tk_func {t : TypeId} (h : tk P t = some .func) : ∃ ps rs v, P.underlying t = some (.func ps rs v) := by
  obtain ⟨d, hu, hd⟩ := tk_some h
  cases d <;> simp [TK.of] at hd
  exact ⟨_, _, _, hu⟩

theorem handle_live (hr : Rel g S E F A a w) {r lo len : Nat} {v : Value} {R : Root} (hR : A.H[r]? = some (some R)) (hd : RepD w S E (.c (.h r lo len)) v) :
    ∃ p f, E[r]? = some (some p) ∧ F[r]? = some f ∧ RootAt w S E R p f ∧ HandleAt p lo len v := by
  obtain ⟨p, f, h1, h2, h3⟩ := hr.root r R hR
  cases hd with
  | c h => cases h with
    | h _ hh => exact ⟨p, f, h1, h2, h3, hh p h1⟩

theorem lt_len {α : Type} {l : List α} {i : Nat} {x : α} (h : l[i]? = some x) : i < l.length := by
  rcases Nat.lt_or_ge i l.length with h' | h'
  · exact h'
  · rw [List.getElem?_eq_none h'] at h; cases h

theorem run_indexAt_slice {t e : TypeId} {k : IntKind} {n : Int} {ad : Addr} {len cap : Nat} (hu : P.underlying t = some (.slice e)) (hz : tsz P e ≠ 0) (h0 : 0 ≤ n) (h1 : n < len) :
    (Instr.indexAt t (.slice (some ad) len cap) (.int k n)).run P w = .ok (.pointer (some (ad.add (n.toNat * tsz P e)))) w := by
  simp [Instr.indexAt, asIntOf, run_und hu, h0, h1, run_tsz' hz]

theorem run_indexAt_arr {t e : TypeId} {k : IntKind} {n : Int} {ad : Addr} {len : Nat} (hu : P.underlying t = some (.array len e)) (hz : tsz P e ≠ 0) (h0 : 0 ≤ n) (h1 : n < len) :
    (Instr.indexAt t (.pointer (some ad)) (.int k n)).run P w = .ok (.pointer (some (ad.add (n.toNat * tsz P e)))) w := by
  simp [Instr.indexAt, asIntOf, run_und hu, Instr.sureAddr, h0, h1, run_tsz' hz]

theorem qindexAddr_sound (hr : Rel g S E F A a w) {t : TypeId} {d d' : D} {v : Value} {k : IntKind} {n : Int} (hd : RepD w S E d v) (h : qindexAddr P A.H t d n = some d') :
    ∃ v', (Instr.indexAt t v (.int k n)).run P w = .ok v' w ∧ RepD w S E d' v' := by
  unfold qindexAddr at h
  split at h
  · rename_i e hk
    have hu := tk_slice hk
    split at h
    · rename_i r lo len
      split at h
      · rename_i R hR
        split at h
        · rename_i hc
          obtain ⟨c1, c2, c3, c4⟩ := hc
          cases h
          obtain ⟨p, f, h1, h2, h3, h4⟩ := handle_live hr hR hd
          obtain ⟨g1, g2, g3, g4, g5⟩ := h3
          obtain ⟨k1, k2⟩ := h4
          cases hat : p.at? with
          | none =>
            rw [hat] at g5
            obtain ⟨e1, _, _⟩ := g5
            rw [e1] at g2; simp at g2; omega
          | some bo =>
            obtain ⟨b, off⟩ := bo
            rw [hat] at k2
            obtain ⟨ad, cap, rfl, e2, e3, e4⟩ := k2
            have : ad = ⟨b, off + lo * p.es, none⟩ := by
              rcases e4 with e4 | e4
              · omega
              · exact e4
            subst this
            refine ⟨_, run_indexAt_slice hu (by omega) c3 c4, .c (.p (lt_len h1) fun pl hpl => ?_)⟩
            rw [h1] at hpl; cases hpl
            exact ⟨b, off, hat, by rw [addr_add, c1, g1, Nat.add_zero, Nat.add_mul, Nat.add_assoc]⟩
        · cases h
      · cases h
    · rename_i es rows
      split at h
      · rename_i hc
        obtain ⟨c1, c2, c3, c4⟩ := hc
        cases hrow : rows[n.toNat]? with
        | none => rw [hrow] at h; cases h
        | some row =>
          rw [hrow] at h; cases h
          cases hd with
          | c h => cases h with
            | nilI => simp at c4; omega
            | imm hS hcap hl hrep =>
              rename_i b off cap
              obtain ⟨xs, ys, e1, e2, _⟩ := flatten_split hl n.toNat row hrow
              rw [e1] at hrep
              obtain ⟨f1, f2, hff, _, hr2⟩ := hrep.append
              obtain ⟨rfl, rfl⟩ := List.append_eq_nil_iff.1 hff.symm
              obtain ⟨f3, f4, hff, hr3, _⟩ := hr2.append
              obtain ⟨rfl, rfl⟩ := List.append_eq_nil_iff.1 hff.symm
              refine ⟨_, run_indexAt_slice hu (by omega) c3 c4, ?_⟩
              rw [addr_add, c1, ← e2]
              exact .q hS hr3
      · cases h
    · cases h
  · rename_i len e hk
    have hu := tk_arr hk
    split at h
    · rename_i r el c
      split at h
      · rename_i hc
        obtain ⟨c1, c2, c3, c4⟩ := hc
        cases h
        obtain ⟨R, p, f, b, off, h1, h2, h3, h4, h5, rfl⟩ := ptr_live hr c1 hd
        refine ⟨_, run_indexAt_arr hu c2 c3 c4, .c (.p (lt_len h2) fun pl hpl => ?_)⟩
        rw [h2] at hpl; cases hpl
        exact ⟨b, off, h5, by rw [addr_add]; simp [Nat.add_assoc]⟩
      · cases h
    · rename_i xs
      split at h
      · rename_i hc
        obtain ⟨c2, c3, c4⟩ := hc
        cases h
        cases hd with
        | q hS hrep =>
          refine ⟨_, run_indexAt_arr hu c2 c3 c4, ?_⟩
          rw [addr_add]
          refine .q hS ?_
          by_cases hc : n.toNat * tsz P e ≤ xs.length
          · rw [← List.take_append_drop (n.toNat * tsz P e) xs] at hrep
            obtain ⟨f1, f2, hff, _, hr2⟩ := hrep.append
            obtain ⟨rfl, rfl⟩ := List.append_eq_nil_iff.1 hff.symm
            rw [List.length_take, Nat.min_eq_left hc] at hr2
            exact hr2
          · rw [List.drop_eq_nil_of_le (by omega)]; exact .lnil
      · cases h
    · cases h
  · cases h

theorem str_inv {s : ByteArray} {v : Value} (hd : RepD w S E (.c (.v (.string s))) v) : v = .string s ∧ s.size ≤ maxStr := by
  cases hd with
  | c h => cases h with
    | v h => exact ⟨rfl, h⟩

theorem v_inv {x v : Value} (hd : RepD w S E (.c (.v x)) v) : v = x ∧ Sc x := by
  cases hd with
  | c h => cases h with
    | v h => exact ⟨rfl, h⟩

theorem bytes_getD (s : ByteArray) (i : Nat) (h : i < s.size) : s[i]? = some (s.data.toList.getD i 0) := by
  have h' : i < s.data.size := h
  rw [getElem?_pos s i h, List.getD_eq_getElem?_getD, Array.getElem?_toList, Array.getElem?_eq_getElem h']
  rfl

theorem qindex_sound {t : TypeId} {d d' : D} {v : Value} {k : IntKind} {n : Int} (hd : RepD w S E d v) (h : qindex P t d n = some d') :
    ∃ v', (Instr.index t v (.int k n)).run P w = .ok v' w ∧ RepD w S E d' v' := by
  unfold qindex at h
  split at h
  · rename_i hk
    split at h
    · rename_i s
      obtain ⟨rfl, hs⟩ := str_inv hd
      split at h
      · rename_i hc
        cases h
        have hg := bytes_getD s n.toNat (by omega)
        generalize s.data.toList.getD n.toNat 0 = y at *
        refine ⟨.int .u8 y.toNat, ?_, .c (.v ?_)⟩
        · simp [Instr.index, asIntOf, run_und (tk_str hk), hc.1, hg]
        · have := y.toNat_lt
          simp [Sc, inR]; omega
      · cases h
    · cases h
  · rename_i len e hk
    split at h
    · obtain ⟨arr, rfl, hrep⟩ := agg_inv hd
      split at h
      · rename_i hc
        obtain ⟨c1, c2, c3⟩ := hc
        obtain ⟨v', h1, h2⟩ := qpart_sound hrep h
        exact ⟨v', by simp [Instr.index, asIntOf, run_und (tk_arr hk), c2, c3, run_tsz' c1, h1], h2⟩
      · cases h
    · cases h
  · cases h

theorem bool_inv {b : Bool} {v : Value} (hd : RepD w S E (.c (.v (.bool b))) v) : v = .bool b := (v_inv hd).1

theorem qpick_sound {dc da db d' : D} {vc va vb : Value} (hc : RepD w S E dc vc) (ha : RepD w S E da va) (hb : RepD w S E db vb) (h : qpick dc da db = some d') :
    ∃ c, vc = .bool c ∧ RepD w S E d' (if c then va else vb) := by
  unfold qpick at h
  split at h
  · rename_i c
    refine ⟨c, bool_inv hc, ?_⟩
    split at h
    · cases h
      obtain rfl := bool_inv ha
      obtain rfl := bool_inv hb
      cases c <;> exact .c (.v trivial)
    · cases h
      cases c
      · exact hb
      · exact ha
  · cases h

theorem qext_sound {i : Nat} {d d' : D} {v : Value} (hd : RepD w S E d v) (h : qext i d = some d') : ∃ v', (Instr.extract v i).run P w = .ok v' w ∧ RepD w S E d' v' := by
  unfold qext at h
  split at h
  · cases hd with
    | t hn hh =>
      rename_i ds arr
      have hi := lt_len h
      have := hh i d' h
      refine ⟨arr.getD i undef, ?_, this⟩
      have h' : i < arr.size := by omega
      simp [Instr.extract, Array.getD, h']
  · cases h

theorem qlen_sound (hr : Rel g S E F A a w) {t : TypeId} {ty : TypeId} {d d' : D} {v : Value} (hd : RepD w S E d v) (h : qlen P A.H t d = some d') :
    ∃ v', (Builtin.len_ #[t] ty #[v]).run P w = .ok v' w ∧ RepD w S E d' v' := by
  unfold qlen at h
  split at h
  · rename_i s
    split at h
    · rename_i hk
      obtain ⟨rfl, hs⟩ := str_inv hd
      cases h
      exact ⟨.int .i64 s.size, by simp [Builtin.len_, run_und (tk_str hk), goInt], .c (.v (by simp [Sc, inR]; unfold maxStr at hs; omega))⟩
    · cases h
  · rename_i o es rows
    split at h
    · rename_i e hk
      split at h
      · rename_i hm
        cases h
        have : ∃ ad cap, v = .slice ad rows.length cap := by
          cases hd with
          | c h => cases h <;> exact ⟨_, _, rfl⟩
        obtain ⟨ad, cap, rfl⟩ := this
        exact ⟨.int .i64 rows.length, by simp [Builtin.len_, run_und (tk_slice hk), goInt], .c (.v (by simp [Sc, inR]; unfold maxStr at hm; omega))⟩
      · cases h
    · cases h
  · rename_i r lo len
    split at h
    · rename_i e hk
      split at h
      · rename_i hm
        obtain ⟨hl, hm⟩ := hm
        cases h
        obtain ⟨R, _, _, hR, _, _, _⟩ := live_root hr hl
        obtain ⟨p, f, h1, h2, h3, h4⟩ := handle_live hr hR hd
        obtain ⟨g1, g2, g3, g4, g5⟩ := h3
        obtain ⟨k1, k2⟩ := h4
        have : ∃ ad cap, v = .slice ad len cap := by
          cases hat : p.at? with
          | none =>
            rw [hat] at g5 k2
            obtain ⟨e1, _, _⟩ := g5
            rw [e1] at g2
            obtain ⟨ad, rfl⟩ := k2
            have : len = 0 := by simp at g2; omega
            subst this
            exact ⟨_, _, rfl⟩
          | some bo => rw [hat] at k2; obtain ⟨ad, cap, rfl, _⟩ := k2; exact ⟨_, _, rfl⟩
        obtain ⟨ad, cap, rfl⟩ := this
        exact ⟨.int .i64 len, by simp [Builtin.len_, run_und (tk_slice hk), goInt], .c (.v (by simp [Sc, inR]; unfold maxStr at hm; omega))⟩
      · cases h
    · cases h
  · split at h
    · rename_i hk
      cases h
      obtain ⟨rfl, _⟩ := v_inv hd
      exact ⟨.int .i64 0, by simp [Builtin.len_, run_und (tk_map hk), goInt], .c (.v (by simp [Sc, inR]))⟩
    · cases h
  · cases h

end
end Go.Dl

namespace Go.Dl
open Go.RowKit

section
variable {P : Program} {g : G} {S : Nat → Prop} {E : Env} {F : List (List Nat)} {A : St} {a : Act} {w : World}

theorem tmod_inR {k : IntKind} {x y : Int} (hx : inR k x = true) (hy : inR k y = true) : inR k (x.tmod y) = true := by
  have h1 : (x.tmod y).natAbs ≤ x.natAbs := by rw [Int.natAbs_tmod]; exact Nat.mod_le _ _
  have h2 : 0 ≤ x → 0 ≤ x.tmod y := fun h => Int.tmod_nonneg y h
  have h3 : x ≤ 0 → x.tmod y ≤ 0 := fun h => by
    have := Int.tmod_nonneg y (a := -x) (by omega)
    rw [Int.neg_tmod] at this; omega
  cases k <;> simp only [inR, Bool.and_eq_true, decide_eq_true_eq] at * <;> omega

theorem fdiv_pow_le (x : Int) (n : Nat) : (0 ≤ x → 0 ≤ x.fdiv (2 ^ n) ∧ x.fdiv (2 ^ n) ≤ x) ∧ (x < 0 → x ≤ x.fdiv (2 ^ n) ∧ x.fdiv (2 ^ n) < 0) := by
  have hp : (0 : Int) < 2 ^ n := Int.pow_pos (by omega)
  rw [Int.fdiv_eq_ediv_of_nonneg _ (by omega)]
  refine ⟨fun h => ⟨Int.ediv_nonneg h (by omega), Int.ediv_le_self _ h⟩, fun h => ⟨?_, Int.ediv_neg_of_neg_of_pos h hp⟩⟩
  have h1 : (2 ^ n : Int) * (x / 2 ^ n) + x % 2 ^ n = x := Int.mul_ediv_add_emod x (2 ^ n)
  have h2 := Int.emod_nonneg x (b := 2 ^ n) (by omega)
  have h3 : x / 2 ^ n < 0 := Int.ediv_neg_of_neg_of_pos h hp
  have h4 : (2 ^ n : Int) * (x / 2 ^ n) ≤ 1 * (x / 2 ^ n) := Int.mul_le_mul_of_nonpos_right (by omega) (by omega)
  have h5 := Int.emod_lt_of_pos x hp
  rcases Int.lt_or_le (x / 2 ^ n) x with h6 | h6
  · have h7 : (2 ^ n : Int) * (x / 2 ^ n) ≤ 2 ^ n * (x - 1) := Int.mul_le_mul_of_nonneg_left (by omega) (by omega)
    have h8 : (2 ^ n : Int) * (x - 1) + 2 ^ n = 2 ^ n * x := by rw [Int.mul_sub]; omega
    have h9 : (2 ^ n : Int) * x ≤ 1 * x := Int.mul_le_mul_of_nonpos_right (by omega) (by omega)
    omega
  · omega

theorem fdiv_inR {k : IntKind} {x : Int} {n : Nat} (hx : inR k x = true) : inR k (x.fdiv (2 ^ n)) = true := by
  have h := fdiv_pow_le x n
  cases k <;> simp only [inR, Bool.and_eq_true, decide_eq_true_eq] at * <;> omega

theorem dec_eq (x y : Int) : (x == y) = decide (x = y) := by
  by_cases h : x = y <;> simp [h]

theorem qint_sound {op : BinOp} {t : TypeId} {k : IntKind} {x y : Int} {c : C} (hx : inR k x = true) (hy : inR k y = true) (hs : isShift op = false) (h : qint op k x y = some c) :
    ∃ v', c = .v v' ∧ (binOp op t (.int k x) (.int k y)).run P w = .ok v' w ∧ Sc v' := by
  cases op <;> simp only [qint, Option.some.injEq, reduceCtorEq] at h <;> try (simp [isShift] at hs; done)
  case quo =>
    split at h
    · cases h
    · rename_i hz; cases h; exact ⟨_, rfl, by simp [binOp, Op.intDiv, hz], wrap_inR _ _⟩
  case rem =>
    split at h
    · cases h
    · rename_i hz; cases h
      rw [wrap_id _ _ (tmod_inR hx hy)]
      exact ⟨_, rfl, by simp [binOp, Op.intDiv, hz], tmod_inR hx hy⟩
  case eql => subst h; exact ⟨_, rfl, by simp only [binOp, Op.intCmp, dec_eq]; simp, trivial⟩
  case neq => subst h; exact ⟨_, rfl, by simp only [binOp, Op.intCmp, bne, dec_eq]; simp, trivial⟩
  case add => subst h; exact ⟨_, rfl, by simp [binOp, Op.intArith], wrap_inR _ _⟩
  case sub => subst h; exact ⟨_, rfl, by simp [binOp, Op.intArith], wrap_inR _ _⟩
  case mul => subst h; exact ⟨_, rfl, by simp [binOp, Op.intArith], wrap_inR _ _⟩
  case and => subst h; exact ⟨_, rfl, by simp [binOp, Op.intBits], wrap_inR _ _⟩
  case or => subst h; exact ⟨_, rfl, by simp [binOp, Op.intBits], wrap_inR _ _⟩
  case xor => subst h; exact ⟨_, rfl, by simp [binOp, Op.intBits], wrap_inR _ _⟩
  case andNot => subst h; exact ⟨_, rfl, by simp [binOp, Op.intBits], wrap_inR _ _⟩
  all_goals (subst h; exact ⟨_, rfl, by simp [binOp, Op.intCmp], trivial⟩)

theorem qshift_sound {op : BinOp} {t : TypeId} {k k' : IntKind} {x y : Int} {c : C} (hx : inR k x = true) (h : qshift op k x y = some c) :
    ∃ v', c = .v v' ∧ (binOp op t (.int k x) (.int k' y)).run P w = .ok v' w ∧ Sc v' := by
  cases op <;> simp only [qshift, reduceCtorEq] at h
  · split at h
    · cases h
    · rename_i hz; cases h; exact ⟨_, rfl, by simp [binOp, Op.shift, hz], wrap_inR _ _⟩
  · split at h
    · cases h
    · rename_i hz; cases h
      rw [wrap_id _ _ (fdiv_inR hx)]
      exact ⟨_, rfl, by simp [binOp, Op.shift, hz], fdiv_inR hx⟩

theorem qstr_sound {op : BinOp} {t : TypeId} {x y : ByteArray} {c : C} (h : qstr op x y = some c) :
    ∃ v', c = .v v' ∧ (binOp op t (.string x) (.string y)).run P w = .ok v' w ∧ Sc v' := by
  cases op <;> simp only [qstr, Option.some.injEq, reduceCtorEq] at h
  case add =>
    split at h
    · rename_i hz
      cases h
      refine ⟨.string (x ++ y), rfl, ?_, ?_⟩
      · have : ¬ (((x.size + y.size : Nat) : Int) > IntKind.i64.max) := by simp [IntKind.max, IntKind.signed, IntKind.bits]; unfold maxStr at hz; omega
        simp only [binOp, Op.stringOp, if_neg this, Sem.run_pure]
      · show (x ++ y).size ≤ maxStr
        rw [ByteArray.size_append]; exact hz
    · cases h
  all_goals (subst h; exact ⟨_, rfl, by simp only [binOp, Op.stringOp]; rfl, trivial⟩)

theorem qun_sound {op : UnOp} {d d' : D} {v : Value} (hd : RepD w S E d v) (h : qun op d = some d') :
    ∃ v', (Op.unary op v).run P w = .ok v' w ∧ RepD w S E d' v' := by
  unfold qun at h
  split at h
  · rename_i k n
    obtain ⟨rfl, _⟩ := v_inv hd
    split at h
    · cases h; exact ⟨.int k (k.wrap (0 - n)), by simp [Op.unary, Op.intArith], .c (.v (wrap_inR _ _))⟩
    · cases h
  · rename_i b
    obtain ⟨rfl, _⟩ := v_inv hd
    split at h
    · cases h; exact ⟨.bool (!b), by simp [Op.unary], .c (.v trivial)⟩
    · cases h
  · cases h

theorem tk_und {t : TypeId} {k : TK} (h : tk P t = some k) : ∃ d, (underlying t).run P w = .ok d w := by
  obtain ⟨d, hu, _⟩ := tk_some h
  exact ⟨d, run_und hu w⟩

theorem qconv_sound {s t : TypeId} {d d' : D} {v : Value} (hd : RepD w S E d v) (h : qconv P s t d = some d') :
    ∃ v', (convert s t v).run P w = .ok v' w ∧ RepD w S E d' v' := by
  unfold qconv at h
  split at h
  · obtain ⟨rfl, _⟩ := v_inv hd
    split at h
    · rename_i k ks hk hs
      cases h
      obtain ⟨ds, hds⟩ := tk_und (w := w) hs
      refine ⟨.int k (k.wrap _), ?_, .c (.v (wrap_inR _ _))⟩
      simp only [convert, Sem.run_bind, hds, Result.andThen_ok, run_und (tk_int hk)]
      simp [Conv.intToInt]
    · cases h
  · obtain ⟨rfl, hsc⟩ := v_inv hd
    split at h
    · rename_i ks hk hs
      cases h
      obtain ⟨ds, hds⟩ := tk_und (w := w) hs
      refine ⟨_, ?_, .c (.v hsc)⟩
      simp only [convert, Sem.run_bind, hds, Result.andThen_ok, run_und (tk_str hk)]
      simp
    · cases h
  · cases h

theorem qbounds_sound {len cap : Nat} {lo hi : Option (Option D)} {vlo vhi : Option Value} {isS : Bool} {l h : Nat} (hcap : len ≤ cap)
    (hlo : ∀ d, lo = some (some d) → ∃ v, vlo = some v ∧ RepD w S E d v) (hlo0 : lo = none → vlo = none)
    (hhi : ∀ d, hi = some (some d) → ∃ v, vhi = some v ∧ RepD w S E d v) (hhi0 : hi = none → vhi = none)
    (hb : qbounds len lo hi = some (l, h)) : l ≤ h ∧ h ≤ len ∧ (Instr.sliceBounds isS len cap vlo vhi none).run P w = .ok (l, h, cap) w := by
  unfold qbounds at hb
  split at hb
  · rw [hhi0 rfl]
    split at hb
    · cases hb
      rw [hlo0 rfl]
      exact ⟨Nat.zero_le _, Nat.le_refl _, by simp [Instr.sliceBounds]⟩
    · rename_i d
      obtain ⟨v, rfl, hd⟩ := hlo d rfl
      split at hb
      · rename_i n hn
        obtain ⟨k, rfl, _⟩ := int_inv hd hn
        split at hb
        · rename_i hc
          cases hb
          exact ⟨by omega, Nat.le_refl _, by simp [Instr.sliceBounds, Instr.sliceBound, asIntOf, hc]⟩
        · cases hb
      · cases hb
    · cases hb
  · rename_i d
    obtain ⟨v, rfl, hd⟩ := hhi d rfl
    split at hb
    · rename_i n hn
      obtain ⟨k, rfl, _⟩ := int_inv hd hn
      split at hb
      · rename_i hc
        have hc' : 0 ≤ n ∧ n ≤ (cap : Int) := ⟨hc.1, by omega⟩
        split at hb
        · cases hb
          rw [hlo0 rfl]
          exact ⟨Nat.zero_le _, by omega, by simp [Instr.sliceBounds, Instr.sliceBound, asIntOf, hc']⟩
        · rename_i d2
          obtain ⟨v2, rfl, hd2⟩ := hlo d2 rfl
          split at hb
          · rename_i n2 hn2
            obtain ⟨k2, rfl, _⟩ := int_inv hd2 hn2
            split at hb
            · rename_i hc2
              cases hb
              exact ⟨by omega, by omega, by simp [Instr.sliceBounds, Instr.sliceBound, asIntOf, hc', hc2.1]; omega⟩
            · cases hb
          · cases hb
        · cases hb
      · cases hb
    · cases hb
  · cases hb

end
end Go.Dl

namespace Go.Dl
open Go.RowKit

section
variable {P : Program} {g : G} {S : Nat → Prop} {E : Env} {F : List (List Nat)} {A : St} {a : Act} {w : World}

theorem flatten_sub {w : World} {S : Nat → Prop} {E : Env} {dat : Bool} {es b off : Nat} {rows : List (List C)} {fp : List Nat} (hl : ∀ r ∈ rows, r.length = es)
    (h : Rep w S E (.l dat rows.flatten b off) fp) (l n : Nat) (hln : l + n ≤ rows.length) : ∃ f1 f2 f3, fp = f1 ++ (f2 ++ f3) ∧ Rep w S E (.l dat ((rows.drop l).take n).flatten b (off + l * es)) f2 := by
  have e : rows.flatten = (rows.take l).flatten ++ (((rows.drop l).take n).flatten ++ ((rows.drop l).drop n).flatten) := by
    rw [← List.flatten_append, List.take_append_drop, ← List.flatten_append, List.take_append_drop]
  rw [e] at h
  obtain ⟨f1, f23, rfl, _, h2⟩ := h.append
  obtain ⟨f2, f3, rfl, h3, _⟩ := h2.append
  refine ⟨f1, f2, f3, rfl, ?_⟩
  rw [flatten_len (es := es) (fun r hr => hl r (List.mem_of_mem_take hr)), List.length_take, Nat.min_eq_left (by omega)] at h3
  exact h3

theorem qslice_sound (hr : Rel g S E F A a w) {t : TypeId} {lo hi : Option (Option D)} {vlo vhi : Option Value} {d d' : D} {v : Value} (hd : RepD w S E d v)
    (hlo : ∀ d, lo = some (some d) → ∃ v, vlo = some v ∧ RepD w S E d v) (hlo0 : lo = none → vlo = none)
    (hhi : ∀ d, hi = some (some d) → ∃ v, vhi = some v ∧ RepD w S E d v) (hhi0 : hi = none → vhi = none) (h : qslice P A.H t lo hi d = some d') :
    ∃ v', (Instr.slice t v vlo vhi none).run P w = .ok v' w ∧ RepD w S E d' v' ∧ (∀ n e, P.underlying t ≠ some (.array n e)) := by
  unfold qslice at h
  split at h
  · rename_i s
    split at h
    · rename_i hk
      obtain ⟨rfl, hs⟩ := str_inv hd
      cases hb : qbounds s.size lo hi with
      | none => rw [hb] at h; cases h
      | some lh =>
        obtain ⟨l, h'⟩ := lh
        rw [hb] at h; cases h
        obtain ⟨b1, b2, b3⟩ := qbounds_sound (P := P) (isS := false) (Nat.le_refl s.size) hlo hlo0 hhi hhi0 hb
        refine ⟨.string (s.extract l h'), ?_, .c (.v ?_), fun n e => by rw [tk_str hk]; simp⟩
        · simp [Instr.slice, run_und (tk_str hk), b3]
        · show (s.extract l h').size ≤ maxStr
          rw [ByteArray.size_extract]; omega
    · cases h
  · rename_i es rows
    split at h
    · rename_i e hk
      split at h
      · rename_i hc
        obtain ⟨c1, c2⟩ := hc
        cases hb : qbounds rows.length lo hi with
        | none => rw [hb] at h; cases h
        | some lh =>
          obtain ⟨l, h'⟩ := lh
          rw [hb] at h; cases h
          have hz : tsz P e ≠ 0 := by omega
          have hund : ∀ n e, P.underlying t ≠ some (.array n e) := fun n e => by rw [tk_slice hk]; simp
          have hrep : ∃ ad cap, v = .slice ad rows.length cap ∧ rows.length ≤ cap ∧ (rows = [] ∨ ∃ b off, ad = some ⟨b, off, none⟩ ∧ S b ∧ (∀ r ∈ rows, r.length = es) ∧ Rep w S E (.l true rows.flatten b off) []) := by
            cases hd with
            | c h => cases h with
              | nilI => exact ⟨_, _, rfl, Nat.zero_le _, .inl rfl⟩
              | imm hS hcap hl hrep => exact ⟨_, _, rfl, hcap, .inr ⟨_, _, rfl, hS, hl, hrep⟩⟩
          obtain ⟨ad, cap, rfl, hcap, hor⟩ := hrep
          obtain ⟨b1, b2, b3⟩ := qbounds_sound (P := P) (isS := true) hcap hlo hlo0 hhi hhi0 hb
          refine ⟨_, by simp [Instr.slice, run_und (tk_slice hk), b3, run_tsz' hz]; rfl, .c ?_, hund⟩
          have hlen : ((rows.drop l).take (h' - l)).length = h' - l := by rw [List.length_take, List.length_drop]; omega
          by_cases hn : h' - l = 0
          · have : (rows.drop l).take (h' - l) = [] := List.eq_nil_of_length_eq_zero (by omega)
            rw [this, hn]
            exact .nilI
          · rcases hor with rfl | ⟨b, off, rfl, hS, hl, hrep⟩
            · simp at b2; omega
            · have hne : cap ≠ l := by omega
              rw [if_neg hne]
              obtain ⟨f1, f2, f3, hff, hr2⟩ := flatten_sub hl hrep l (h' - l) (by omega)
              obtain ⟨rfl, hff⟩ := List.append_eq_nil_iff.1 hff.symm
              obtain ⟨rfl, rfl⟩ := List.append_eq_nil_iff.1 (by simpa using hff)
              simp only [Option.map_some, addr_add, c1]
              have := Rep.imm (dat := false) (cap := cap - l) hS (by omega) (fun r hr => hl r (List.mem_of_mem_drop (List.mem_of_mem_take hr))) hr2
              rw [hlen] at this
              exact this
      · cases h
    · cases h
  · rename_i r l0 len
    split at h
    · rename_i e hk
      split at h
      · rename_i R hR
        split at h
        · rename_i hc
          obtain ⟨c1, c2⟩ := hc
          cases hb : qbounds len lo hi with
          | none => rw [hb] at h; cases h
          | some lh =>
            obtain ⟨l, h'⟩ := lh
            rw [hb] at h; cases h
            have hz : tsz P e ≠ 0 := by omega
            have hund : ∀ n e, P.underlying t ≠ some (.array n e) := fun n e => by rw [tk_slice hk]; simp
            obtain ⟨p, f, h1, h2, h3, h4⟩ := handle_live hr hR hd
            obtain ⟨g1, g2, g3, g4, g5⟩ := h3
            obtain ⟨k1, k2⟩ := h4
            cases hat : p.at? with
            | none =>
              rw [hat] at k2 g5
              obtain ⟨ad, rfl⟩ := k2
              obtain ⟨e1, _, e3⟩ := g5
              have hlen : len = 0 := by rw [e1] at g2; simp at g2; omega
              subst hlen
              obtain ⟨b1, b2, b3⟩ := qbounds_sound (P := P) (isS := true) (Nat.le_refl 0) hlo hlo0 hhi hhi0 hb
              have : l = 0 := by omega
              have : h' = 0 := by omega
              subst_vars
              refine ⟨.slice ad 0 0, by simp [Instr.slice, run_und (tk_slice hk), b3, run_tsz' hz], .c (.h (lt_len h1) fun pl hpl => ?_), hund⟩
              rw [h1] at hpl; cases hpl
              exact ⟨by omega, by rw [hat]; exact ⟨ad, rfl⟩⟩
            | some bo =>
              obtain ⟨b, off⟩ := bo
              rw [hat] at k2
              obtain ⟨ad, cap, rfl, e2, e3, e4⟩ := k2
              obtain ⟨b1, b2, b3⟩ := qbounds_sound (P := P) (isS := true) e2 hlo hlo0 hhi hhi0 hb
              refine ⟨_, by simp [Instr.slice, run_und (tk_slice hk), b3, run_tsz' hz]; rfl, .c (.h (lt_len h1) fun pl hpl => ?_), hund⟩
              rw [h1] at hpl; cases hpl
              refine ⟨by omega, ?_⟩
              rw [hat]
              by_cases hn : cap = l
              · rw [if_pos hn]
                exact ⟨ad, _, rfl, by omega, by omega, .inl (by omega)⟩
              · rw [if_neg hn]
                refine ⟨ad.add (l * tsz P e), _, rfl, by omega, by omega, .inr ?_⟩
                have : ad = ⟨b, off + l0 * p.es, none⟩ := by
                  rcases e4 with e4 | e4
                  · omega
                  · exact e4
                rw [this, addr_add, c1, g1, Nat.add_mul, Nat.add_assoc]
        · cases h
      · cases h
    · cases h
  · cases h

theorem qslice3_sound (hr : Rel g S E F A a w) {t : TypeId} {lo hi mx : Option D} {vlo vhi vmx : Value} {d d' : D} {v : Value} (hd : RepD w S E d v)
    (hlo : ∀ d, lo = some d → RepD w S E d vlo) (hhi : ∀ d, hi = some d → RepD w S E d vhi) (hmx : ∀ d, mx = some d → RepD w S E d vmx)
    (h : qslice3 P A.H t lo hi mx d = some d') : ∃ v', (Instr.slice t v (some vlo) (some vhi) (some vmx)).run P w = .ok v' w ∧ RepD w S E d' v' ∧ (∀ n e, P.underlying t ≠ some (.array n e)) := by
  unfold qslice3 at h
  split at h
  · rename_i e hk
    split at h
    · rename_i hc
      obtain ⟨c1, c2, c3, c4⟩ := hc
      have hund : ∀ n e, P.underlying t ≠ some (.array n e) := fun n e => by rw [tk_slice hk]; simp
      cases lo with
      | none => cases c2
      | some dl =>
        cases hi with
        | none => cases c3
        | some dh =>
          cases mx with
          | none => cases c4
          | some dm =>
            obtain ⟨k1, rfl, _⟩ := int_inv (hlo _ rfl) c2
            obtain ⟨k2, rfl, _⟩ := int_inv (hhi _ rfl) c3
            obtain ⟨k3, rfl, _⟩ := int_inv (hmx _ rfl) c4
            have key : ∀ (ad : Option Addr) (len cap : Nat), (Instr.slice t (.slice ad len cap) (some (.int k1 0)) (some (.int k2 0)) (some (.int k3 0))).run P w = .ok (.slice ad 0 0) w := by
              intro ad len cap
              simp [Instr.slice, run_und (tk_slice hk), Instr.sliceBounds, Instr.sliceBound, asIntOf, run_tsz' c1]
            split at h
            · cases h
              have : ∃ ad len cap, v = .slice ad len cap := by
                cases hd with
                | c h => cases h <;> exact ⟨_, _, _, rfl⟩
              obtain ⟨ad, len, cap, rfl⟩ := this
              exact ⟨_, key ad len cap, .c .nilO, hund⟩
            · split at h
              · rename_i hl
                cases h
                obtain ⟨R, _, _, hR, _⟩ := live_root hr hl
                obtain ⟨p, f, h1, h2, h3, h4⟩ := handle_live hr hR hd
                obtain ⟨g1, g2, g3, g4, g5⟩ := h3
                obtain ⟨q1, q2⟩ := h4
                have : ∃ ad len cap, v = .slice ad len cap := by
                  cases hat : p.at? with
                  | none => rw [hat] at q2; obtain ⟨ad, rfl⟩ := q2; exact ⟨_, _, _, rfl⟩
                  | some bo => rw [hat] at q2; obtain ⟨ad, cap, rfl, _⟩ := q2; exact ⟨_, _, _, rfl⟩
                obtain ⟨ad, len, cap, rfl⟩ := this
                exact ⟨_, key ad len cap, .c .nilO, hund⟩
              · cases h
            · cases h
    · cases h
  · cases h

/-- Values at which the test ahead of '==' lets by. -/
theorem run_eqGuard {op : BinOp} {t : TypeId} {x y : Operand} {u v : Value} (h1 : ¬ (u = .nilIface ∧ v = .nilIface)) (h2 : ¬ (∃ xs ys, u = .agg xs ∧ v = .agg ys)) :
    (eqGuard op t x y u v).run P w = .ok () w := by
  unfold eqGuard
  cases u <;> cases v <;> first
    | (exfalso; exact h1 ⟨rfl, rfl⟩)
    | (exfalso; exact h2 ⟨_, _, rfl, rfl⟩)
    | (simp only; split <;> simp)

section
variable {t e k : TypeId} {d : Nat}
theorem eqIn_bool {x y : Bool} (hk : P.underlying t = some .bool) : (Op.equalIn (d + 1) t (.bool x) (.bool y)).run P w = .ok (x == y) w := by
  simp [Op.equalIn, run_und hk]
theorem eqIn_ptr {x : Option Addr} (hk : P.underlying t = some (.pointer e)) : (Op.equalIn (d + 1) t (.pointer none) (.pointer x)).run P w = .ok x.isNone w := by
  simp [Op.equalIn, run_und hk]
theorem eqIn_ptr' {x : Option Addr} (hk : P.underlying t = some (.pointer e)) : (Op.equalIn (d + 1) t (.pointer x) (.pointer none)).run P w = .ok x.isNone w := by
  cases x <;> simp [Op.equalIn, run_und hk]
theorem eqIn_ptrs {x : Addr} (hk : P.underlying t = some (.pointer e)) (hz : tsz P e ≠ 0) : (Op.equalIn (d + 1) t (.pointer (some x)) (.pointer (some x))).run P w = .ok true w := by
  simp [Op.equalIn, run_und hk, run_tsz' hz, sameAddr]
theorem eqIn_func {ps rs : Array TypeId} {vr : Bool} {fn : Fn} {x y : Array Value} (hk : P.underlying t = some (.func ps rs vr)) : (Op.equalIn (d + 1) t (.func fn x y) .nilFunc).run P w = .ok false w := by
  simp [Op.equalIn, run_und hk]
theorem eqIn_func0 {ps rs : Array TypeId} {vr : Bool} (hk : P.underlying t = some (.func ps rs vr)) : (Op.equalIn (d + 1) t .nilFunc .nilFunc).run P w = .ok true w := by
  simp [Op.equalIn, run_und hk]
theorem eqIn_map0 (hk : P.underlying t = some (.map k e)) : (Op.equalIn (d + 1) t (.map none) (.map none)).run P w = .ok true w := by
  simp [Op.equalIn, run_und hk]
theorem eqIn_map1 {b : Nat} (hk : P.underlying t = some (.map k e)) : (Op.equalIn (d + 1) t (.map (some b)) (.map none)).run P w = .ok false w := by
  simp [Op.equalIn, run_und hk]
theorem eqIn_map2 {b : Nat} (hk : P.underlying t = some (.map k e)) : (Op.equalIn (d + 1) t (.map none) (.map (some b))).run P w = .ok false w := by
  simp [Op.equalIn, run_und hk]
end

theorem equal_succ (t : TypeId) (x y : Value) : Op.equal t x y = Op.equalIn (9999 + 1) t x y := rfl

/-- Neither a number, a text, an aggregate. -/
def plainEq (va vb : Value) : Prop :=
  ¬ (va = .nilIface ∧ vb = .nilIface) ∧ ¬ (∃ xs ys, va = .agg xs ∧ vb = .agg ys) ∧
      (∀ k x, va ≠ .int k x) ∧ (∀ k x, va ≠ .float k x) ∧ (∀ k x y, va ≠ .complex k x y) ∧ (∀ x, va ≠ .string x)

theorem qeq_sound (hr : Rel g S E F A a w) {t : TypeId} {da db : D} {va vb : Value} {r : Bool} (ha : RepD w S E da va) (hb : RepD w S E db vb) (h : qeq P A.H t da db = some r) :
    (Op.equal t va vb).run P w = .ok r w ∧ plainEq va vb := by
  rw [equal_succ]
  unfold qeq at h
  split at h
  · rename_i hk
    split at h
    · cases h
      obtain rfl := bool_inv ha
      obtain rfl := bool_inv hb
      exact ⟨eqIn_bool (tk_bool hk), by simp [plainEq]⟩
    · cases h
  · rename_i e hk
    split at h
    · cases h
      obtain ⟨rfl, _⟩ := v_inv ha
      obtain ⟨rfl, _⟩ := v_inv hb
      exact ⟨eqIn_ptr (tk_ptr hk), by simp [plainEq]⟩
    · split at h
      · rename_i hl
        cases h
        obtain ⟨R, p, f, b, off, h1, h2, h3, h4, h5, rfl⟩ := ptr_live hr hl ha
        obtain ⟨rfl, _⟩ := v_inv hb
        exact ⟨eqIn_ptr' (tk_ptr hk), by simp [plainEq]⟩
      · cases h
    · split at h
      · rename_i hl
        cases h
        obtain ⟨R, p, f, b, off, h1, h2, h3, h4, h5, rfl⟩ := ptr_live hr hl hb
        obtain ⟨rfl, _⟩ := v_inv ha
        exact ⟨eqIn_ptr (tk_ptr hk), by simp [plainEq]⟩
      · cases h
    · cases h
      obtain ⟨rfl, _⟩ := v_inv hb
      cases ha with
      | q _ _ => exact ⟨eqIn_ptr' (tk_ptr hk), by simp [plainEq]⟩
    · cases h
      obtain ⟨rfl, _⟩ := v_inv ha
      cases hb with
      | q _ _ => exact ⟨eqIn_ptr (tk_ptr hk), by simp [plainEq]⟩
    · split at h
      · rename_i hc
        obtain ⟨rfl, rfl, rfl, hz, hl⟩ := hc
        cases h
        obtain ⟨R, p, f, b, off, h1, h2, h3, h4, h5, rfl⟩ := ptr_live hr hl ha
        obtain ⟨R2, p2, f2, b2, off2, k1, k2, k3, k4, k5, rfl⟩ := ptr_live hr hl hb
        rw [h2] at k2; cases k2
        rw [h5] at k5; cases k5
        exact ⟨eqIn_ptrs (tk_ptr hk) hz, by simp [plainEq]⟩
      · cases h
    · cases h
  · rename_i hk
    obtain ⟨ps, rs, vr, hu⟩ := tk_func hk
    split at h
    · cases h
      obtain ⟨rfl, _⟩ := v_inv hb
      cases ha with
      | c h => cases h with
        | f _ _ => exact ⟨eqIn_func hu, by simp [plainEq]⟩
    · cases h
      obtain ⟨rfl, _⟩ := v_inv ha
      obtain ⟨rfl, _⟩ := v_inv hb
      exact ⟨eqIn_func0 hu, by simp [plainEq]⟩
    · cases h
  · rename_i k e hk
    split at h
    · cases h
      obtain ⟨rfl, _⟩ := v_inv ha
      obtain ⟨rfl, _⟩ := v_inv hb
      exact ⟨eqIn_map0 (tk_map hk), by simp [plainEq]⟩
    · cases h
      obtain ⟨rfl, _⟩ := v_inv hb
      cases ha with
      | c h => cases h with
        | m => exact ⟨eqIn_map1 (tk_map hk), by simp [plainEq]⟩
    · cases h
      obtain ⟨rfl, _⟩ := v_inv ha
      cases hb with
      | c h => cases h with
        | m => exact ⟨eqIn_map2 (tk_map hk), by simp [plainEq]⟩
    · cases h
  · cases h

theorem run_binOp_eql {t : TypeId} {u v : Value} {r : Bool} (h : plainEq u v) (he : (Op.equal t u v).run P w = .ok r w) : (binOp .eql t u v).run P w = .ok (.bool r) w := by
  obtain ⟨_, _, h1, h2, h3, h4⟩ := h
  cases u <;> first
    | exact absurd rfl (h1 _ _)
    | exact absurd rfl (h2 _ _)
    | exact absurd rfl (h3 _ _ _)
    | exact absurd rfl (h4 _)
    | (cases v <;> simp [binOp, he])

theorem run_binOp_neq {t : TypeId} {u v : Value} {r : Bool} (h : plainEq u v) (he : (Op.equal t u v).run P w = .ok r w) : (binOp .neq t u v).run P w = .ok (.bool !r) w := by
  obtain ⟨_, _, h1, h2, h3, h4⟩ := h
  cases u <;> first
    | exact absurd rfl (h1 _ _)
    | exact absurd rfl (h2 _ _)
    | exact absurd rfl (h3 _ _ _)
    | exact absurd rfl (h4 _)
    | (cases v <;> simp [binOp, he])

theorem eqFs_sound {n : Nat} {cs ds : List C} {xs ys : Array Value} (hc : Rep w S E (.vs cs xs.toList) []) (hd : Rep w S E (.vs ds ys.toList) []) : ∀ (fs : List Field) (i : Nat) (ks : List TK) (r : Bool),
    flatTs P i fs = some ks → eqCs ks (cs.drop i) (ds.drop i) = some r → (Op.eqFields (n + 1) xs ys fs).run P w = .ok r w
  | [], i, ks, r, hf, he => by
    cases hf
    cases hcs : cs.drop i with
    | cons c cs' => rw [hcs] at he; simp [eqCs] at he
    | nil =>
      cases hds : ds.drop i with
      | cons d ds' => rw [hcs, hds] at he; simp [eqCs] at he
      | nil =>
        rw [hcs, hds] at he
        cases he
        simp only [Op.eqFields, Sem.run_pure]
  | f :: fs, i, ks, r, hf, he => by
    simp only [flatTs] at hf
    split at hf
    · rename_i hcond
      obtain ⟨hname, hoff⟩ := hcond
      split at hf
      · rename_i k ks' hk hks
        cases hf
        cases hcs : cs.drop i with
        | nil => rw [hcs] at he; simp [eqCs] at he
        | cons c cs' =>
          cases hds : ds.drop i with
          | nil => rw [hcs, hds] at he; simp [eqCs] at he
          | cons d ds' =>
            rw [hcs, hds] at he
            simp only [eqCs] at he
            split at he
            · rename_i a b h1 h2
              cases he
              have gc : cs[i]? = some c := by have := congrArg (·[0]?) hcs; simpa using this
              have gd : ds[i]? = some d := by have := congrArg (·[0]?) hds; simpa using this
              have tc : cs.drop (i + 1) = cs' := by rw [← List.drop_drop, hcs]; rfl
              have td : ds.drop (i + 1) = ds' := by rw [← List.drop_drop, hds]; rfl
              have hag : k.agg = false := by unfold eqC at h1; split at h1 <;> first | rfl | cases h1
              have pc : qpart P f.type i cs = some (.c c) := by unfold qpart; rw [hk]; simp only [hag, gc]; rfl
              have pd : qpart P f.type i ds = some (.c d) := by unfold qpart; rw [hk]; simp only [hag, gd]; rfl
              obtain ⟨vc, rc, rc'⟩ := qpart_sound hc pc
              obtain ⟨vd, rd, rd'⟩ := qpart_sound hd pd
              have heq : (Op.equalIn (n + 1) f.type vc vd).run P w = .ok a w := by
                unfold eqC at h1
                split at h1
                · rename_i k0 k1 x k2 y
                  split at h1
                  · rename_i hkk
                    subst hkk
                    cases h1
                    obtain ⟨rfl, _⟩ := v_inv rc'
                    obtain ⟨rfl, _⟩ := v_inv rd'
                    rw [run_equalIn_int w n f.type k1 k0 x y (tk_int hk)]
                    by_cases hxy : x = y
                    · subst hxy; simp
                    · simp [hxy]
                  · cases h1
                · cases h1
                  obtain ⟨rfl, _⟩ := v_inv rc'
                  obtain ⟨rfl, _⟩ := v_inv rd'
                  rw [run_equalIn_bool' w n f.type _ _ (tk_bool hk)]
                · cases h1
                  obtain ⟨rfl, _⟩ := v_inv rc'
                  obtain ⟨rfl, _⟩ := v_inv rd'
                  rw [run_equalIn_string w n f.type _ _ (tk_str hk)]; rfl
                · cases h1
              simp only [Op.eqFields, if_pos hname, hoff, Sem.run_bind, rc, rd, heq, Result.andThen_ok, Sem.run_ite]
              cases a with
              | false => simp only [Bool.not_false, if_true, Sem.run_pure, Bool.false_and]
              | true =>
                simp only [Bool.not_true, Bool.false_eq_true, if_false, Bool.true_and]
                exact eqFs_sound hc hd fs (i + 1) ks' b hks (by rw [tc, td]; exact h2)
            · cases he
      · cases hf
    · cases hf

theorem qbin_sound (hr : Rel g S E F A a w) {op : BinOp} {t : TypeId} {x y : Operand} {da db d' : D} {va vb : Value} (ha : RepD w S E da va) (hb : RepD w S E db vb) (h : qbin P A.H op t da db = some d') :
    ∃ v', (eqGuard op t x y va vb).run P w = .ok () w ∧ (binOp op t va vb).run P w = .ok v' w ∧ RepD w S E d' v' := by
  unfold qbin at h
  split at h
  · rename_i xs ys
    obtain ⟨xa, rfl, hx⟩ := agg_inv ha
    obtain ⟨ya, rfl, hy⟩ := agg_inv hb
    split at h
    · rename_i e ks he hks
      cases hq : eqCs ks xs ys with
      | none => rw [hq] at h; cases h
      | some r =>
        rw [hq] at h; cases h
        unfold flatT at hks
        split at hks
        · rename_i fs hu
          split at hks
          · rename_i hc
            obtain ⟨c1, c2⟩ := hc
            have hfo : P.fieldsOf t = fs := by unfold Program.fieldsOf; rw [hu]
            have h1 : (Op.equalIn 10000 t (.agg xa) (.agg ya)).run P w = .ok r w := by
              have h0 := run_equalIn_struct (P := P) w 9999 t xa ya (by rw [hfo]; exact hu) c1
              rw [hfo] at h0
              exact h0.trans (eqFs_sound (n := 9998) hx hy fs.toList 0 ks r hks (by simpa using hq))
            have hg := run_eqGuard_agg (P := P) w op t x y xa ya c2
            cases op <;> simp [isEq] at he
            · subst he; exact ⟨.bool r, hg, by rw [run_eql_struct, h1]; rfl, .c (.v trivial)⟩
            · subst he; exact ⟨.bool (!r), hg, by rw [run_neq_struct, h1]; rfl, .c (.v trivial)⟩
          · cases hks
        · cases hks
    · cases h
  · rename_i k x k' y
    obtain ⟨rfl, hx⟩ := v_inv ha
    obtain ⟨rfl, hy⟩ := v_inv hb
    split at h
    · rename_i hs
      cases hq : qshift op k x y with
      | none => rw [hq] at h; cases h
      | some c =>
        rw [hq] at h; cases h
        obtain ⟨v', rfl, h1, h2⟩ := qshift_sound (P := P) (w := w) (t := t) (k' := k') hx hq
        exact ⟨v', run_eqGuard (by simp) (by simp), h1, .c (.v h2)⟩
    · rename_i hs
      split at h
      · rename_i hkk
        subst hkk
        cases hq : qint op k x y with
        | none => rw [hq] at h; cases h
        | some c =>
          rw [hq] at h; cases h
          obtain ⟨v', rfl, h1, h2⟩ := qint_sound (P := P) (w := w) (t := t) hx hy (by simpa using hs) hq
          exact ⟨v', run_eqGuard (by simp) (by simp), h1, .c (.v h2)⟩
      · cases h
  · rename_i x y
    obtain ⟨rfl, hx⟩ := v_inv ha
    obtain ⟨rfl, hy⟩ := v_inv hb
    cases hq : qstr op x y with
    | none => rw [hq] at h; cases h
    | some c =>
      rw [hq] at h; cases h
      obtain ⟨v', rfl, h1, h2⟩ := qstr_sound (P := P) (w := w) (t := t) hq
      exact ⟨v', run_eqGuard (by simp) (by simp), h1, .c (.v h2)⟩
  · split at h
    · rename_i e he
      cases hq : qeq P A.H t da db with
      | none => rw [hq] at h; cases h
      | some r =>
        rw [hq] at h; cases h
        obtain ⟨h1, h2⟩ := qeq_sound hr ha hb hq
        cases op <;> simp [isEq] at he
        · subst he; exact ⟨.bool r, run_eqGuard h2.1 h2.2.1, run_binOp_eql h2 h1, .c (.v trivial)⟩
        · subst he; exact ⟨.bool (!r), run_eqGuard h2.1 h2.2.1, run_binOp_neq h2 h1, .c (.v trivial)⟩
    · cases h

theorem qbuiltin_sound (hr : Rel g S E F A a w) {c : Call} {ty : TypeId} {d : D} (hev : ∀ {x : Operand} {d : D}, x ∈ (Op.operands (.call c)).toList → A.ev x = some d → RepD w S E d (a.eval x))
    (h : qbuiltin P A.ev A.H c = some d) : ∃ v, (do let d ← resolve a.eval c ty; invoke d.target d.args : Sem Next).run P w = .ok (.value v) w ∧ RepD w S E d v := by
  unfold qbuiltin at h
  split at h
  · rename_i hc
    split at h
    · rename_i x t hargs htys
      cases hx : A.ev x with
      | none => rw [hx] at h; cases h
      | some d0 =>
        rw [hx] at h
        have ha : c.args = #[x] := by apply Array.toList_inj.1; simpa using hargs
        have ht : c.argTypes = #[t] := by apply Array.toList_inj.1; simpa using htys
        obtain ⟨v', h1, h2⟩ := qlen_sound (P := P) (ty := ty) hr (hev (by simp [Op.operands, Call.operands, hc, ha]) hx) h
        exact ⟨v', by simp [resolve, invoke, builtin, hc, ha, ht, h1], h2⟩
    · cases h
  · rename_i hc
    split at h
    · rename_i x y hargs
      have ha : c.args = #[x, y] := by apply Array.toList_inj.1; simpa using hargs
      split at h
      · rename_i da db h1 h2
        have r1 := hev (x := x) (by simp [Op.operands, Call.operands, hc, ha]) h1
        have r2 := hev (x := y) (by simp [Op.operands, Call.operands, hc, ha]) h2
        unfold q2 at h
        split at h
        · rename_i k x' k' y'
          split at h
          · rename_i hk
            subst hk
            cases h
            obtain ⟨e1, s1⟩ := v_inv r1
            obtain ⟨e2, s2⟩ := v_inv r2
            refine ⟨.int k (if x' < y' then y' else x'), ?_, ?_⟩
            · simp [resolve, invoke, builtin, hc, ha, Builtin.max_, Builtin.max2, e1, e2]
            · simp only [if_true]
              refine .c (.v ?_)
              split
              · exact s2
              · exact s1
          · cases h
        · cases h
      · cases h
    · cases h
  · rename_i hc
    split at h
    · rename_i x y hargs
      have ha : c.args = #[x, y] := by apply Array.toList_inj.1; simpa using hargs
      split at h
      · rename_i da db h1 h2
        have r1 := hev (x := x) (by simp [Op.operands, Call.operands, hc, ha]) h1
        have r2 := hev (x := y) (by simp [Op.operands, Call.operands, hc, ha]) h2
        unfold q2 at h
        split at h
        · rename_i k x' k' y'
          split at h
          · rename_i hk
            subst hk
            cases h
            obtain ⟨e1, s1⟩ := v_inv r1
            obtain ⟨e2, s2⟩ := v_inv r2
            refine ⟨.int k (if y' < x' then y' else x'), ?_, ?_⟩
            · simp [resolve, invoke, builtin, hc, ha, Builtin.min_, Builtin.min2, e1, e2]
            · simp only [Bool.false_eq_true, if_false]
              refine .c (.v ?_)
              split
              · exact s2
              · exact s1
          · cases h
        · cases h
      · cases h
    · cases h
  · cases h

/-- A quiet operation is what the function says. -/
theorem qev_sound (hr : Rel g S E F A a w) {o : Oper} {d : D} (hop : o.op.operands.toList.all opdOK = true) (h : qev P A.ev A.H o.op = some d) :
    ∃ v, (execOp a.eval o).run P w = .ok (.value v) w ∧ RepD w S E d v := by
  have hev : ∀ {x : Operand} {d : D}, x ∈ o.op.operands.toList → A.ev x = some d → RepD w S E d (a.eval x) :=
    fun hx he => ev_rep hr (List.all_eq_true.1 hop _ hx) he
  unfold qev at h
  split at h
  · rename_i x ho
    exact ⟨a.eval x, by simp [execOp, ho], hev (by simp [ho, Op.operands]) h⟩
  · rename_i x ho
    exact ⟨a.eval x, by simp [execOp, ho], hev (by simp [ho, Op.operands]) h⟩
  · rename_i c x y ho
    split at h
    · rename_i dc da db h1 h2 h3
      obtain ⟨b, hb, hd⟩ := qpick_sound (hev (by simp [ho, Op.operands]) h1) (hev (by simp [ho, Op.operands]) h2) (hev (by simp [ho, Op.operands]) h3) h
      exact ⟨if b then a.eval x else a.eval y, by simp [execOp, ho, hb, asBool], hd⟩
    · cases h
  · rename_i t x ho
    cases hx : A.ev x with
    | none => rw [hx] at h; cases h
    | some d0 =>
      rw [hx] at h
      obtain ⟨v', h1, h2⟩ := qload_sound hr (hev (by simp [ho, Op.operands]) hx) h
      exact ⟨v', by simp [execOp, ho, h1], h2⟩
  · rename_i x ho
    cases hx : A.ev x with
    | none => rw [hx] at h; cases h
    | some d0 =>
      rw [hx] at h
      exact ⟨_, qnil_sound hr rfl ho (hev (by simp [ho, Op.operands]) hx) h⟩
  · rename_i op t x y ty ho
    split at h
    · rename_i da db h1 h2
      obtain ⟨v', k1, k2, k3⟩ := qbin_sound (x := x) (y := y) hr (hev (by simp [ho, Op.operands]) h1) (hev (by simp [ho, Op.operands]) h2) h
      exact ⟨v', by simp [execOp, ho, k1, k2], k3⟩
    · cases h
  · rename_i op ty x ho
    cases hx : A.ev x with
    | none => rw [hx] at h; cases h
    | some d0 =>
      rw [hx] at h
      obtain ⟨v', h1, h2⟩ := qun_sound (P := P) (hev (by simp [ho, Op.operands]) hx) h
      exact ⟨v', by simp [execOp, ho, h1], h2⟩
  · rename_i s t x ho
    cases hx : A.ev x with
    | none => rw [hx] at h; cases h
    | some d0 =>
      rw [hx] at h
      obtain ⟨v', h1, h2⟩ := qconv_sound (hev (by simp [ho, Op.operands]) hx) h
      exact ⟨v', by simp [execOp, ho, h1], h2⟩
  · rename_i t x i ho
    cases hx : A.ev x with
    | none => rw [hx] at h; cases h
    | some d0 =>
      rw [hx] at h
      obtain ⟨v', h1, h2⟩ := qfieldAddr_sound hr (hev (by simp [ho, Op.operands]) hx) h
      exact ⟨v', by simp [execOp, ho, h1], h2⟩
  · rename_i t x i ho
    cases hx : A.ev x with
    | none => rw [hx] at h; cases h
    | some d0 =>
      rw [hx] at h
      obtain ⟨v', h1, h2⟩ := qfield_sound (hev (by simp [ho, Op.operands]) hx) h
      exact ⟨v', by simp [execOp, ho, h1], h2⟩
  · rename_i t x i ho
    split at h
    · rename_i d0 n h1 h2
      cases hi : A.ev i with
      | none => rw [hi] at h2; cases h2
      | some di =>
        rw [hi] at h2
        obtain ⟨k, hk, _⟩ := int_inv (hev (x := i) (by simp [ho, Op.operands]) hi) h2
        obtain ⟨v', k1, k2⟩ := qindexAddr_sound (k := k) hr (hev (by simp [ho, Op.operands]) h1) h
        exact ⟨v', by simp [execOp, ho, hk, k1], k2⟩
    · cases h
  · rename_i t x i ho
    split at h
    · rename_i d0 n h1 h2
      cases hi : A.ev i with
      | none => rw [hi] at h2; cases h2
      | some di =>
        rw [hi] at h2
        obtain ⟨k, hk, _⟩ := int_inv (hev (x := i) (by simp [ho, Op.operands]) hi) h2
        obtain ⟨v', k1, k2⟩ := qindex_sound (k := k) (hev (by simp [ho, Op.operands]) h1) h
        exact ⟨v', by simp [execOp, ho, hk, k1], k2⟩
    · cases h
  · rename_i t x lo hi ho
    cases hx : A.ev x with
    | none => rw [hx] at h; cases h
    | some d0 =>
      rw [hx] at h
      obtain ⟨v', k1, k2, k3⟩ := qslice_sound (vlo := lo.map a.eval) (vhi := hi.map a.eval) hr (hev (by simp [ho, Op.operands]) hx)
        (fun d hd => by
          cases lo with
          | none => cases hd
          | some l => simp only [omap, Option.some.injEq] at hd; exact ⟨_, rfl, hev (by simp [ho, Op.operands]) hd⟩)
        (fun hd => by cases lo with | none => rfl | some l => cases hd)
        (fun d hd => by
          cases hi with
          | none => cases hd
          | some l => simp only [omap, Option.some.injEq] at hd; exact ⟨_, rfl, hev (by simp [ho, Op.operands]) hd⟩)
        (fun hd => by cases hi with | none => rfl | some l => cases hd) h
      refine ⟨v', ?_, k2⟩
      have hs : (Instr.sliceAt t (a.eval x) (lo.map a.eval) (hi.map a.eval) none).run P w = .ok v' w := by
        unfold Instr.sliceAt
        rw [Sem.run_bind]
        cases hu : P.underlying t with
        | none => simp [Instr.slice, underlying, program, Sem.run, hu, stuck] at k1
        | some ud =>
          rw [run_und hu, Result.andThen_ok]
          split
          · rename_i n e; exact absurd hu (k3 n e)
          · exact k1
      simp [execOp, ho, hs]
  · rename_i t x lo hi mx ho
    cases hx : A.ev x with
    | none => rw [hx] at h; cases h
    | some d0 =>
      rw [hx] at h
      obtain ⟨v', k1, k2, k3⟩ := qslice3_sound (vlo := a.eval lo) (vhi := a.eval hi) (vmx := a.eval mx) hr (hev (by simp [ho, Op.operands]) hx)
        (fun d hd => hev (by simp [ho, Op.operands]) hd) (fun d hd => hev (by simp [ho, Op.operands]) hd) (fun d hd => hev (by simp [ho, Op.operands]) hd) h
      refine ⟨v', ?_, k2⟩
      have hs : (Instr.sliceAt t (a.eval x) (some (a.eval lo)) (some (a.eval hi)) (some (a.eval mx))).run P w = .ok v' w := by
        unfold Instr.sliceAt
        rw [Sem.run_bind]
        cases hu : P.underlying t with
        | none => simp [Instr.slice, underlying, program, Sem.run, hu, stuck] at k1
        | some ud =>
          rw [run_und hu, Result.andThen_ok]
          split
          · rename_i n e; exact absurd hu (k3 n e)
          · exact k1
      simp [execOp, ho, hs]
  · rename_i x i ho
    cases hx : A.ev x with
    | none => rw [hx] at h; cases h
    | some d0 =>
      rw [hx] at h
      obtain ⟨v', h1, h2⟩ := qext_sound (P := P) (hev (by simp [ho, Op.operands]) hx) h
      exact ⟨v', by simp [execOp, ho, h1], h2⟩
  · rename_i c ho
    obtain ⟨v', h1, h2⟩ := qbuiltin_sound (ty := o.type) hr (fun hx he => hev (by rw [ho]; exact hx) he) h
    exact ⟨v', by simp [execOp, ho, h1], h2⟩
  · cases h

end
end Go.Dl

namespace Go.Dl
open Go.RowKit

section
variable {P : Program}

theorem getD_set (arr : Array Value) (t i : Nat) (v : Value) : (arr.setIfInBounds t v).getD i undef = if t = i ∧ t < arr.size then v else arr.getD i undef := by
  simp only [Array.getD_eq_getD_getElem?, Array.getElem?_setIfInBounds]
  split
  · rename_i h; subst h
    split
    · rename_i h; simp [h]
    · rename_i h; simp [h]
  · rename_i h; simp [h]

theorem Rel.put {g : G} {S : Nat → Prop} {E : Env} {F : List (List Nat)} {A : St} {a : Act} {w : World} (hr : Rel g S E F A a w) {dst : Option Tmp} {d : D} {v : Value}
    (hd : RepD w S E d v) : Rel g S E F (A.put dst d) (a.put dst v) w := by
  cases dst with
  | none => exact hr
  | some t =>
    refine { hr with len := ?_, sl := ?_, defers := hr.defers }
    · simp [St.put, Act.put, hr.len]
    · intro i d' h
      simp only [St.put] at h
      simp only [Act.put, getD_set]
      rw [List.getElem?_set] at h
      split at h
      · rename_i hti
        subst hti
        split at h
        · rename_i hlt
          cases h
          rw [if_pos ⟨rfl, by rw [← hr.len]; exact hlt⟩]; exact hd
        · cases h
      · rename_i hti
        rw [if_neg (fun h => hti h.1)]
        exact hr.sl i d' h

/-- One operation, from a state. -/
def Step (P : Program) (o : Oper) (A : St) (R : St → Prop) : Prop :=
  ∀ g a w, Sat g A a w → ∀ (next : Act → World → Prop) (Q : Exit → Act → World → Prop), (∀ A' a' w', R A' → Sat g A' a' w' → next a' w') → o.wp P a w next Q

theorem step_quiet {o : Oper} {A : St} {d : D} {R : St → Prop} (hop : o.op.operands.toList.all opdOK = true) (h : qev P A.ev A.H o.op = some d) (hR : R (A.put o.dst d)) : Step P o A R := by
  intro g a w ⟨S, E, F, hr⟩ next Q hn
  obtain ⟨v, h1, h2⟩ := qev_sound hr hop h
  unfold Oper.wp
  rw [h1]
  exact hn _ _ _ hR ⟨S, E, F, hr.put h2⟩

/-- A region's operations from one on. -/
def TriFrom (P : Program) (ops : Array Oper) (i : Nat) (A : St) (R : St → Prop) : Prop :=
  ∀ g a w, Sat g A a w → ∀ Q : Exit → Act → World → Prop, (∀ A' a' w', R A' → Sat g A' a' w' → Q .normal a' w') → wpOps P ops Q (List.range' i (ops.size - i)) a w

theorem from_end {ops : Array Oper} {i : Nat} {A : St} {R : St → Prop} (hi : ops.size ≤ i) (hR : R A) : TriFrom P ops i A R := by
  intro g a w hs Q hq
  rw [Nat.sub_eq_zero_of_le hi]
  exact hq A a w hR hs

theorem range_cons {i n : Nat} (h : i < n) : List.range' i (n - i) = i :: List.range' (i + 1) (n - (i + 1)) := by
  rw [show n - i = (n - (i + 1)) + 1 by omega, List.range'_succ]

theorem from_step {ops : Array Oper} {i : Nat} {A : St} {R : St → Prop} {o : Oper} (ho : ops[i]? = some o) (hg : o.guard = none)
    (h : Step P o A (fun A' => TriFrom P ops (i + 1) A' R)) : TriFrom P ops i A R := by
  intro g a w hs Q hq
  have hi : i < ops.size := by
    rcases Nat.lt_or_ge i ops.size with h | h
    · exact h
    · rw [Array.getElem?_eq_none h] at ho; cases ho
  rw [range_cons hi]
  simp only [wpOps, ho, Region.wanted, hg, if_true]
  exact .inl (h g a w hs _ _ fun A' a' w' hA hs' => hA g a' w' hs' Q hq)

theorem yielded_of {ops : Array Oper} {a : Act} {j t : Nat} {b : Bool} (hj : (ops[j]?).bind (·.dst) = some t) (ht : a.tmps.getD t undef = .bool b) : yielded ops a.tmps j = some b := by
  unfold yielded
  rw [hj, Option.bind_some]
  rw [Array.getD_eq_getD_getElem?] at ht
  cases hx : a.tmps[t]? with
  | none => rw [hx] at ht; simp [undef] at ht
  | some v => rw [hx] at ht; simp at ht; subst ht; rfl

theorem from_guard {ops : Array Oper} {i : Nat} {A : St} {R : St → Prop} {o : Oper} {j t : Nat} {want b : Bool} (ho : ops[i]? = some o) (hg : o.guard = some (j, want))
    (hj : (ops[j]?).bind (·.dst) = some t) (ht : A.sl[t]? = some (.c (.v (.bool b))))
    (h1 : b = want → Step P o A (fun A' => TriFrom P ops (i + 1) A' R)) (h2 : b = !want → TriFrom P ops (i + 1) (A.put o.dst .top) R) : TriFrom P ops i A R := by
  intro g a w hs Q hq
  have hi : i < ops.size := by
    rcases Nat.lt_or_ge i ops.size with h | h
    · exact h
    · rw [Array.getElem?_eq_none h] at ho; cases ho
  rw [range_cons hi]
  have hs' := hs
  obtain ⟨S, E, F, hr⟩ := hs'
  have hb : a.tmps.getD t undef = .bool b := bool_inv (hr.sl t _ ht)
  simp only [wpOps, ho, Region.wanted, hg, yielded_of hj hb]
  by_cases hw : b = want
  · subst hw
    simp only [beq_self_eq_true, if_true]
    exact .inl (h1 rfl g a w hs _ _ fun A' a' w' hA hs' => hA g a' w' hs' Q hq)
  · have : (some b == some want) = false := by cases b <;> cases want <;> simp_all
    rw [this]
    simp only [Bool.false_eq_true, if_false]
    exact h2 (by cases b <;> cases want <;> simp_all) g _ w ⟨S, E, F, hr.put .top⟩ Q hq

theorem tri_region {id : Nat} {ops : Array Oper} {A : St} {Q : Exit → St → Prop} (h : TriFrom P ops 0 A (fun A' => Q .normal A')) : Tri P (.region id ops false) A Q := by
  intro g a w hs
  refine wp_region ?_
  have := h g a w hs (fun e a' w' => ∃ A', Sat g A' a' w' ∧ Q e A') fun A' a' w' hA hs' => ⟨A', hs', hA⟩
  rwa [Nat.sub_zero, ← List.range_eq_range'] at this

end
end Go.Dl

namespace Go.Dl
open Go.RowKit

section
variable {P : Program} {g : G} {S : Nat → Prop} {E : Env} {F : List (List Nat)} {A : St} {a : Act} {w : World}

theorem Rep.todat {w : World} {S : Nat → Prop} {E : Env} {c : C} {v : Value} {fp : List Nat} (h : Rep w S E (.k false c v) fp) (hd : c.dat = true) (dat : Bool) : Rep w S E (.k dat c v) fp := by
  cases h with
  | v h => exact .v h
  | nilI => exact .nilI
  | nilO => exact .nilO
  | imm hS hc hl hr => exact .imm hS hc hl hr
  | own hz hb hc hl hr => exact .own hz hb hc hl hr
  | optr hb hr => exact .optr hb hr
  | x => cases hd
  | m => exact .m
  | un => exact .un
  | uo h0 hg hc hm hz ht => exact .uo h0 hg hc hm hz ht
  | h _ _ => cases hd
  | p _ _ => cases hd
  | f hc hr => exact .f (.inr (by simpa [C.dat] using hd)) hr

/-- Values of one cell: what is stored in a cell. -/
theorem Rep.one {w : World} {S : Nat → Prop} {E : Env} {dat : Bool} {c : C} {v : Value} {fp : List Nat} (h : Rep w S E (.k dat c v) fp) (hx : c ≠ .x) (hh : ∀ r lo len, c = .h r lo len → ∃ p, E[r]? = some (some p))
    (hp : ∀ r e k, c = .p r e k → ∃ p, E[r]? = some (some p)) : v.oneCell' = true := by
  cases h with
  | v h => cases v <;> first | rfl | (simp [Sc] at h)
  | nilI => rfl
  | nilO => rfl
  | imm _ _ _ _ => rfl
  | own _ _ _ _ _ => rfl
  | optr _ _ => rfl
  | x => exact absurd rfl hx
  | m => rfl
  | un => rfl
  | uo _ _ _ _ _ _ => rfl
  | h hr hh' =>
    obtain ⟨p, hp⟩ := hh _ _ _ rfl
    obtain ⟨_, h2⟩ := hh' p hp
    cases hat : p.at? with
    | none => rw [hat] at h2; obtain ⟨ad, rfl⟩ := h2; rfl
    | some bo => rw [hat] at h2; obtain ⟨ad, cap, rfl, _⟩ := h2; rfl
  | p hr hh' =>
    obtain ⟨p, hp⟩ := hp _ _ _ rfl
    obtain ⟨b, off, _, rfl⟩ := hh' p hp
    rfl
  | f _ _ => rfl

theorem flat_get {F : List (List Nat)} {r : Nat} {f : List Nat} (h : F[r]? = some f) : ∀ b ∈ f, b ∈ F.flatten := by
  intro b hb
  exact List.mem_flatten.2 ⟨f, List.mem_of_getElem? h, hb⟩

theorem RootAt.mono {w w' : World} {S S' : Nat → Prop} {E E' : Env} {R : Root} {p : Pl} {f : List Nat} (h : RootAt w S E R p f) (hS : ∀ b, S b → S' b)
    (hE : EnvLe E E' (fun r => R.dat || C.nos r R.rows.flatten)) (hb : ∀ b, S b ∨ b ∈ f → w'.heap[b]? = w.heap[b]?) : RootAt w' S' E' R p f := by
  obtain ⟨h1, h2, h3, h4, h5⟩ := h
  refine ⟨h1, h2, h3, h4, ?_⟩
  cases hat : p.at? with
  | none => rw [hat] at h5; exact h5
  | some bo =>
    obtain ⟨b, off⟩ := bo
    rw [hat] at h5
    obtain ⟨fr, e1, e2, e3⟩ := h5
    subst e1
    refine ⟨fr, rfl, e2.keep (hb b (.inr (List.mem_cons_self ..))), e3.mono hS hE ?_⟩
    intro b' hb'
    rcases hb' with h | h | h
    · exact hb b' (.inl h)
    · exact hb b' (.inr (List.mem_cons_of_mem _ h))
    · simp only [It.base, List.mem_singleton] at h; subst h; exact hb _ (.inr (List.mem_cons_self ..))

/-- The world has grown or changed elsewhere. -/
theorem Rel.world {w' : World} (hr : Rel g S E F A a w) (hb : ∀ b, S b ∨ b ∈ F.flatten → w'.heap[b]? = w.heap[b]?) (hp : ∀ b, b < g.w0.heap.size → b ∉ g.own → w'.heap[b]? = w.heap[b]?)
    (hz : w.heap.size ≤ w'.heap.size) (ho : w'.os = w.os) (ht : w'.tape = w.tape) (hu : OutLe w w') : Rel g S E F A a w' where
  len := hr.len
  sl t d h := (hr.sl t d h).mono (fun _ h => h) (.refl _ _) (fun b h => hb b (.inl h))
  defers := hr.defers
  lE := hr.lE
  lF := hr.lF
  root r R h := by
    obtain ⟨p, f, h1, h2, h3⟩ := hr.root r R h
    exact ⟨p, f, h1, h2, h3.mono (fun _ h => h) (.refl _ _) (fun b hb' => hb b (hb'.imp id (flat_get h2 b)))⟩
  dead := hr.dead
  nodup := hr.nodup
  fS := hr.fS
  fsz b h := ⟨Nat.lt_of_lt_of_le (hr.fsz b h).1 hz, (hr.fsz b h).2⟩
  Ssz b h := ⟨Nat.lt_of_lt_of_le (hr.Ssz b h).1 hz, (hr.Ssz b h).2⟩
  S0 := hr.S0
  prot b h1 h2 := (hp b h1 h2).trans (hr.prot b h1 h2)
  size := Nat.le_trans hr.size hz
  os := ho.trans hr.os
  tape := ht.trans hr.tape
  output := hu.trans hr.output
  fix := hr.fix

theorem Rel.drawn (hr : Rel g S E F A a w) (n : Nat) (hn : w.drawn ≤ n) : Rel g S E F A a { w with drawn := n } :=
  hr.world (fun _ _ => rfl) (fun _ _ _ => rfl) (Nat.le_refl _) rfl rfl ⟨rfl, hn⟩

theorem envLe_append (E : Env) (x : Option Pl) (ok : Nat → Bool) : EnvLe E (E ++ [x]) ok := by
  refine ⟨by simp, fun r hr _ q hq => ⟨q, ?_, q.le_refl⟩⟩
  rwa [List.getElem?_append_left hr] at hq

theorem heap_alloc_lt (w : World) (o : Obj) {b : Nat} (h : b < w.heap.size) : (w.alloc o).heap[b]? = w.heap[b]? := Below.heap_alloc w o b h

theorem rep_new {w : World} {S : Nat → Prop} {E : Env} {dat : Bool} {b : Nat} : ∀ {cs : List C} {vs : List Value} {off : Nat}, Rep w S E (.vs cs vs) [] → (dat = true → cs.all C.dat = true) →
    (∀ (j : Nat) (v : Value), vs[j]? = some v → w.cell? ⟨b, off + j, none⟩ = some v) → Rep w S E (.l dat cs b off) [] := by
  intro cs
  induction cs with
  | nil => intro vs off _ _ _; exact .lnil
  | cons c cs ih =>
    intro vs off h hd hc
    generalize hfp : ([] : List Nat) = fp at h
    cases h with
    | vcons h1 h2 =>
      obtain ⟨rfl, rfl⟩ := List.append_eq_nil_iff.1 hfp.symm
      refine .lcons (f1 := []) (f2 := []) (hc 0 _ rfl) ?_ (ih h2 (fun h => ?_) ?_)
      · cases dat with
        | false => exact h1
        | true => exact h1.todat (by have := hd rfl; simp at this; exact this.1) true
      · have := hd h; simp at this ⊢; exact this.2
      · intro j v hj
        rw [show off + 1 + j = off + (j + 1) by omega]
        exact hc (j + 1) v (by simpa using hj)

/-- A new root in a new block. -/
theorem Rel.newRoot' (hr : Rel g S E F A a w) {w' : World} {R : Root} {vs extra : List Value} {el : TypeId} {z : Nat × Nat} {m : Nat} (hrep : Rep w S E (.vs R.rows.flatten vs) []) (hdat : R.dat = true → R.rows.flatten.all C.dat = true)
    (hl : ∀ r ∈ R.rows, r.length = R.es) (hm : m * R.es ≤ vs.length + extra.length) (hn : R.rows.length ≤ m)
    (hold : ∀ b, b < w.heap.size → w'.heap[b]? = w.heap[b]?) (hnew : w'.heap[w.heap.size]? = some (.cells (vs ++ extra).toArray el z)) (hfz : ∀ o, o < (vs ++ extra).toArray.size → w'.frozen? ⟨w.heap.size, o, none⟩ = false)
    (hsz : w'.heap.size = w.heap.size + 1) (ho : w'.os = w.os) (ht : w'.tape = w.tape) (hu : OutLe w w') :
    Rel g S (E ++ [some ⟨some (w.heap.size, 0), R.es, R.rows.length, m⟩]) (F ++ [[w.heap.size]]) { A with H := A.H ++ [some R] } a w' := by
  have hSlt : ∀ b, S b → b < w.heap.size := fun b h => (hr.Ssz b h).1
  have hFlt : ∀ b, b ∈ F.flatten → b < w.heap.size := fun b h => (hr.fsz b h).1
  have hcell : ∀ (j : Nat) (v : Value), vs[j]? = some v → w'.cell? ⟨w.heap.size, 0 + j, none⟩ = some v := by
    intro j v hj
    rw [Nat.zero_add]
    simp only [World.cell?, hnew]
    simp [List.getElem?_append_left (lt_len hj), hj]
  refine { len := hr.len, sl := ?_, defers := hr.defers, lE := by simp [hr.lE], lF := by simp [hr.lF], root := ?_, dead := ?_, nodup := ?_, fS := ?_, fsz := ?_, Ssz := ?_, S0 := hr.S0, prot := ?_, size := ?_, os := ho.trans hr.os, tape := ht.trans hr.tape, output := hu.trans hr.output, fix := ?_ }
  · intro t d h
    exact (hr.sl t d h).mono (fun _ h => h) (envLe_append _ _ _) (fun b h => hold b (hSlt b h))
  · intro r R' h
    by_cases hlt : r < A.H.length
    · rw [List.getElem?_append_left hlt] at h
      obtain ⟨p, f, h1, h2, h3⟩ := hr.root r R' h
      refine ⟨p, f, ?_, ?_, h3.mono (fun _ h => h) (envLe_append _ _ _) (fun b hb => hold b (hb.elim (hSlt b) (fun h => hFlt b (flat_get h2 b h))))⟩
      · rw [List.getElem?_append_left (lt_len h1)]; exact h1
      · rw [List.getElem?_append_left (lt_len h2)]; exact h2
    · have hreq : r = A.H.length := by
        have := lt_len h
        simp at this; omega
      subst hreq
      rw [List.getElem?_append_right (Nat.le_refl _)] at h
      simp at h
      subst h
      refine ⟨⟨some (w.heap.size, 0), R.es, R.rows.length, m⟩, [w.heap.size], by rw [List.getElem?_append_right (by rw [hr.lE]; exact Nat.le_refl _), hr.lE]; simp, by rw [List.getElem?_append_right (by rw [hr.lF]; exact Nat.le_refl _), hr.lF]; simp, rfl, rfl, hn, hl, [], rfl, ?_, ?_⟩
      · exact ⟨_, el, z, hnew, by simp; omega, hfz⟩
      · refine (rep_new (w := w') (vs := vs) ?_ hdat hcell)
        exact hrep.mono (fun _ h => h) (envLe_append _ _ _) (fun b hb => by
          rcases hb with h | h | h
          · exact hold b (hSlt b h)
          · cases h
          · cases h)
  · intro r h
    by_cases hlt : r < A.H.length
    · rw [List.getElem?_append_left hlt] at h
      obtain ⟨h1, h2⟩ := hr.dead r h
      exact ⟨by rw [List.getElem?_append_left (lt_len h1)]; exact h1, by rw [List.getElem?_append_left (lt_len h2)]; exact h2⟩
    · have hreq : r = A.H.length := by
        have := lt_len h
        simp at this; omega
      subst hreq
      rw [List.getElem?_append_right (Nat.le_refl _)] at h
      simp at h
  · rw [List.flatten_append, List.nodup_append]
    refine ⟨hr.nodup, by simp, ?_⟩
    intro x hx y hy hxy
    simp at hy
    have := hFlt x hx
    omega
  · intro b hb
    rw [List.flatten_append, List.mem_append] at hb
    rcases hb with h | h
    · exact hr.fS b h
    · simp at h; subst h; intro hS; exact Nat.lt_irrefl _ (hSlt _ hS)
  · intro b hb
    rw [List.flatten_append, List.mem_append] at hb
    rw [hsz]
    rcases hb with h | h
    · exact ⟨Nat.lt_succ_of_lt (hr.fsz b h).1, (hr.fsz b h).2⟩
    · simp at h; subst h; exact ⟨Nat.lt_succ_self _, .inr hr.size⟩
  · intro b hb
    rw [hsz]
    exact ⟨Nat.lt_succ_of_lt (hr.Ssz b hb).1, (hr.Ssz b hb).2⟩
  · intro b h1 h2
    rw [hold b (Nat.lt_of_lt_of_le h1 hr.size)]
    exact hr.prot b h1 h2
  · rw [hsz]; exact Nat.le_succ_of_le hr.size
  · intro r q hq
    obtain ⟨h1, h2⟩ := hr.fix r q hq
    refine ⟨by simp; omega, fun R' hR' => ?_⟩
    rw [List.getElem?_append_left h1] at hR'
    obtain ⟨k1, k2⟩ := h2 R' hR'
    refine ⟨k1, fun p hp => k2 p ?_⟩
    rwa [List.getElem?_append_left (by rw [hr.lE]; exact h1)] at hp

theorem Rel.newRoot (hr : Rel g S E F A a w) {R : Root} {vs extra : List Value} {el : TypeId} {m : Nat} (hrep : Rep w S E (.vs R.rows.flatten vs) []) (hdat : R.dat = true → R.rows.flatten.all C.dat = true)
    (hl : ∀ r ∈ R.rows, r.length = R.es) (hm : m * R.es ≤ vs.length + extra.length) (hn : R.rows.length ≤ m) :
    Rel g S (E ++ [some ⟨some (w.heap.size, 0), R.es, R.rows.length, m⟩]) (F ++ [[w.heap.size]]) { A with H := A.H ++ [some R] } a (w.alloc (.cells (vs ++ extra).toArray el)) := by
  have hnew : (w.alloc (.cells (vs ++ extra).toArray el)).heap[w.heap.size]? = some (.cells (vs ++ extra).toArray el) := heap_alloc_new w _
  refine hr.newRoot' hrep hdat hl hm hn (fun b hb => heap_alloc_lt w _ hb) hnew (fun o ho => ?_) (by simp) rfl rfl (.rf _)
  simp only [World.frozen?, hnew]
  simp

end
end Go.Dl
