/- 'Dl', part G: operators, slice expressions; the whole function. -/
import Derived.Test.YtdhlelineoggkaaDlF
namespace Go.Dl
open Go.RowKit

section
variable {P : Program} {g : G} {S : Nat → Prop} {E : Env} {F : List (List Nat)} {A : St} {a : Act} {w : World}

theorem tmod_inR {k : IntKind} {x y : Int} (hx : inR k x = true) (hy : inR k y = true) : inR k (x.tmod y) = true := by
  have h1 : (x.tmod y).natAbs ≤ x.natAbs := by rw [Int.natAbs_tmod]; exact Nat.mod_le _ _
  have h2 : 0 ≤ x → 0 ≤ x.tmod y := fun h => Int.tmod_nonneg y h
  have h3 : x ≤ 0 → x.tmod y ≤ 0 := fun h => by
    have := Int.tmod_nonneg y (a := -x) (by omega)
    rw [Int.neg_tmod] at this; omega
  cases k <;> simp only [inR, Bool.and_eq_true, decide_eq_true_eq] at * <;> omega

theorem fdiv_pow_le (x : Int) (n : Nat) : (0 ≤ x → 0 ≤ x.fdiv (2 ^ n) ∧ x.fdiv (2 ^ n) ≤ x) ∧ (x < 0 → x ≤ x.fdiv (2 ^ n) ∧ x.fdiv (2 ^ n) < 0) := by
  have hp : (0 : Int) < 2 ^ n := Int.pow_pos (by omega)
  rw [Int.fdiv_eq_ediv_of_nonneg _ (by omega)]
  refine ⟨fun h => ⟨Int.ediv_nonneg h (by omega), Int.ediv_le_self _ h⟩, fun h => ⟨?_, Int.ediv_neg_of_neg_of_pos h hp⟩⟩
  have h1 : (2 ^ n : Int) * (x / 2 ^ n) + x % 2 ^ n = x := Int.mul_ediv_add_emod x (2 ^ n)
  have h2 := Int.emod_nonneg x (b := 2 ^ n) (by omega)
  have h3 : x / 2 ^ n < 0 := Int.ediv_neg_of_neg_of_pos h hp
  have h4 : (2 ^ n : Int) * (x / 2 ^ n) ≤ 1 * (x / 2 ^ n) := Int.mul_le_mul_of_nonpos_right (by omega) (by omega)
  have h5 := Int.emod_lt_of_pos x hp
  rcases Int.lt_or_le (x / 2 ^ n) x with h6 | h6
  · have h7 : (2 ^ n : Int) * (x / 2 ^ n) ≤ 2 ^ n * (x - 1) := Int.mul_le_mul_of_nonneg_left (by omega) (by omega)
    have h8 : (2 ^ n : Int) * (x - 1) + 2 ^ n = 2 ^ n * x := by rw [Int.mul_sub]; omega
    have h9 : (2 ^ n : Int) * x ≤ 1 * x := Int.mul_le_mul_of_nonpos_right (by omega) (by omega)
    omega
  · omega

theorem fdiv_inR {k : IntKind} {x : Int} {n : Nat} (hx : inR k x = true) : inR k (x.fdiv (2 ^ n)) = true := by
  have h := fdiv_pow_le x n
  cases k <;> simp only [inR, Bool.and_eq_true, decide_eq_true_eq] at * <;> omega

theorem dec_eq (x y : Int) : (x == y) = decide (x = y) := by
  by_cases h : x = y <;> simp [h]

theorem qint_sound {op : BinOp} {t : TypeId} {k : IntKind} {x y : Int} {c : C} (hx : inR k x = true) (hy : inR k y = true) (hs : isShift op = false) (h : qint op k x y = some c) :
    ∃ v', c = .v v' ∧ (binOp op t (.int k x) (.int k y)).run P w = .ok v' w ∧ Sc v' := by
  cases op <;> simp only [qint, Option.some.injEq, reduceCtorEq] at h <;> try (simp [isShift] at hs; done)
  case quo =>
    split at h
    · cases h
    · rename_i hz; cases h; exact ⟨_, rfl, by simp [binOp, Op.intDiv, hz], wrap_inR _ _⟩
  case rem =>
    split at h
    · cases h
    · rename_i hz; cases h
      rw [wrap_id _ _ (tmod_inR hx hy)]
      exact ⟨_, rfl, by simp [binOp, Op.intDiv, hz], tmod_inR hx hy⟩
  case eql => subst h; exact ⟨_, rfl, by simp only [binOp, Op.intCmp, dec_eq]; simp, trivial⟩
  case neq => subst h; exact ⟨_, rfl, by simp only [binOp, Op.intCmp, bne, dec_eq]; simp, trivial⟩
  case add => subst h; exact ⟨_, rfl, by simp [binOp, Op.intArith], wrap_inR _ _⟩
  case sub => subst h; exact ⟨_, rfl, by simp [binOp, Op.intArith], wrap_inR _ _⟩
  case mul => subst h; exact ⟨_, rfl, by simp [binOp, Op.intArith], wrap_inR _ _⟩
  case and => subst h; exact ⟨_, rfl, by simp [binOp, Op.intBits], wrap_inR _ _⟩
  case or => subst h; exact ⟨_, rfl, by simp [binOp, Op.intBits], wrap_inR _ _⟩
  case xor => subst h; exact ⟨_, rfl, by simp [binOp, Op.intBits], wrap_inR _ _⟩
  case andNot => subst h; exact ⟨_, rfl, by simp [binOp, Op.intBits], wrap_inR _ _⟩
  all_goals (subst h; exact ⟨_, rfl, by simp [binOp, Op.intCmp], trivial⟩)

theorem qshift_sound {op : BinOp} {t : TypeId} {k k' : IntKind} {x y : Int} {c : C} (hx : inR k x = true) (h : qshift op k x y = some c) :
    ∃ v', c = .v v' ∧ (binOp op t (.int k x) (.int k' y)).run P w = .ok v' w ∧ Sc v' := by
  cases op <;> simp only [qshift, reduceCtorEq] at h
  · split at h
    · cases h
    · rename_i hz; cases h; exact ⟨_, rfl, by simp [binOp, Op.shift, hz], wrap_inR _ _⟩
  · split at h
    · cases h
    · rename_i hz; cases h
      rw [wrap_id _ _ (fdiv_inR hx)]
      exact ⟨_, rfl, by simp [binOp, Op.shift, hz], fdiv_inR hx⟩

theorem qstr_sound {op : BinOp} {t : TypeId} {x y : ByteArray} {c : C} (h : qstr op x y = some c) :
    ∃ v', c = .v v' ∧ (binOp op t (.string x) (.string y)).run P w = .ok v' w ∧ Sc v' := by
  cases op <;> simp only [qstr, Option.some.injEq, reduceCtorEq] at h
  case add =>
    split at h
    · rename_i hz
      cases h
      refine ⟨.string (x ++ y), rfl, ?_, ?_⟩
      · have : ¬ (((x.size + y.size : Nat) : Int) > IntKind.i64.max) := by simp [IntKind.max, IntKind.signed, IntKind.bits]; unfold maxStr at hz; omega
        simp only [binOp, Op.stringOp, if_neg this, Sem.run_pure]
      · show (x ++ y).size ≤ maxStr
        rw [ByteArray.size_append]; exact hz
    · cases h
  all_goals (subst h; exact ⟨_, rfl, by simp only [binOp, Op.stringOp]; rfl, trivial⟩)

theorem qun_sound {op : UnOp} {d d' : D} {v : Value} (hd : RepD w S E d v) (h : qun op d = some d') :
    ∃ v', (Op.unary op v).run P w = .ok v' w ∧ RepD w S E d' v' := by
  unfold qun at h
  split at h
  · rename_i k n
    obtain ⟨rfl, _⟩ := v_inv hd
    split at h
    · cases h; exact ⟨.int k (k.wrap (0 - n)), by simp [Op.unary, Op.intArith], .c (.v (wrap_inR _ _))⟩
    · cases h
  · rename_i b
    obtain ⟨rfl, _⟩ := v_inv hd
    split at h
    · cases h; exact ⟨.bool (!b), by simp [Op.unary], .c (.v trivial)⟩
    · cases h
  · cases h

theorem tk_und {t : TypeId} {k : TK} (h : tk P t = some k) : ∃ d, (underlying t).run P w = .ok d w := by
  obtain ⟨d, hu, _⟩ := tk_some h
  exact ⟨d, run_und hu w⟩

theorem qconv_sound {s t : TypeId} {d d' : D} {v : Value} (hd : RepD w S E d v) (h : qconv P s t d = some d') :
    ∃ v', (convert s t v).run P w = .ok v' w ∧ RepD w S E d' v' := by
  unfold qconv at h
  split at h
  · obtain ⟨rfl, _⟩ := v_inv hd
    split at h
    · rename_i k ks hk hs
      cases h
      obtain ⟨ds, hds⟩ := tk_und (w := w) hs
      refine ⟨.int k (k.wrap _), ?_, .c (.v (wrap_inR _ _))⟩
      simp only [convert, Sem.run_bind, hds, Result.andThen_ok, run_und (tk_int hk)]
      simp [Conv.intToInt]
    · cases h
  · obtain ⟨rfl, hsc⟩ := v_inv hd
    split at h
    · rename_i ks hk hs
      cases h
      obtain ⟨ds, hds⟩ := tk_und (w := w) hs
      refine ⟨_, ?_, .c (.v hsc)⟩
      simp only [convert, Sem.run_bind, hds, Result.andThen_ok, run_und (tk_str hk)]
      simp
    · cases h
  · cases h

theorem qbounds_sound {len cap : Nat} {lo hi : Option (Option D)} {vlo vhi : Option Value} {isS : Bool} {l h : Nat} (hcap : len ≤ cap)
    (hlo : ∀ d, lo = some (some d) → ∃ v, vlo = some v ∧ RepD w S E d v) (hlo0 : lo = none → vlo = none)
    (hhi : ∀ d, hi = some (some d) → ∃ v, vhi = some v ∧ RepD w S E d v) (hhi0 : hi = none → vhi = none)
    (hb : qbounds len lo hi = some (l, h)) : l ≤ h ∧ h ≤ len ∧ (Instr.sliceBounds isS len cap vlo vhi none).run P w = .ok (l, h, cap) w := by
  unfold qbounds at hb
  split at hb
  · rw [hhi0 rfl]
    split at hb
    · cases hb
      rw [hlo0 rfl]
      exact ⟨Nat.zero_le _, Nat.le_refl _, by simp [Instr.sliceBounds]⟩
    · rename_i d
      obtain ⟨v, rfl, hd⟩ := hlo d rfl
      split at hb
      · rename_i n hn
        obtain ⟨k, rfl, _⟩ := int_inv hd hn
        split at hb
        · rename_i hc
          cases hb
          exact ⟨by omega, Nat.le_refl _, by simp [Instr.sliceBounds, Instr.sliceBound, asIntOf, hc]⟩
        · cases hb
      · cases hb
    · cases hb
  · rename_i d
    obtain ⟨v, rfl, hd⟩ := hhi d rfl
    split at hb
    · rename_i n hn
      obtain ⟨k, rfl, _⟩ := int_inv hd hn
      split at hb
      · rename_i hc
        have hc' : 0 ≤ n ∧ n ≤ (cap : Int) := ⟨hc.1, by omega⟩
        split at hb
        · cases hb
          rw [hlo0 rfl]
          exact ⟨Nat.zero_le _, by omega, by simp [Instr.sliceBounds, Instr.sliceBound, asIntOf, hc']⟩
        · rename_i d2
          obtain ⟨v2, rfl, hd2⟩ := hlo d2 rfl
          split at hb
          · rename_i n2 hn2
            obtain ⟨k2, rfl, _⟩ := int_inv hd2 hn2
            split at hb
            · rename_i hc2
              cases hb
              exact ⟨by omega, by omega, by simp [Instr.sliceBounds, Instr.sliceBound, asIntOf, hc', hc2.1]; omega⟩
            · cases hb
          · cases hb
        · cases hb
      · cases hb
    · cases hb
  · cases hb

end
end Go.Dl
