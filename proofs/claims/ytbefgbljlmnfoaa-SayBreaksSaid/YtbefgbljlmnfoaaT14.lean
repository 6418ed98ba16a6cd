/- Plain law: how texts that are joined are read; numbers and bits as they are read again; Plain law: a value as a script says it is read again, whatever stands behind; The walk of strings.Builder's Grow, at a builder that is not written: its bytes stay none; The walk of strings.Builder's Grow, and its contract: what is written stays; The walk of strings.Join. -/
import Derived.Test.YtbefgbljlmnfoaaT13
set_option linter.all false
namespace Go.Dl
open Go.RowKit
open Go.Proofs
set_option linter.unusedVariables false
theorem sz (a : ByteArray) : a.data.toList.length = a.size := by simp
theorem byU_app_l {a r : ByteArray} {p : Nat} (h : p < a.size) : byU (a ++ r) p = byU a p := by
  unfold byU
  have h' : p < a.data.toList.length := by rw [sz]; exact h
  rw [ByteArray.data_append, Array.toList_append, List.getD_eq_getElem?_getD, List.getD_eq_getElem?_getD, List.getElem?_append_left h']
theorem byU_app_r (a r : ByteArray) (j : Nat) : byU (a ++ r) (a.size + j) = byU r j := by
  unfold byU
  rw [ByteArray.data_append, Array.toList_append, ← sz a, getD_app]
theorem byt_app_l {a r : ByteArray} {p : Nat} (h : p < a.size) : byt (a ++ r) p = byt a p := by
  show ((byU (a ++ r) p).toNat : Int) = ((byU a p).toNat : Int)
  rw [byU_app_l h]
theorem byt_app_r (a r : ByteArray) (j : Nat) : byt (a ++ r) (a.size + j) = byt r j := by
  show ((byU (a ++ r) (a.size + j)).toNat : Int) = ((byU r j).toNat : Int)
  rw [byU_app_r]
theorem ext_r (a r : ByteArray) : (a ++ r).extract a.size (a.size + r.size) = r := by
  apply ByteArray.ext
  rw [ByteArray.data_extract]
  apply Array.ext'
  rw [Array.toList_extract, List.extract_eq_take_drop, ByteArray.data_append, Array.toList_append, List.drop_append_of_le_length (by rw [sz]; omega), List.drop_of_length_le (by rw [sz]; omega), List.nil_append, List.take_of_length_le (by rw [sz]; omega)]
/-- What may stand behind a token that is no mark: nothing, or a blank. -/
def sep (r : ByteArray) : Prop := r.size = 0 ∨ byt r 0 = 32
theorem next_word {T : ByteArray} {o : Nat} (ho : o < T.size) (hl : isLetter (byt T o) = true) : nextF T o = some (((0, T.extract o (runF isWordC T o), (o : Int)) : Tok), true, (0 : Int), runF isWordC T o) := by
  have hb : blkF T o = o := blkF_stop fun _ => by
    simp only [isLetter, Bool.or_eq_true, Bool.and_eq_true, decide_eq_true_eq] at hl
    exact ⟨by simp only [isBlank, Bool.or_eq_false_iff, decide_eq_false_iff_not]; omega, by omega⟩
  unfold nextF
  rw [hb, if_neg (by omega), if_pos hl]
theorem next_num {T : ByteArray} {o : Nat} (ho : o < T.size) (hd : isDigit (byt T o) = true ∨ byt T o = 45) (hn : strEq (T.extract o (runF isDigit T (o + 1))) dash = false) :
    nextF T o = some (((1, T.extract o (runF isDigit T (o + 1)), (o : Int)) : Tok), true, (0 : Int), runF isDigit T (o + 1)) := by
  have hr : 48 ≤ byt T o ∧ byt T o ≤ 57 ∨ byt T o = 45 := by
    simp only [isDigit, Bool.and_eq_true, decide_eq_true_eq] at hd; exact hd
  have hb : blkF T o = o := blkF_stop fun _ => ⟨by simp only [isBlank, Bool.or_eq_false_iff, decide_eq_false_iff_not]; omega, by omega⟩
  have hle := runF_le isDigit T (o + 1) ho
  unfold nextF
  rw [hb, if_neg (by omega), if_neg (by simp only [isLetter, Bool.or_eq_true, Bool.and_eq_true, decide_eq_true_eq]; omega), if_pos hd, ByteArray.extract_append_extract, show min o (o + 1) = o by omega, show max (o + 1) (runF isDigit T (o + 1)) = runF isDigit T (o + 1) by omega, hn]
  rfl
theorem next_quote {T : ByteArray} {o : Nat} (ho : o < T.size) (hq : byt T o = 34) {t : ByteArray} {e : Nat} (h : quoteF T o = (t, true, e)) : nextF T o = some (((2, t, (o : Int)) : Tok), true, (0 : Int), e) := by
  have hb : blkF T o = o := blkF_stop fun _ => ⟨by rw [hq]; decide, by omega⟩
  unfold nextF
  rw [hb, if_neg (by omega), hq, if_neg (by decide), if_neg (by decide), if_pos rfl, h, if_pos rfl]
theorem next_mark {T : ByteArray} {o : Nat} (ho : o < T.size) {m : Int} (hm : byt T o = m) (h1 : isLetter m = false) (h2 : isDigit m = false) (h3 : isBlank m = false) (h4 : ¬ m = 35) (h5 : ¬ m = 45) (h6 : ¬ m = 34) (h7 : 0 ≤ idxB marks m) :
    nextF T o = some (((3, T.extract o (o + 1), (o : Int)) : Tok), true, (0 : Int), o + 1) := by
  have hb : blkF T o = o := blkF_stop fun _ => ⟨by rw [hm]; exact h3, by rw [hm]; exact h4⟩
  unfold nextF
  rw [hb, if_neg (by omega), hm, if_neg (by rw [h1]; simp), if_neg (by rw [h2]; simp [h5]), if_neg h6, if_pos h7]
/-- From a place on a text has these tokens, up to a place. -/
def lexes (T : ByteArray) (o : Nat) (l : List Tok) (o' : Nat) : Prop := ∀ n acc, toksN (n + l.length) T o acc = toksN n T o' (acc ++ l)
theorem lexes_one {T : ByteArray} {o e : Nat} {t : Tok} (h : nextF T o = some (t, true, 0, e)) : lexes T o [t] e := by
  intro n acc
  show toksN (n + 1) T o acc = _
  rw [toksN, h]
  rfl
theorem lexes_app {T : ByteArray} {o p q : Nat} {l m : List Tok} (h1 : lexes T o l p) (h2 : lexes T p m q) : lexes T o (l ++ m) q := by
  intro n acc
  rw [List.length_append, show n + (l.length + m.length) = (n + m.length) + l.length by omega, h1, h2, List.append_assoc]
theorem lexes_nil (T : ByteArray) (o : Nat) : lexes T o [] o := fun n acc => by simp
theorem toksN_fuel : ∀ (n m : Nat) (s : ByteArray) (p : Nat) (acc : List Tok), p ≤ s.size → s.size - p < n → s.size - p < m → toksN n s p acc = toksN m s p acc
  | 0, m, s, p, acc, hp, h, _ => by omega
  | n + 1, 0, s, p, acc, hp, _, h => by omega
  | n + 1, m + 1, s, p, acc, hp, hn, hm => by
    obtain ⟨⟨t, b, e, r⟩, hr⟩ := nextF_some s p
    simp only [toksN, hr, Z8]
    split
    · rfl
    · cases b with
      | false => rfl
      | true =>
        rw [if_neg (by simp), if_neg (by simp)]
        have h := nextF_le hp hr
        exact toksN_fuel n m s r _ h.1 (by have := h.2 rfl; omega) (by have := h.2 rfl; omega)
theorem toks_lex {T : ByteArray} (hT : T.size ≤ 65536) {l : List Tok} {o : Nat} (h : lexes T 0 l o) : toksF T = toksN (T.size + 1) T o l := by
  unfold toksF
  rw [if_neg (by omega), toksN_fuel (T.size + 1) (T.size + 1 + l.length) T 0 [] (Nat.zero_le _) (by omega) (by omega), h]
  rfl
theorem toks_whole {T : ByteArray} (hT : T.size ≤ 65536) {l : List Tok} (h : lexes T 0 l T.size) : toksT T = (l, 0, 0) := by
  have h1 := toks_lex hT h
  have hb : blkF T T.size = T.size := blkF_stop fun h => absurd h (Nat.lt_irrefl _)
  have h2 : toksF T = some (l, 0, 0) := by
    rw [h1, toksN]
    unfold nextF
    rw [hb, if_pos rfl]
    rfl
  unfold toksT
  rw [h2]; rfl
/-- A text's quote within a text is read as it is. -/
theorem quote_in (s T : ByteArray) (o : Nat) (hz : o + (quotedF s).size ≤ T.size) (hby : ∀ j, j < (quotedF s).size → byU T (o + j) = byU (quotedF s) j) :
    ∀ (d f i : Nat), s.size - i ≤ d → i ≤ s.size → d < f → quoteN f T (o + (qAcc s i).length) (s.data.toList.take i) = (s, true, o + (quotedF s).size) := by
  have hlen : s.data.toList.length = s.size := sz s
  intro d
  induction d with
  | zero =>
    intro f i hd hi hf
    obtain ⟨f, rfl⟩ : ∃ k, f = k + 1 := ⟨f - 1, by omega⟩
    obtain rfl : i = s.size := by omega
    have hb := byU_q (s := s) s.size 0
    rw [List.drop_of_length_le (by omega)] at hb
    have hzq := quoted_size s s.size
    rw [List.drop_of_length_le (by omega)] at hzq
    simp only [Nat.add_zero] at hb
    have hzq' : (quotedF s).size = (qAcc s s.size).length + 1 := by rw [hzq]; simp
    simp only [quoteN]
    rw [if_pos (by omega), hby _ (by omega), hb]
    rw [if_pos (by decide), take_ok, hzq']
    rfl
  | succ d ih =>
    intro f i hd hi hf
    by_cases hi2 : i = s.size
    · exact ih f i (by omega) hi (by omega)
    · obtain ⟨f, rfl⟩ : ∃ k, f = k + 1 := ⟨f - 1, by omega⟩
      have hlt : i < s.data.toList.length := by omega
      have hx : s.data.toList[i] = byU s i := by unfold byU; rw [List.getD_eq_getElem?_getD, List.getElem?_eq_getElem hlt, Option.getD_some]
      have hdrop : s.data.toList.drop i = byU s i :: s.data.toList.drop (i + 1) := by rw [List.drop_eq_getElem_cons hlt, hx]
      have htake : s.data.toList.take i ++ [byU s i] = s.data.toList.take (i + 1) := by rw [List.take_succ_eq_append_getElem hlt, hx]
      have hzq := quoted_size s i
      rw [hdrop, List.flatMap_cons, List.length_append] at hzq
      have hB2 : ∀ j, byU (quotedF s) ((qAcc s i).length + j) = ((encB (byU s i) ++ (s.data.toList.drop (i + 1)).flatMap encB) ++ [34]).getD j 0 := fun j => by rw [byU_q (s := s) i j, hdrop, List.flatMap_cons]
      have hT2 : ∀ j, j < (encB (byU s i)).length → byU T (o + (qAcc s i).length + j) = ((encB (byU s i) ++ (s.data.toList.drop (i + 1)).flatMap encB) ++ [34]).getD j 0 := fun j hj => by
        rw [Nat.add_assoc, hby _ (by omega), hB2]
      have hnext := ih f (i + 1) (by omega) (by omega) (by omega)
      have hacc := qAcc_succ (s := s) (i := i) (by omega)
      by_cases hp : isPlain (byU s i).toNat = true
      · have he : encB (byU s i) = [byU s i] := by unfold encB; rw [if_pos hp]
        rw [he] at hacc hzq hT2
        have h0 : byU T (o + (qAcc s i).length) = byU s i := hT2 0 (by simp)
        rw [List.length_singleton] at hzq
        have hn34 : ¬ ((byU s i).toNat : Int) = 34 := by intro h; rw [h] at hp; revert hp; decide
        have hn92 : ¬ ((byU s i).toNat : Int) = 92 := by intro h; rw [h] at hp; revert hp; decide
        simp only [quoteN]
        rw [if_pos (by omega), h0, if_neg hn34, if_neg hn92, if_pos hp, htake]
        rw [hacc, List.length_append, List.length_singleton] at hnext
        exact hnext
      · have he : encB (byU s i) = [92, 120, hexD ((byU s i).toNat / 16), hexD ((byU s i).toNat % 16)] := by unfold encB; rw [if_neg hp]
        rw [he] at hacc hzq hT2
        have hxl := (byU s i).toNat_lt
        have h0 : byU T (o + (qAcc s i).length) = 92 := hT2 0 (by simp)
        have h1 : byU T (o + (qAcc s i).length + 1) = 120 := hT2 1 (by simp)
        have h2 : byU T (o + (qAcc s i).length + 2) = hexD ((byU s i).toNat / 16) := hT2 2 (by simp)
        have h3 : byU T (o + (qAcc s i).length + 3) = hexD ((byU s i).toNat % 16) := hT2 3 (by simp)
        have hz4 : (quotedF s).size = (qAcc s i).length + (4 + ((s.data.toList.drop (i + 1)).flatMap encB).length) + 1 := hzq
        have n2 : nibR (byU T (o + (qAcc s i).length + 2)).toNat = (((byU s i).toNat / 16 : Nat) : Int) := by rw [h2]; exact tab_hex ⟨(byU s i).toNat / 16, by omega⟩
        have n3 : nibR (byU T (o + (qAcc s i).length + 3)).toNat = (((byU s i).toNat % 16 : Nat) : Int) := by rw [h3]; exact tab_hex ⟨(byU s i).toNat % 16, by omega⟩
        obtain ⟨e1, e2⟩ := escB_sum (s := T) (p := o + (qAcc s i).length) (by omega) (by rw [n2]; omega) (by rw [n3]; omega)
        have ev : escB (T.extract (o + (qAcc s i).length + 2) T.size) = byU s i := by
          apply UInt8.toNat_inj.1
          rw [n2, n3] at e2
          omega
        have eo : (escF (T.extract (o + (qAcc s i).length + 2) T.size)).2 = true := by
          rw [esc_ok (by omega), n2, n3]
          simp; omega
        simp only [quoteN]
        rw [if_pos (by omega), h0, if_neg (by decide), if_pos (by decide), if_neg (by omega), h1, if_pos (by decide), if_pos eo, ev, if_neg hp, htake]
        rw [hacc, List.length_append] at hnext
        exact hnext
theorem quote_here {s T : ByteArray} {o : Nat} (hz : o + (quotedF s).size ≤ T.size) (hby : ∀ j, j < (quotedF s).size → byU T (o + j) = byU (quotedF s) j) : quoteF T o = (s, true, o + (quotedF s).size) := by
  have hg := quoted_ge s
  exact quote_in s T o hz hby s.size (T.size + 1) 0 (by omega) (by omega) (by omega)
theorem lex_quote {s T : ByteArray} {o : Nat} (hz : o + (quotedF s).size ≤ T.size) (hby : ∀ j, j < (quotedF s).size → byU T (o + j) = byU (quotedF s) j) : lexes T o [(2, s, (o : Int))] (o + (quotedF s).size) := by
  have hg := quoted_ge s
  refine lexes_one (next_quote (by omega) ?_ (quote_here hz hby))
  show ((byU T (o + 0)).toNat : Int) = 34
  rw [hby 0 (by omega)]; rfl
theorem dig_val {d : Nat} (h : d ≤ 9) : ((dig d).toNat : Int) = 48 + (d : Int) := (dig_int h).symm
theorem dig_dig {d : Nat} (h : d ≤ 9) : isDigit ((dig d).toNat : Int) = true := by
  rw [dig_val h]
  simp only [isDigit, Bool.and_eq_true, decide_eq_true_eq]; omega
theorem decG_digits : ∀ (f n : Nat), n < 10 ^ (f + 1) → ∀ x ∈ decG f n, isDigit (x.toNat : Int) = true
  | 0, n, h, x, hx => by
    rw [decG, List.mem_singleton] at hx
    subst hx
    exact dig_dig (by rw [Nat.pow_succ] at h; omega)
  | f + 1, n, h, x, hx => by
    by_cases h9 : n ≤ 9
    · rw [decG_small h9, List.mem_singleton] at hx
      subst hx; exact dig_dig h9
    · rw [decG_big (by omega), List.mem_append, List.mem_singleton] at hx
      rcases hx with hx | hx
      · exact decG_digits f (n / 10) (div_pow h) x hx
      · subst hx; exact dig_dig (by omega)
theorem decG_short20 {n : Nat} (h : n < 10 ^ 20) : (decG 20 n).length ≤ 20 := by
  by_cases h9 : n ≤ 9
  · rw [decG_small h9]; simp
  · rw [decG_big (by omega), List.length_append, List.length_singleton]
    have h2 : ∀ (f n : Nat), n < 10 ^ f → 1 ≤ f → (decG f n).length ≤ f := by
      intro f
      induction f with
      | zero => intro n _ h; omega
      | succ f ih =>
        intro n hn _
        by_cases h9 : n ≤ 9
        · rw [decG_small h9]; simp
        · rw [decG_big (by omega), List.length_append, List.length_singleton]
          have hd := div_pow hn
          have hf : 1 ≤ f := by
            cases f with
            | zero => rw [Nat.pow_zero] at hd; omega
            | succ f => omega
          have := ih (n / 10) hd hf
          omega
    have := h2 19 (n / 10) (div_pow h) (by omega)
    omega
theorem decG_pos : ∀ (f n : Nat), 1 ≤ (decG f n).length
  | 0, n => Nat.le_refl 1
  | f + 1, n => by
    unfold decG
    split
    · simp
    · rw [List.length_append, List.length_singleton]; omega
theorem decG_head : ∀ (f n : Nat), n < 10 ^ (f + 1) → 1 ≤ n → ∃ d l, decG f n = dig d :: l ∧ 1 ≤ d ∧ d ≤ 9
  | 0, n, h, h1 => ⟨n, [], rfl, h1, by rw [Nat.pow_succ] at h; omega⟩
  | f + 1, n, h, h1 => by
    by_cases h9 : n ≤ 9
    · exact ⟨n, [], decG_small h9, h1, h9⟩
    · obtain ⟨d, l, e, h2, h3⟩ := decG_head f (n / 10) (div_pow h) (by omega)
      exact ⟨d, l ++ [dig (n % 10)], by rw [decG_big (by omega), e]; rfl, h2, h3⟩
theorem digN_step {d : Nat} {l : List UInt8} {n : Nat} (hd : d ≤ 9) (h : 10 * n + d < 18446744073709551616) : digN (dig d :: l) (n : Int) = digN l ((10 * n + d : Nat) : Int) := by
  have hv := dig_val hd
  rw [digN, hv]
  have e1 : IntKind.wrap .u8 ((48 : Int) + (d : Int) - 48) = (d : Int) := by rw [show (48 : Int) + (d : Int) - 48 = (d : Int) by omega]; exact wrap_u8 _ (by omega) (by omega)
  have e2 : IntKind.wrap .u64 (d : Int) = (d : Int) := wrap_u64 _ (by omega) (by omega)
  have e3 : IntKind.wrap .u64 (18446744073709551615 - (d : Int)) = 18446744073709551615 - (d : Int) := wrap_u64 _ (by omega) (by omega)
  have e4 : IntKind.wrap .u64 (10 * (n : Int)) = 10 * (n : Int) := wrap_u64 _ (by omega) (by omega)
  have e5 : IntKind.wrap .u64 (10 * (n : Int) + (d : Int)) = ((10 * n + d : Nat) : Int) := by rw [wrap_u64 _ (by omega) (by omega)]; omega
  have e6 : (18446744073709551615 - (d : Int)).tdiv 10 = (((18446744073709551615 - d) / 10 : Nat) : Int) := by
    rw [show (18446744073709551615 : Int) - (d : Int) = ((18446744073709551615 - d : Nat) : Int) by omega]; rfl
  have e7 : IntKind.wrap .u64 (((18446744073709551615 - d) / 10 : Nat) : Int) = (((18446744073709551615 - d) / 10 : Nat) : Int) := wrap_u64 _ (by omega) (by omega)
  rw [e1, e2, e3, e4, e5, e6, e7, if_neg (by omega)]
theorem digN_dec : ∀ (f n : Nat) (l : List UInt8), n < 10 ^ (f + 1) → n < 18446744073709551616 → digN (decG f n ++ l) 0 = digN l (n : Int)
  | 0, n, l, h, h2 => by
    have h9 : n ≤ 9 := by rw [Nat.pow_succ] at h; omega
    rw [decG]
    have := digN_step (d := n) (l := l) (n := 0) h9 (by omega)
    rw [show 10 * 0 + n = n by omega] at this
    exact this
  | f + 1, n, l, h, h2 => by
    by_cases h9 : n ≤ 9
    · rw [decG_small h9]
      have := digN_step (d := n) (l := l) (n := 0) h9 (by omega)
      rw [show 10 * 0 + n = n by omega] at this
      exact this
    · rw [decG_big (by omega), List.append_assoc, digN_dec f (n / 10) _ (div_pow h) (by omega), List.singleton_append, digN_step (by omega) (by omega), show 10 * (n / 10) + n % 10 = n by omega]
theorem decB_data (n : Nat) : (decB n).data.toList = decG 20 n := by show (decL n).toArray.toList = _; simp [decL]
theorem decB_len (n : Nat) : (decB n).size = (decG 20 n).length := by rw [← sz, decB_data]
theorem pow21 {n : Nat} (h : n < 18446744073709551616) : n < 10 ^ (20 + 1) := Nat.lt_of_lt_of_le h (by decide)
theorem strEq_iff (a b : ByteArray) : strEq a b = true ↔ a.toList = b.toList := by unfold strEq; exact beq_iff_eq
theorem strEq_ne {a b : ByteArray} (h : a.size ≠ b.size) : strEq a b = false := by
  cases he : strEq a b with
  | false => rfl
  | true =>
    exfalso; apply h
    rw [strEq_iff, ByteArray.toList_eq, ByteArray.toList_eq] at he
    have := congrArg List.length he
    rwa [sz, sz] at this
theorem digits_dec {n : Nat} (h : n < 18446744073709551616) : digitsF (decB n) = ((n : Int), true) := by
  have hp := decG_pos 20 n
  have hs : (decB n).size ≤ 20 := by rw [decB_len]; exact decG_short20 (lt_pow20 h)
  have hz : (decB n).size ≠ 0 := by rw [decB_len]; omega
  have hh : ¬ (1 < (decB n).size ∧ byt (decB n) 0 = 48) := by
    rintro ⟨h1, h2⟩
    by_cases h0 : n = 0
    · subst h0; rw [decB_len, decG_small (by omega)] at h1; simp at h1
    · obtain ⟨d, l, e, d1, d2⟩ := decG_head 20 n (pow21 h) (by omega)
      unfold byt at h2
      rw [decB_data, e] at h2
      have := dig_val d2
      simp only [List.getD_cons_zero] at h2
      omega
  unfold digitsF
  rw [if_neg (by rw [strEq_ne (by show (decB n).size ≠ 0; exact hz)]; simp), if_neg hh, if_neg (by omega), decB_data]
  have := digN_dec 20 n [] (pow21 h) h
  rw [List.append_nil] at this
  rw [this]
  rfl
theorem nibF_hex : ∀ n : Fin 16, nibF ((hexD n.val).toNat : Int) = ((n.val : Nat) : Int) := by decide +kernel
theorem orw_eq {a d : Nat} (hd : d < 16) (h : a * 16 + d < 18446744073709551616) : orw (a : Int) (d : Int) = ((a * 16 + d : Nat) : Int) := by
  unfold orw
  have e1 : IntKind.u64.wrap ((a : Int) * 2 ^ min 4 IntKind.u64.bits) = ((a * 16 : Nat) : Int) := by
    have : (2 : Int) ^ min 4 IntKind.u64.bits = 16 := by decide
    rw [this, wrap_u64 _ (by omega) (by omega)]; omega
  have e2 : IntKind.u64.wrap (d : Int) = (d : Int) := wrap_u64 _ (by omega) (by omega)
  rw [e1, e2]
  have e3 : (BitVec.ofInt IntKind.u64.bits ((a * 16 : Nat) : Int) ||| BitVec.ofInt IntKind.u64.bits (d : Int)).toNat = a * 16 + d := by
    rw [BitVec.toNat_or, BitVec.toNat_ofInt, BitVec.toNat_ofInt]
    have h1 : (((a * 16 : Nat) : Int) % ((2 ^ IntKind.u64.bits : Nat) : Int)).toNat = a * 16 := by
      show (((a * 16 : Nat) : Int) % ((2 ^ 64 : Nat) : Int)).toNat = a * 16
      omega
    have h2 : ((d : Int) % ((2 ^ IntKind.u64.bits : Nat) : Int)).toNat = d := by
      show ((d : Int) % ((2 ^ 64 : Nat) : Int)).toNat = d
      omega
    rw [h1, h2]
    have := Nat.shiftLeft_add_eq_or_of_lt (i := 4) (b := d) (by omega) a
    rw [Nat.shiftLeft_eq] at this
    exact this.symm
  rw [e3]
  exact wrap_u64 _ (by omega) (by omega)
theorem bitsN_hex : ∀ (k c a : Nat) (l : List UInt8), c < 16 ^ k → a * 16 ^ k + c < 18446744073709551616 → bitsN 16 (hexN k c ++ l) (a : Int) = bitsN 16 l ((a * 16 ^ k + c : Nat) : Int)
  | 0, c, a, l, h1, h2 => by
    rw [Nat.pow_zero] at h1
    obtain rfl : c = 0 := by omega
    simp [hexN]
  | k + 1, c, a, l, h1, h2 => by
    have hd : c / 16 < 16 ^ k := (Nat.div_lt_iff_lt_mul (by decide)).2 (by rw [← Nat.pow_succ]; exact h1)
    have hm : (a * 16 ^ k + c / 16) * 16 + c % 16 = a * 16 ^ (k + 1) + c := by
      rw [Nat.pow_succ, Nat.add_mul, Nat.mul_assoc]; omega
    rw [hexN, List.append_assoc, bitsN_hex k (c / 16) a _ hd (by omega), List.singleton_append, bitsN]
    have hn : nibF ((hexD (c % 16)).toNat : Int) = ((c % 16 : Nat) : Int) := nibF_hex ⟨c % 16, by omega⟩
    rw [hn, if_neg (by omega), if_pos (by rfl), orw_eq (by omega) (by omega), hm]
theorem bits_hex {b : Nat} (h : b < 18446744073709551616) : bitsN (hexB b).size (hexB b).data.toList 0 = some (b : Int) := by
  have h1 : (hexB b).size = 16 := by show ((hexN 16 b).toArray).size = 16; rw [List.size_toArray, hexN_len]
  have h2 : (hexB b).data.toList = hexN 16 b ++ [] := by show (hexN 16 b).toArray.toList = _; simp
  have := bitsN_hex 16 b 0 [] (by rw [show (16 : Nat) ^ 16 = 18446744073709551616 by decide]; exact h) (by omega)
  rw [h1, h2]
  rw [Nat.zero_mul, Nat.zero_add] at this
  exact this
end Go.Dl

namespace Go.Dl
open Go.RowKit
open Go.Proofs
set_option linter.unusedVariables false
theorem strEq_byt {a b : ByteArray} (h : strEq a b = true) : byt a 0 = byt b 0 := by
  rw [strEq_iff, ByteArray.toList_eq, ByteArray.toList_eq] at h
  unfold byt
  rw [h]
theorem dec_byt {m j : Nat} (hm : m < 18446744073709551616) (h : j < (decB m).size) : isDigit (byt (decB m) j) = true := by
  unfold byt
  have h' : j < (decG 20 m).length := by rw [← decB_len]; exact h
  rw [decB_data, List.getD_eq_getElem?_getD, List.getElem?_eq_getElem h', Option.getD_some]
  exact decG_digits 20 m (pow21 hm) _ (List.getElem_mem h')
theorem dec_pos (m : Nat) : 0 < (decB m).size := by rw [decB_len]; exact decG_pos 20 m
theorem dig_not45 {c : Int} (h : isDigit c = true) : ¬ c = 45 := by
  simp only [isDigit, Bool.and_eq_true, decide_eq_true_eq] at h; omega
theorem take_hit {l : List Tok} {i : Nat} {e bad k : Int} {t : Tok} (hb : bad < 0) (ht : l[i]? = some t) (hk : t.1 = k) : takeF l i e bad k = (t.2.1, i + 1, bad) := by
  unfold takeF
  rw [if_neg (by omega), ht]
  simp only [if_pos hk]
theorem peek_hit {l : List Tok} {i : Nat} {bad : Int} {m : ByteArray} {p : Int} (hb : bad < 0) (ht : l[i]? = some (3, m, p)) : peekF l i bad m = true := by
  unfold peekF
  rw [ht]
  simp [hb, strEq_same]
theorem mark_hit {l : List Tok} {i : Nat} {e bad : Int} {m : ByteArray} {p : Int} (hb : bad < 0) (ht : l[i]? = some (3, m, p)) : markF l i e bad m = (i + 1, bad) := by
  unfold markF
  rw [peek_hit hb ht]; rfl
theorem number_read {n : Int} (h1 : -9223372036854775808 ≤ n) (h2 : n ≤ 9223372036854775807) {l : List Tok} {i : Nat} {e bad p : Int} (hb : bad < 0) (ht : l[i]? = some (1, wholeB n, p)) : numberF l i e bad = some (n, i + 1, bad) := by
  have hT := take_hit (e := e) hb ht (rfl : (1 : Int) = 1)
  unfold numberF
  rw [hT]
  dsimp only
  rw [if_neg (by omega)]
  unfold wholeB
  split
  · rename_i hn
    obtain ⟨m, hm, hm0⟩ : ∃ m : Nat, n = -(m : Int) ∧ 0 < m := ⟨(-n).toNat, by omega, by omega⟩
    subst hm
    rw [show (- -(m : Int)).toNat = m from by omega]
    have hml : m < 18446744073709551616 := by omega
    have hd := digits_dec hml
    have hsz : (dash ++ decB m).size = 1 + (decB m).size := by rw [ByteArray.size_append]; rfl
    have hds := decB_size m
    have he : (dash ++ decB m).extract 1 (dash ++ decB m).size = decB m := by
      rw [hsz]; exact ext_r dash (decB m)
    rw [if_pos ⟨by omega, by omega⟩, if_pos (by rw [byt_app_l (show 0 < dash.size by decide)]; rfl), he, hd]
    have ho : overF true (m : Int) true = false := by
      simp only [overF, Bool.not_true, Bool.false_or, Bool.false_and, Bool.true_and, Bool.or_eq_false_iff, decide_eq_false_iff_not]; omega
    dsimp only
    rw [ho, if_neg (by simp)]
    have hw : IntKind.wrap .u64 (0 - (m : Int)) = 18446744073709551616 - (m : Int) := by
      unfold IntKind.wrap
      simp [IntKind.bits, IntKind.signed]
      omega
    have hw2 : IntKind.wrap .i64 (18446744073709551616 - (m : Int)) = -(m : Int) := by
      unfold IntKind.wrap
      simp [IntKind.bits, IntKind.signed]
      omega
    rw [hw, hw2]
  · obtain ⟨m, hm⟩ : ∃ m : Nat, n = (m : Int) := ⟨n.toNat, by omega⟩
    subst hm
    rw [Int.toNat_natCast]
    have hml : m < 18446744073709551616 := by omega
    have hd := digits_dec hml
    have hds := decB_size m
    have hp := dec_pos m
    rw [if_pos ⟨hp, by omega⟩, if_neg (dig_not45 (dec_byt hml hp)), hd]
    have ho : overF false (m : Int) true = false := by
      simp only [overF, Bool.not_true, Bool.not_false, Bool.false_or, Bool.false_and, Bool.true_and, Bool.or_false, decide_eq_false_iff_not]; omega
    dsimp only
    rw [ho, if_neg (by simp), show IntKind.wrap .i64 (m : Int) = (m : Int) from wrap_i64 _ (by omega) (by omega)]
/-- What is read of a value. -/
def wantV (v : Val) : Val := (v.1, if v.1 = 1 then v.2.1 else false, if v.1 = 2 then v.2.2.1 else 0, if v.1 = 3 then v.2.2.2.1 else 0, if v.1 = 4 then v.2.2.2.2 else noText)
end Go.Dl

namespace Go.Dl
open Go.RowKit Go.Proofs
set_option linter.unusedSimpArgs false
set_option linter.unusedVariables false
set_option maxHeartbeats 1000000
set_option maxRecDepth 100000
theorem push_modify {α : Type} (h : Array α) (x : α) (b : Nat) (f : α → α) (hb : b < h.size) : (h.modify b f).push x = (h.push x).modify b f := by
  apply Array.ext_getElem?
  intro i
  rw [Array.getElem?_push, Array.getElem?_modify, Array.getElem?_modify, Array.getElem?_push, Array.size_modify]
  by_cases hi : i = h.size
  · rw [if_pos hi, if_neg (by omega), if_pos hi]
  · rw [if_neg hi, if_neg hi]
theorem swap_heap {w : World} {b j : Nat} {v : Value} {o : Go.Obj} (hb : b < w.heap.size) : ((w.setCell ⟨b, j, none⟩ v).alloc o).heap = ((w.alloc o).setCell ⟨b, j, none⟩ v).heap :=
  push_modify w.heap o b _ hb
theorem grow_fin {b cap : Nat} {ao : Option Addr} {w : World} {cs : Array Value} (hbk : w.heap[b]? = some (.cells #[.pointer (some ⟨b, 0, none⟩), .slice ao 0 cap] 69 (0, 0))) (h0 : 0 < cs.size) (hcs : cs.size ≤ 9223372036854775807) :
    ∀ w2 : World, w2.heap = ((w.alloc (.cells cs 5)).setCell ⟨b, 1, none⟩ (.slice (some ⟨w.heap.size, 0, none⟩) 0 cs.size)).heap → w2.os = w.os → w2.tape = w.tape → w2.output = w.output → w.drawn ≤ w2.drawn →
      ∃ v' fp', BdAt w2 b (.pointer (some ⟨b, 0, none⟩)) v' [] fp' ∧ UFrame w w2 [b] fp' := by
  have hlt : b < w.heap.size := lt_of_heap hbk
  have hb2 : (w.alloc (.cells cs 5)).heap[b]? = some (.cells #[.pointer (some ⟨b, 0, none⟩), .slice ao 0 cap] 69 (0, 0)) := (heap_alloc_lt w _ hlt).trans hbk
  have hnew : (w.alloc (.cells cs 5)).heap[w.heap.size]? = some (.cells cs 5 (0, 0)) := heap_alloc_new w _
  have hrep : Rep (w.alloc (.cells cs 5)) (fun _ => False) [] (.k true (.u 5 []) (.slice (some ⟨w.heap.size, 0, none⟩) 0 cs.size)) [w.heap.size] := .uo (cap := cs.size) (bs := []) h0 hnew (Nat.zero_le _) hcs rfl rfl
  have hput := BdAt.put (v' := .slice (some ⟨w.heap.size, 0, none⟩) 0 cs.size) (bs := []) (fp := [w.heap.size]) hb2 (.inr rfl) hrep (by rw [List.mem_singleton]; omega)
  have hsz : ((w.alloc (.cells cs 5)).setCell ⟨b, 1, none⟩ (.slice (some ⟨w.heap.size, 0, none⟩) 0 cs.size)).heap.size = w.heap.size + 1 := by
    show ((w.heap.push _).modify b _).size = _
    rw [Array.size_modify, Array.size_push]
  intro w2 h1 h2 h3 h4 h5
  obtain ⟨⟨q1, q2, q3, q4⟩, qk⟩ := hput
  refine ⟨_, _, ⟨by rw [h1]; exact q1, q2, ?_, q4⟩, h2, h3, ⟨h4, h5⟩, ?_, fun k hk hkf => ?_, fun k hk => ?_⟩
  · cases q3 with
    | uo h0 hg hc hm hz ht => exact .uo h0 (by rw [h1]; exact hg) hc hm hz ht
  · rw [h1, hsz]; omega
  · have hkb : k ≠ b := by simpa using hkf
    rw [h1, qk k hkb]
    exact heap_alloc_lt w _ hk
  · have : k = w.heap.size := by simpa using hk
    subst this
    exact ⟨.inr (Nat.le_refl _), by rw [h1, hsz]; omega⟩
set_option maxHeartbeats 4000000 in
set_option maxRecDepth 1000000 in
theorem grow_raw (b n cap : Nat) (ao : Option Addr) (w : World) (hbk : w.heap[b]? = some (.cells #[.pointer (some ⟨b, 0, none⟩), .slice ao 0 cap] 69 (0, 0))) (hn : 2 * cap + n ≤ 281474976710656) (hn0 : 0 < n) :
    Calls Try.prog 78 #[.pointer (some ⟨b, 0, none⟩), .int .i64 n] w fun e w' => e = .returned (.tuple #[]) ∧ ∃ v' fp', BdAt w' b (.pointer (some ⟨b, 0, none⟩)) v' [] fp' ∧ UFrame w w' [b] fp' := by
  have mixed : Try.prog.follows .mixedOrders = true := by kernel_rfl
  have t69 := Try.underlying69; have a69 := Try.isAgg69; have z69 := Try.sizeOf69; have v69 := Try.zeroValue69; have u69 := run_underlying Try.underlying69
  have t67 := Try.underlying67; have a67 := Try.isAgg67; have z67 := Try.sizeOf67; have v67 := Try.zeroValue67; have u67 := run_underlying Try.underlying67
  have t5 := Try.underlying5; have a5 := Try.isAgg5; have z5 := Try.sizeOf5; have v5 := Try.zeroValue5; have u5 := run_underlying Try.underlying5
  have t35 := Try.underlying35; have a35 := Try.isAgg35; have z35 := Try.sizeOf35; have v35 := Try.zeroValue35; have u35 := run_underlying Try.underlying35
  have t3 := Try.underlying3; have a3 := Try.isAgg3; have z3 := Try.sizeOf3; have v3 := Try.zeroValue3; have u3 := run_underlying Try.underlying3
  obtain ⟨cs, hrun, hle, hmax⟩ := Lib.run_makeNoZero (P := Try.prog) w.drew #[3] 35 5 Try.underlying35 (2 * cap + n) hn
  have hlt : b < w.heap.size := lt_of_heap hbk
  have hw : IntKind.i64.wrap (IntKind.i64.wrap (2 * (cap : Int)) + (n : Int)) = ((2 * cap + n : Nat) : Int) := by
    rw [IntKind.wrap_i64, IntKind.wrap_i64]
    omega
  have hcall : (callFunc 85 #[.int .i64 (IntKind.i64.wrap (IntKind.i64.wrap (2 * (cap : Int)) + (n : Int)))]).run Try.prog w.drew = .ok (.value (.slice (some ⟨w.drew.heap.size, 0, none⟩) (2 * cap + n) cs.size)) (w.drew.drew.drew.alloc (.cells cs 5)) := by
    rw [hw, run_callFunc_extern Try.func85 (by kernel_rfl) (by kernel_rfl) (by kernel_rfl) (e := Extern.BytealgMakeNoZero.makeNoZero #[3] #[35]) (by kernel_rfl), hrun]
    rfl
  have c1 : w.drew.cell? ⟨b, 1, none⟩ = some (.slice ao 0 cap) := by
    have : w.drew.heap[b]? = _ := hbk
    simp [World.cell?, this]
  have hb2 : (w.alloc (.cells cs 5)).heap[b]? = some (.cells #[.pointer (some ⟨b, 0, none⟩), .slice ao 0 cap] 69 (0, 0)) := (heap_alloc_lt w _ hlt).trans hbk
  have c2 : (w.alloc (.cells cs 5)).cell? ⟨b, 1, none⟩ = some (.slice ao 0 cap) := by simp [World.cell?, hb2]
  have f2 : (w.alloc (.cells cs 5)).frozen? ⟨b, 1, none⟩ = false := by simp [World.frozen?, hb2]
  have hcopy : ∀ W : World, (Builtin.copy_ #[35, 35] 3 #[.slice (some ⟨w.heap.size, 0, none⟩) 0 cs.size, .slice ao 0 cap]).run Try.prog W = .ok (goInt 0) W :=
    fun W => run_copy_none W 35 35 3 5 _ _ 0 cs.size 0 cap Try.underlying35 (by kernel_rfl) rfl
  have hcs : cs.size ≤ 9223372036854775807 := Nat.le_trans (hmax (by unfold maxLen; omega)) (by decide)
  have hfin := grow_fin hbk (show 0 < cs.size by omega) hcs
  clear hw hle hmax hn hn0
  go_enter Try.func78, Try.ntmps78
  go_wp2
  go_region_o
  all_goals (go_wp2; go_end0; exact ⟨rfl, hfin _ (swap_heap hlt) rfl rfl rfl (by first | (show w.drawn ≤ w.drawn + 1 + 1 + 1; omega) | (show w.drawn ≤ w.drawn + 1 + 1 + 1 + 1; omega) | (show w.drawn ≤ w.drawn + 1 + 1; omega))⟩)
end Go.Dl

namespace Go.Dl
open Go.RowKit Go.Proofs
set_option linter.unusedSimpArgs false
set_option linter.unusedVariables false
set_option maxHeartbeats 4000000
set_option maxRecDepth 1000000
theorem u_nil {w : World} {S : Nat → Prop} {E : Env} {d : Bool} {e : TypeId} {v : Value} {fp : List Nat} (h : Rep w S E (.k d (.u e []) v) fp) : ∃ ao cap, v = .slice ao 0 cap ∧ cap ≤ 9223372036854775807 := by
  cases h with
  | un => exact ⟨_, _, rfl, by omega⟩
  | uo h0 hg hc hm hz ht => exact ⟨_, _, rfl, hm⟩
theorem Grow_raw {w : World} {b : Nat} {p v : Value} {fp : List Nat} (h : BdAt w b p v [] fp) (n : Nat) (hn0 : 0 < n) (hn : n ≤ 35184372088832) (hfl : ∀ k ∈ fp, k < w.heap.size) :
    Calls Try.prog 67 #[.pointer (some ⟨b, 0, none⟩), .int .i64 n] w fun e w' => e = .returned (.tuple #[]) ∧ ∃ v' fp', BdAt w' b (.pointer (some ⟨b, 0, none⟩)) v' [] fp' ∧ UFrame w w' (b :: fp) fp' := by
  have mixed : Try.prog.follows .mixedOrders = true := by kernel_rfl
  have t69 := Try.underlying69; have a69 := Try.isAgg69; have z69 := Try.sizeOf69; have v69 := Try.zeroValue69; have u69 := run_underlying Try.underlying69
  have t67 := Try.underlying67; have a67 := Try.isAgg67; have z67 := Try.sizeOf67; have v67 := Try.zeroValue67; have u67 := run_underlying Try.underlying67
  have t35 := Try.underlying35; have a35 := Try.isAgg35; have z35 := Try.sizeOf35; have v35 := Try.zeroValue35; have u35 := run_underlying Try.underlying35
  have t9 := Try.underlying9; have a9 := Try.isAgg9; have z9 := Try.sizeOf9; have v9 := Try.zeroValue9; have u9 := run_underlying Try.underlying9
  have t4 := Try.underlying4; have a4 := Try.isAgg4; have z4 := Try.sizeOf4; have v4 := Try.zeroValue4; have u4 := run_underlying Try.underlying4
  have t3 := Try.underlying3; have a3 := Try.isAgg3; have z3 := Try.sizeOf3; have v3 := Try.zeroValue3; have u3 := run_underlying Try.underlying3
  have e60 : ∀ args w, (callFunc 60 args).run Try.prog w = .ok (.enter 60 args) w := enters_of Try.func60 (by kernel_rfl) rfl
  have e78 : ∀ args w, (callFunc 78 args).run Try.prog w = .ok (.enter 78 args) w := enters_of Try.func78 (by kernel_rfl) rfl
  have hlt0 : b < w.heap.size := lt_of_heap h.blk
  obtain ⟨ao, cap, rfl, hcap⟩ := u_nil h.rep
  have hnn : ¬ ((n : Int) < 0) := by omega
  have hw1 : IntKind.i64.wrap (cap : Int) = cap := wrap_i64 _ (by omega) (by omega)
  by_cases hlt : (cap : Int) < (n : Int)
  · go_enter Try.func67, Try.ntmps67
    go_wp2_with (go_at_fn 60; refine h.cc.mono ?_)
    rintro e w1 rfl h1 c1 c2 c3 c4 c5 c6
    obtain ⟨hb1, hp1, hr1, ho1⟩ := h1
    have hfl1 : ∀ k ∈ fp, k < w1.heap.size := fun k hk => by rw [c5]; exact hfl k hk
    have hbd : w1.drew.heap[b]? = some (.cells #[.pointer (some ⟨b, 0, none⟩), .slice ao 0 cap] 69 (0, 0)) := hb1
    have g1 : w1.drew.cell? ⟨b, 1, none⟩ = some (.slice ao 0 cap) := by simp [World.cell?, hbd]
    go_wp2
    go_region_o
    all_goals go_wp2_with (go_at_fn 78; refine (grow_raw b n cap ao w1.drew hbd (by omega) hn0).mono ?_; rintro e w2 ⟨rfl, v', fp', q1, q2⟩)
    all_goals
      go_end0
      refine ⟨rfl, v', fp', q1, q2.os.trans c1, q2.tape.trans c2, ⟨q2.out.1.trans c3, Nat.le_trans (Nat.le_of_eq c4.symm) (Nat.le_trans (Nat.le_succ _) q2.out.2)⟩, by rw [← c5]; exact q2.size, fun k hk hkf => ?_, fun k hk => ?_⟩
      · simp only [List.mem_cons, not_or] at hkf
        exact (q2.keep k (by show k < w1.heap.size; omega) (by simpa using hkf.1)).trans (c6 k hkf.1)
      · obtain ⟨k1, k2⟩ := q2.new k hk
        refine ⟨?_, k2⟩
        rcases k1 with h | h
        · exact .inl (by rw [List.mem_singleton] at h; rw [h]; exact List.mem_cons_self ..)
        · exact .inr (by rw [← c5]; exact h)
  · go_enter Try.func67, Try.ntmps67
    go_wp2_with (go_at_fn 60; refine h.cc.mono ?_)
    rintro e w1 rfl h1 c1 c2 c3 c4 c5 c6
    obtain ⟨hb1, hp1, hr1, ho1⟩ := h1
    have hbd : w1.drew.heap[b]? = some (.cells #[.pointer (some ⟨b, 0, none⟩), .slice ao 0 cap] 69 (0, 0)) := hb1
    have g1 : w1.drew.cell? ⟨b, 1, none⟩ = some (.slice ao 0 cap) := by simp [World.cell?, hbd]
    go_wp2
    go_region_o
    all_goals
      go_wp2
      go_end0
      refine ⟨rfl, _, fp, ⟨hbd, .inr rfl, hr1.mono (fun _ h => h) (.refl _ _) (fun _ _ => rfl), ho1⟩, c1, c2, ⟨c3, Nat.le_trans (Nat.le_of_eq c4.symm) (Nat.le_succ _)⟩, Nat.le_of_eq c5.symm, fun k hk hkf => ?_, fun k hk => ?_⟩
      · simp only [List.mem_cons, not_or] at hkf
        exact c6 k hkf.1
      · exact ⟨.inl (List.mem_cons_of_mem _ hk), by show k < w1.heap.size; rw [c5]; exact hfl k hk⟩
noncomputable def oGrow := famO (fun n : Nat => 0 < n ∧ n ≤ 35184372088832) (fun n => ([.c (.p 0 0 0), .c (.v (.int .i64 (n : Nat)))], [bdO []])) (fun n => (.t [], [bdO []]))
theorem meets67 : Meets Try.prog 67 (detS oGrow) :=
  bd_meets (rest := fun n : Nat => [.int .i64 (n : Nat)]) (bs := fun _ => []) (bs' := fun _ => []) (res := fun _ => .tuple #[]) (fun x hx w S => ⟨_, [], rfl, rfl, rfl, rfl, fun i d f h1 h2 => by cases h1⟩) fun n hn w b p v fp h hl => Grow_raw h n hn.1 hn.2 hl
theorem grow_at (n : Nat) (h0 : 0 < n) (h : n ≤ 35184372088832) : oGrow [.c (.p 0 0 0), .c (.v (.int .i64 (n : Nat)))] [⟨2, [[.b 69, .u 5 []]]⟩] = some (.t [], [⟨2, [[.b 69, .u 5 []]]⟩]) :=
  famO_at (fun a c h => by rfl) n ⟨h0, h⟩ rfl
end Go.Dl

namespace Go.Dl
open Go.RowKit
open Go.Proofs
set_option linter.unusedSimpArgs false
set_option linter.unusedVariables false
/-- Texts joined. -/
def joinGo (sep : ByteArray) : List ByteArray → List UInt8 → List UInt8
  | [], a => a
  | x :: r, a => joinGo sep r (a ++ sep.data.toList ++ x.data.toList)
def joinB (sep : ByteArray) : List ByteArray → ByteArray
  | [] => ⟨#[]⟩
  | x :: r => match r with
    | [] => x
    | _ => ⟨(joinGo sep r x.data.toList).toArray⟩
def joinPre (x : List ByteArray × ByteArray) : Prop := x.1.length ≤ 1000 ∧ (∀ s ∈ x.1, s.size ≤ 1073741824) ∧ 0 < x.2.size ∧ x.2.size ≤ 100
theorem dl_len (a : ByteArray) : a.data.toList.length = a.size := by simp
theorem getD_size {l : List ByteArray} {b : Nat} (h : ∀ s ∈ l, s.size ≤ b) (j : Nat) : (l.getD j ⟨#[]⟩).size ≤ b := by
  rw [List.getD_eq_getElem?_getD]
  cases hj : l[j]? with
  | none => exact Nat.zero_le _
  | some s => exact h s (List.mem_of_getElem? hj)
noncomputable def FsJa : Fs := { Fs.none with objs := fun k => if k = 34 then some oWS else if k = 35 then some oStr else if k = 67 then some oGrow else none }
theorem okJa : FsOK Try.prog FsJa := by
  refine ⟨fun _ _ h => (by cases h), fun k f h => ?_⟩
  simp only [FsJa] at h
  split at h
  · rename_i hk; subst hk; cases h; exact ⟨by kernel_rfl, meets34⟩
  split at h
  · rename_i hk; subst hk; cases h; exact ⟨by kernel_rfl, meets35⟩
  split at h
  · rename_i hk; subst hk; cases h; exact ⟨by kernel_rfl, meets67⟩
  · cases h
noncomputable def pJoin : List D → Option D := famP joinPre (fun x => [.c (.s false 1 (x.1.map strC)), .c (.v (.string x.2))]) (fun x => .c (.v (.string (joinB x.2 x.1))))
theorem strs_inj2 : ∀ {l l' : List ByteArray}, l.map strC = l'.map strC → l = l'
  | [], [], _ => rfl
  | [], _ :: _, h => by simp at h
  | _ :: _, [], h => by simp at h
  | a :: l, b :: l', h => by
    simp only [Z24, List.cons.injEq, strC, C.v.injEq, Value.string.injEq, and_true] at h
    rw [h.1, strs_inj2 h.2]
theorem join_at (l : List ByteArray) (sep : ByteArray) (h : joinPre (l, sep)) : pJoin [.c (.s false 1 (l.map strC)), .c (.v (.string sep))] = some (.c (.v (.string (joinB sep l)))) := Ym (fun a b h => by
  obtain ⟨a, a'⟩ := a
  obtain ⟨b, b'⟩ := b
  simp only [List.cons.injEq, D.c.injEq, C.s.injEq, C.v.injEq, Value.string.injEq, and_true, true_and] at h
  rw [strs_inj2 h.1, h.2]) (l, sep) h rfl
set_option maxRecDepth 100000 in
set_option maxHeartbeats 4000000 in
theorem meets46 : Meets Try.prog 46 (pureS pJoin) := by
  refine Yn (show Try.prog.funcs[46]? = some Try.f46 by kernel_rfl) rfl (n := 75) rfl (rs := [ResultVar.tmp 4]) rfl ?_
  rintro ⟨l, sep⟩ ⟨hl, hsz, hs0, hs1⟩ Q hQ
  dsimp only at hl hsz hs0 hs1 hQ ⊢
  have hlm : l.length ≤ maxStr := by unfold maxStr; omega
  have hsm : sep.size ≤ maxStr := by unfold maxStr; omega
  have hc0 : ((0 : Nat) : Int) = 0 := rfl
  have hc1 : ((1 : Nat) : Int) = 1 := rfl
  have hl0 : (0 : Nat) ≤ maxStr := Nat.zero_le _
  have hl1 : (1 : Nat) ≤ maxStr := by decide
  match l, hl, hsz, hQ, hlm with
  | [], hl, hsz, hQ, hlm =>
    simp only [Z13]
    refine Y3 okJa rfl (by repeat first | with_reducible exact Y2 | refine Y1 (by simp only [Y5, Y4, Y6, qev, St.ev, St.put, Y8, Y7, List.replicate, Nat.reduceAdd, Nat.reduceSub, ZA]; rfl) ?_) ?_
    refine seq_in ?_
    refine Y3 okJa rfl (by repeat first | with_reducible exact Y2 | refine Y1 (by simp only [Y5, Y4, Y6, qev, St.ev, St.put, qlen, qbuiltin, if_true, hl0, hc0, tk28, ZA]; rfl) ?_) ?_
    refine tri_block ?_
    refine Y3 okJa rfl (by repeat first | with_reducible exact Y2 | refine Y1 (by simp only [Y5, Y4, Y6, qev, St.ev, St.put, qint, Yc, Ya, qbin, Y8, Y7, if_true, if_false, decide_true, ZA]; rfl) ?_) ?_
    refine Yf (b := true) rfl (fun _ => ?_) (fun h => by cases h)
    refine Y3 okJa rfl (by repeat first | with_reducible exact Y2 | refine Y1 (by simp only [Y5, Y4, Y6, qev, St.ev, St.put, Y8, Y7, ZA]; rfl) ?_) ?_
    refine Yo (Yp (by simp only [outRes, Yi, resD, outD, outC, C.dat, if_true, ZA]; rfl) rfl (by simp) (by simp) ?_)
    (simp only [joinB] at hQ; with_reducible exact hQ)
  | [x], hl, hsz, hQ, hlm =>
    simp only [Z24, Z13, strC]
    refine Y3 okJa rfl (by repeat first | with_reducible exact Y2 | refine Y1 (by simp only [Y5, Y4, Y6, qev, St.ev, St.put, Y8, Y7, List.replicate, Nat.reduceAdd, Nat.reduceSub, ZA]; rfl) ?_) ?_
    refine seq_in ?_
    refine Y3 okJa rfl (by repeat first | with_reducible exact Y2 | refine Y1 (by simp only [Y5, Y4, Y6, qev, St.ev, St.put, qlen, qbuiltin, if_true, hl1, hc1, tk28, ZA]; rfl) ?_) ?_
    refine tri_block ?_
    refine Y3 okJa rfl (by repeat first | with_reducible exact Y2 | refine Y1 (by simp only [Y5, Y4, Y6, qev, St.ev, St.put, qint, Yc, Ya, qbin, Y8, Y7, if_true, if_false, decide_false, Int.reduceEq, ZA]; rfl) ?_) ?_
    refine Yf (b := false) rfl (fun h => by cases h) (fun _ => ?_)
    refine Y3 okJa rfl (by repeat first | with_reducible exact Y2 | refine Y1 (by simp only [Y5, Y4, Y6, qev, St.ev, St.put, qint, Yc, Ya, qbin, Y8, Y7, if_true, if_false, decide_true, ZA]; rfl) ?_) ?_
    refine Yf (b := true) rfl (fun _ => ?_) (fun h => by cases h)
    refine Y3 okJa rfl (by repeat first | with_reducible exact Y2 | refine Y1 (by simp only [Y5, Y4, Y6, qev, St.ev, St.put, D.int, qload, Y9, qmk, C.cpy, TK.agg, qindexAddr, C.cp, Y8, Y7, if_true, if_false, ne_eq, reduceCtorEq, Int.reduceLT, Int.reduceLE, hc1, Int.toNat_zero, tk28, tsz9, tk9, ZA]; rfl) ?_) ?_
    refine Yo (Yp (by simp only [outRes, Yi, resD, outD, outC, C.dat, if_true, ZA]; rfl) rfl (by simp) (by simp) ?_)
    (simp only [joinB] at hQ; with_reducible exact hQ)
  | x :: y :: r, hl, hsz, hQ, hlm =>
    have hQ2 : Q (.c (.v (.string ⟨(joinGo sep (y :: r) x.data.toList).toArray⟩))) [] := hQ
    clear hQ
    generalize hrr : y :: r = rr at hQ2 hl hsz hlm ⊢
    have hrl : 1 ≤ rr.length := by rw [← hrr]; simp
    have hxz : x.size ≤ 1073741824 := hsz x (List.mem_cons_self ..)
    have hrz : ∀ s ∈ rr, s.size ≤ 1073741824 := fun s hs => hsz s (List.mem_cons_of_mem _ hs)
    rw [List.length_cons] at hl hlm
    have hn0 : ¬ ((rr.length : Int) + 1 = 0) := by omega
    have hn1 : ¬ ((rr.length : Int) + 1 = 1) := by omega
    have hq1 : ((rr.length + 1 : Nat) : Int) = (rr.length : Int) + 1 := by omega
    have hq2 : (rr.length : Int) + 1 - 1 = (rr.length : Int) := by omega
    have hlm2 : rr.length ≤ maxStr := by omega
    have htk : (rr.map strC).take (rr.length + 1 - 1) = rr.map strC := List.take_of_length_le (by simp)
    have hrlz : ¬ (rr.length : Int) = 0 := by omega
    have hdv : (9223372036854775807 : Int).tdiv (rr.length : Int) = ((9223372036854775807 / rr.length : Nat) : Int) := rfl
    have hdv2 : 9007199254740992 ≤ 9223372036854775807 / rr.length := (Nat.le_div_iff_mul_le (by omega)).2 (by omega)
    have hdv3 : 9223372036854775807 / rr.length ≤ 9223372036854775807 := Nat.div_le_self _ _
    generalize 9223372036854775807 / rr.length = dv at hdv hdv2 hdv3
    have hmul : (sep.size : Int) * (rr.length : Int) = ((sep.size * rr.length : Nat) : Int) := by simp
    have hmul2 : sep.size * rr.length ≤ 100000 := Nat.le_trans (Nat.mul_le_mul hs1 (show rr.length ≤ 1000 by omega)) (by omega)
    have hmul3 : 0 < sep.size * rr.length := Nat.mul_pos hs0 (by omega)
    generalize sep.size * rr.length = sn at hmul hmul2 hmul3
    refine Y3 okJa rfl (by repeat first | with_reducible exact Y2 | refine Y1 (by simp only [Y5, Y4, Y6, qev, St.ev, St.put, Y8, Y7, List.replicate, Nat.reduceAdd, Nat.reduceSub, ZA]; rfl) ?_) ?_
    refine seq_in ?_
    refine Y3 okJa rfl (by repeat first | with_reducible exact Y2 | refine Y1 (by simp only [Y5, Y4, Y6, qev, St.ev, St.put, qlen, qbuiltin, if_true, hlm, hq1, List.length_map, tk28, ZA]; rfl) ?_) ?_
    refine tri_block ?_
    refine Y3 okJa rfl (by repeat first | with_reducible exact Y2 | refine Y1 (by simp only [Y5, Y4, Y6, qev, St.ev, St.put, qint, Yc, Ya, qbin, Y8, Y7, if_true, if_false, decide_false, hn0, ZA]; rfl) ?_) ?_
    refine Yf (b := false) rfl (fun h => by cases h) (fun _ => ?_)
    refine Y3 okJa rfl (by repeat first | with_reducible exact Y2 | refine Y1 (by simp only [Y5, Y4, Y6, qev, St.ev, St.put, qint, Yc, Ya, qbin, Y8, Y7, if_true, if_false, decide_false, hn1, ZA]; rfl) ?_) ?_
    refine Yf (b := false) rfl (fun h => by cases h) (fun _ => ?_)
    refine tri_skip ?_
    show Tri _ _ _ _
    refine Y3 okJa rfl (by repeat first | with_reducible exact Y2 | refine Y1 (by simp only [Y5, Y4, Y6, qev, St.ev, St.put, Y8, Y7, ZA]; rfl) ?_) ?_
    refine seq_in ?_
    refine Y3 okJa rfl (by repeat first | with_reducible exact Y2 | refine Y1 (by simp only [Y5, Y4, Y6, qev, St.ev, St.put, qint, Yc, Ya, qbin, qlen, qbuiltin, Y8, Y7, if_true, if_false, tk9, ZA]; rfl) ?_) ?_
    refine Yf rfl (fun c0 => ?_) (fun c0 => ?_)
    ·
      simp only [decide_eq_true_eq] at c0
      refine seq_in ?_
      refine Y3 okJa rfl (by repeat first | with_reducible exact Y2 | refine Y1 (by simp only [Y5, Y4, Y6, qev, St.ev, St.put, qint, Yc, Ya, qbin, qlen, qbuiltin, Y8, Y7, if_true, if_false, decide_true, hlm, hq1, hq2, hrlz, hdv, List.length_map, tk28, tk9, c0, show IntKind.i64.wrap (↑rr.length : Int) = _ from wrap_i64 _ (by omega) (by omega), show IntKind.i64.wrap (↑dv : Int) = _ from wrap_i64 _ (by omega) (by omega), ZA]; rfl) ?_) ?_
      refine Yf rfl (fun c1 => ?_) (fun c1 => ?_)
      ·
        simp only [decide_eq_true_eq] at c1
        (exfalso; omega)
      ·
        simp only [decide_eq_false_iff_not] at c1
        refine Ye ?_
        refine Yk okJa rfl (by repeat first | with_reducible exact Y2 | refine Y1 (by simp only [Y5, Y4, Y6, qev, St.ev, St.put, qint, Yc, Ya, qbin, qlen, qbuiltin, Y8, Y7, if_true, if_false, decide_false, Int.zero_add, hlm, hq1, hq2, hmul, List.length_map, tk28, tk9, c1, show IntKind.i64.wrap (↑rr.length : Int) = _ from wrap_i64 _ (by omega) (by omega), show IntKind.i64.wrap (↑sn : Int) = _ from wrap_i64 _ (by omega) (by omega), ZA]; rfl) ?_) ?_
        show Tri _ _ _ _
        refine seq_cut (fun A' => ∃ n : Nat, 0 < n ∧ n ≤ 35184372088832 ∧ St.Le A' ⟨[.c (.s false 1 ((x :: rr).map strC)), .c (.v (.string sep)), .top, .top, .c (.v (.string ⟨#[]⟩)), .c (.v (.int .i64 (n : Nat))), .top, .top, .top, .top, .top, .top, .top, .top, .top, .top, .top, .top, .top, .top, .top, .top, .top, .top, .top, .top, .top, .top, .top, .top, .top, .top, .top, .top, .top, .top, .top, .top, .top, .top, .top, .top, .top, .top, .top, .top, .top, .top, .top, .top, .top, .top, .top, .top, .top, .top, .top, .top, .top, .top, .top, .top, .top, .top, .top, .top, .top, .top, .top, .top, .top, .top, .top, .top, .top], []⟩) ?_ ?_
        ·
          rintro A' ⟨n, hn0, hn1, hle⟩
          refine tri_le hle ?_
          have hG := grow_at n hn0 hn1
          have hxl := dl_len x
          have hW0 := ws_at [] x (by simp; omega)
          rw [List.nil_append] at hW0
          refine seq_runR ?_
          refine rr_bld 5 rfl rfl Try.zeroValue69 (rr_nil ?_)
          refine Y3 okJa rfl (by repeat first | with_reducible exact Y2 | refine Y1 (by simp only [Y5, Y4, Y6, evsA, qev, St.ev, St.put, St.with, D.cell, C.cpy, C.cp, C.dat, Bool.and_true, Nat.reduceEqDiff, if_true, if_false, beq_self_eq_true, Bool.true_or, callP, callO, Fs.none, dedup, rootsD, rootsC, List.flatMap_cons, List.flatMap_nil, List.filterMap_cons, List.filterMap_nil, Yg, argD, argC, List.contains_nil, objsAt, objOf, List.idxOf?, List.findIdx?, List.findIdx?.go, setObjs, settle, settleDs, FsJa, hG, strC, ZA]; rfl) ?_) ?_
          refine Y3 okJa rfl (by repeat first | with_reducible exact Y2 | refine Y1 (by simp only [Y5, Y4, Y6, evsA, qev, St.ev, St.put, St.with, D.cell, D.int, qload, Y9, qmk, C.cpy, TK.agg, qindexAddr, C.cp, C.dat, Y8, Y7, Bool.and_true, Nat.reduceEqDiff, if_true, if_false, ne_eq, reduceCtorEq, Int.reduceLE, beq_self_eq_true, Bool.true_or, callP, callO, Fs.none, dedup, rootsD, rootsC, List.flatMap_cons, List.flatMap_nil, List.filterMap_cons, List.filterMap_nil, Yg, argD, argC, List.contains_nil, objsAt, objOf, List.idxOf?, List.findIdx?, List.findIdx?.go, setObjs, settle, settle1, settleC, settleDs, FsJa, hq1, List.length_map, Int.toNat_zero, hW0, tk28, tk9, tsz9, show (0 < (↑rr.length : Int) + 1) = True from eq_true (by omega), ZA]; rfl) ?_) ?_
          refine seq_in ?_
          refine Y3 okJa rfl (by repeat first | with_reducible exact Y2 | refine Y1 (by simp only [Y5, Y4, Y6, qev, St.ev, St.put, D.int, qbounds, qslice, qlen, omap, qbuiltin, Y8, Y7, if_true, ne_eq, reduceCtorEq, Int.reduceLE, Int.reduceToNat, htk, hlm2, hq1, List.length_map, tk28, tsz9, show (1 ≤ (↑rr.length : Int) + 1) = True from eq_true (by omega), ZA]; rfl) ?_) ?_
          refine tri_block ?_
          refine tri_loop_le (fun m A => ∃ (j : Nat) (acc : List UInt8), m + j = rr.length ∧ acc.length ≤ (j + 1) * 1073741924 ∧ joinGo sep (rr.drop j) acc = joinGo sep rr x.data.toList ∧ A = ⟨[.c (.s false 1 ((x :: rr).map strC)), .c (.v (.string sep)), .top, .top, .c (.v (.string ⟨#[]⟩)), .top, .top, .top, .c (.p 0 0 0), .top, .top, .top, .top, .top, .top, .top, .top, .top, .top, .top, .top, .top, .top, .top, .top, .top, .top, .top, .top, .top, .top, .top, .top, .top, .top, .top, .top, .top, .top, .top, .top, .top, .top, .top, .top, .top, .top, .top, .top, .top, .top, .top, .top, .top, .top, .top, .top, .top, .top, .top, .top, .top, .top, .c (.s false 1 (rr.map strC)), .c (.v (.int .i64 (rr.length : Nat))), .c (.v (.int .i64 (j : Nat))), .top, .top, .top, .top, .top, .top, .top, .top, .top], [some ⟨false, 2, [[.b 69, .u 5 (acc)]]⟩]⟩) rr.length (B := ⟨[.c (.s false 1 ((x :: rr).map strC)), .c (.v (.string sep)), .top, .top, .c (.v (.string ⟨#[]⟩)), .top, .top, .top, .c (.p 0 0 0), .top, .top, .top, .top, .top, .top, .top, .top, .top, .top, .top, .top, .top, .top, .top, .top, .top, .top, .top, .top, .top, .top, .top, .top, .top, .top, .top, .top, .top, .top, .top, .top, .top, .top, .top, .top, .top, .top, .top, .top, .top, .top, .top, .top, .top, .top, .top, .top, .top, .top, .top, .top, .top, .top, .c (.s false 1 (rr.map strC)), .c (.v (.int .i64 (rr.length : Nat))), .c (.v (.int .i64 (0 : Nat))), .top, .top, .top, .top, .top, .top, .top, .top, .top], [some ⟨false, 2, [[.b 69, .u 5 (x.data.toList)]]⟩]⟩) ⟨by repeat (first | exact .nil | refine .same ?_ | refine .top ?_), rfl⟩ ⟨0, x.data.toList, rfl, by omega, rfl, rfl⟩ ?_
          rintro m A ⟨j, acc, hm, hacc, hk, rfl⟩
          have hj1 : (j : Int) + 1 = ((j + 1 : Nat) : Int) := by omega
          have hjb : j ≤ 1000 := by omega
          have hg : ((j : Nat) : Int) < ((rr.length : Nat) : Int) → rr[j]? = some (rr.getD j ⟨#[]⟩) := fun h => get_at _ (by omega)
          have hgz := getD_size hrz j
          have hsl := dl_len sep
          have hzl := dl_len (rr.getD j ⟨#[]⟩)
          have hW1 := ws_at acc sep (by omega)
          have hW2 := ws_at (acc ++ sep.data.toList) (rr.getD j ⟨#[]⟩) (by rw [List.length_append]; omega)
          have hSt := str_at acc (by omega)
          have hmj : (rr.map strC)[j]? = Option.map strC (rr[j]?) := List.getElem?_map
          refine Y3 okJa rfl (by repeat first | with_reducible exact Y2 | refine Y1 (by simp only [Y5, Y4, Y6, qev, St.ev, St.put, qint, Yc, Ya, qbin, if_true, if_false, strC, strC, ZA]; rfl) ?_) ?_
          refine seq_in (Yf rfl (fun c2 => ?_) (fun c2 => ?_))
          ·
            simp only [decide_eq_true_eq] at c2
            refine Ye ?_
            refine seq_in (tri_block ?_)
            refine Y3 okJa rfl (by repeat first | with_reducible exact Y2 | refine Y1 (by simp only [Y5, Y4, Y6, qev, St.ev, St.put, D.int, qload, Y9, qmk, C.cpy, TK.agg, qindexAddr, C.cp, if_true, if_false, decide_true, ne_eq, reduceCtorEq, Int.toNat_natCast, Int.natCast_nonneg, List.length_map, Int.toNat_natCast, strC, hg, hmj, strC, tk28, tk9, tsz9, c2, ZA]; rfl) ?_) ?_
            refine Y3 okJa rfl (by repeat first | with_reducible exact Y2 | refine Y1 (by simp only [Y5, Y4, Y6, evsA, qev, St.ev, St.put, St.with, D.cell, C.cpy, C.cp, C.dat, Bool.and_true, Nat.reduceEqDiff, if_true, if_false, beq_self_eq_true, Bool.true_or, callP, callO, Fs.none, dedup, rootsD, rootsC, List.flatMap_cons, List.flatMap_nil, List.filterMap_cons, List.filterMap_nil, Yg, argD, argC, List.contains_nil, objsAt, objOf, List.idxOf?, List.findIdx?, List.findIdx?.go, setObjs, settle, settle1, settleC, settleDs, FsJa, hW1, ZA]; rfl) ?_) ?_
            refine Yk okJa rfl (by repeat first | with_reducible exact Y2 | refine Y1 (by simp only [Y5, Y4, Y6, evsA, qev, St.ev, St.put, St.with, D.cell, C.cpy, C.cp, C.dat, Bool.and_true, Nat.reduceEqDiff, if_true, if_false, beq_self_eq_true, Bool.true_or, callP, callO, Fs.none, dedup, rootsD, rootsC, List.flatMap_cons, List.flatMap_nil, List.filterMap_cons, List.filterMap_nil, Yg, argD, argC, List.contains_nil, objsAt, objOf, List.idxOf?, List.findIdx?, List.findIdx?.go, setObjs, settle, settle1, settleC, settleDs, FsJa, hW2, ZA]; rfl) ?_) ?_
            show Tri _ _ _ _
            refine Yk okJa rfl (by repeat first | with_reducible exact Y2 | refine Y1 (by simp only [Y5, Y4, Y6, qev, St.ev, St.put, qint, Yc, Ya, qbin, Y8, Y7, if_true, if_false, hj1, show IntKind.i64.wrap (↑(j + 1) : Int) = _ from wrap_i64 _ (by omega) (by omega), ZA]; rfl) ?_) ?_
            simp only []
            (rw [drop_at ⟨#[]⟩ (show j < rr.length by omega), joinGo] at hk; exact ⟨m - 1, by omega, ⟨[.c (.s false 1 ((x :: rr).map strC)), .c (.v (.string sep)), .top, .top, .c (.v (.string ⟨#[]⟩)), .top, .top, .top, .c (.p 0 0 0), .top, .top, .top, .top, .top, .top, .top, .top, .top, .top, .top, .top, .top, .top, .top, .top, .top, .top, .top, .top, .top, .top, .top, .top, .top, .top, .top, .top, .top, .top, .top, .top, .top, .top, .top, .top, .top, .top, .top, .top, .top, .top, .top, .top, .top, .top, .top, .top, .top, .top, .top, .top, .top, .top, .c (.s false 1 (rr.map strC)), .c (.v (.int .i64 (rr.length : Nat))), .c (.v (.int .i64 (j + 1 : Nat))), .top, .top, .top, .top, .top, .top, .top, .top, .top], [some ⟨false, 2, [[.b 69, .u 5 (acc ++ sep.data.toList ++ (rr.getD j ⟨#[]⟩).data.toList)]]⟩]⟩, ⟨by repeat (first | exact .nil | refine .same ?_ | refine .top ?_), rfl⟩, j + 1, acc ++ sep.data.toList ++ (rr.getD j ⟨#[]⟩).data.toList, by omega, (by rw [List.length_append, List.length_append]; omega), hk, rfl⟩)
          ·
            simp only [decide_eq_false_iff_not] at c2
            refine tri_exit ?_
            show Tri _ _ _ _
            refine Y3 okJa rfl (by repeat first | with_reducible exact Y2 | refine Y1 (by simp only [Y5, Y4, Y6, evsA, qev, St.ev, St.put, St.with, D.cell, C.dat, Bool.and_true, Nat.reduceEqDiff, if_true, if_false, decide_false, beq_self_eq_true, Bool.true_or, callP, callO, Fs.none, dedup, rootsD, rootsC, List.flatMap_cons, List.flatMap_nil, List.filterMap_cons, List.filterMap_nil, Yg, argD, argC, List.contains_nil, objsAt, objOf, List.idxOf?, List.findIdx?, List.findIdx?.go, setObjs, settle, settle1, settleC, FsJa, hSt, c2, ZA]; rfl) ?_) ?_
            refine Yo (Yp (by simp only [outRes, Yi, resD, outD, outC, C.dat, if_true, ZA]; rfl) rfl (by simp) (by simp) ?_)
            (rw [List.drop_of_length_le (by omega)] at hk; rw [show joinGo sep rr x.data.toList = acc from hk.symm] at hQ2; exact hQ2)
        ·
          refine Y3 okJa rfl (by repeat first | with_reducible exact Y2 | refine Y1 (by simp only [Y5, Y4, Y6, qev, St.ev, St.put, qlen, qbuiltin, Y8, Y7, if_true, hlm, hq1, List.length_map, tk28, ZA]; rfl) ?_) ?_
          refine tri_block ?_
          refine tri_loop_le (fun m A => ∃ (j n : Nat), m + j = rr.length + 1 ∧ n ≤ 100000 + j * 1073741824 ∧ 0 < n ∧ A = ⟨[.c (.s false 1 ((x :: rr).map strC)), .c (.v (.string sep)), .top, .top, .c (.v (.string ⟨#[]⟩)), .c (.v (.int .i64 (n : Nat))), .top, .top, .top, .top, .top, .top, .top, .top, .top, .top, .top, .top, .top, .top, .top, .top, .top, .top, .top, .top, .top, .top, .top, .top, .top, .top, .top, .top, .top, .top, .top, .top, .top, .c (.s false 1 ((x :: rr).map strC)), .c (.v (.int .i64 ((rr.length : Int) + 1))), .c (.v (.int .i64 (j : Nat))), .top, .top, .top, .top, .top, .top, .top, .top, .top, .top, .top, .top, .top, .top, .top, .top, .top, .top, .top, .top, .top, .top, .top, .top, .top, .top, .top, .top, .top, .top, .top, .top, .top], []⟩) (rr.length + 1) (B := ⟨[.c (.s false 1 ((x :: rr).map strC)), .c (.v (.string sep)), .top, .top, .c (.v (.string ⟨#[]⟩)), .c (.v (.int .i64 (sn : Nat))), .top, .top, .top, .top, .top, .top, .top, .top, .top, .top, .top, .top, .top, .top, .top, .top, .top, .top, .top, .top, .top, .top, .top, .top, .top, .top, .top, .top, .top, .top, .top, .top, .top, .c (.s false 1 ((x :: rr).map strC)), .c (.v (.int .i64 ((rr.length : Int) + 1))), .c (.v (.int .i64 (0 : Nat))), .top, .top, .top, .top, .top, .top, .top, .top, .top, .top, .top, .top, .top, .top, .top, .top, .top, .top, .top, .top, .top, .top, .top, .top, .top, .top, .top, .top, .top, .top, .top, .top, .top], []⟩) ⟨by repeat (first | exact .nil | refine .same ?_ | refine .top ?_), rfl⟩ ⟨0, sn, rfl, by omega, hmul3, rfl⟩ ?_
          rintro m A ⟨j, n, hm, hn, hnp, rfl⟩
          have hj1 : (j : Int) + 1 = ((j + 1 : Nat) : Int) := by omega
          have hjb : j ≤ 1001 := by omega
          have hg : ((j : Nat) : Int) < ((rr.length : Nat) : Int) + 1 → (x :: rr)[j]? = some ((x :: rr).getD j ⟨#[]⟩) := fun h => get_at _ (by rw [List.length_cons]; omega)
          have hgz := getD_size hsz j
          have hgm : ((x :: rr).getD j ⟨#[]⟩).size ≤ maxStr := (by unfold maxStr; omega)
          obtain ⟨z, hz⟩ : ∃ z, (x :: rr).getD j ⟨#[]⟩ = z := ⟨_, rfl⟩
          rw [hz] at hg hgz hgm
          have hmj : ((x :: rr).map strC)[j]? = Option.map strC ((x :: rr)[j]?) := List.getElem?_map
          obtain ⟨rows, hrows⟩ : ∃ rows, (x :: rr).map strC = rows := ⟨_, rfl⟩
          rw [hrows] at hmj ⊢
          have hgr : ((j : Nat) : Int) < ((rr.length : Nat) : Int) + 1 → rows[j]? = some [.v (.string z)] := (by intro h; rw [hmj, hg h]; rfl)
          have hrwl : rows.length = rr.length + 1 := (by rw [← hrows, List.length_map, List.length_cons])
          have hadd : (n : Int) + (z.size : Int) = ((n + z.size : Nat) : Int) := (by omega)
          refine Y3 okJa rfl (by repeat first | with_reducible exact Y2 | refine Y1 (by simp only [Y5, Y4, Y6, qev, St.ev, St.put, qint, Yc, Ya, qbin, if_true, if_false, ZA]; rfl) ?_) ?_
          refine seq_in (Yf rfl (fun c3 => ?_) (fun c3 => ?_))
          ·
            simp only [decide_eq_true_eq] at c3
            refine Ye ?_
            refine seq_in (tri_block ?_)
            refine Y3 okJa rfl (by repeat first | with_reducible exact Y2 | refine Y1 (by simp only [Y5, Y4, Y6, qev, St.ev, St.put, D.int, qload, Y9, qmk, C.cpy, TK.agg, qindexAddr, C.cp, if_true, if_false, decide_true, ne_eq, reduceCtorEq, hq1, Int.toNat_natCast, Int.natCast_nonneg, hgr, hrwl, tk28, tk9, c3, tsz9, ZA]; rfl) ?_) ?_
            refine seq_in ?_
            refine Y3 okJa rfl (by repeat first | with_reducible exact Y2 | refine Y1 (by simp only [Y5, Y4, Y6, qev, St.ev, St.put, qint, Yc, Ya, qbin, qlen, qbuiltin, Y8, Y7, if_true, if_false, tk9, show IntKind.i64.wrap (9223372036854775807 - (↑n : Int)) = _ from wrap_i64 _ (by omega) (by omega), ZA]; rfl) ?_) ?_
            refine Yf rfl (fun c4 => ?_) (fun c4 => ?_)
            ·
              simp only [decide_eq_true_eq] at c4
              (exfalso; omega)
            ·
              simp only [decide_eq_false_iff_not] at c4
              refine Ye ?_
              refine Yk okJa rfl (by repeat first | with_reducible exact Y2 | refine Y1 (by simp only [Y5, Y4, Y6, qev, St.ev, St.put, qint, Yc, Ya, qbin, qlen, qbuiltin, if_true, if_false, decide_false, hadd, tk9, c4, show IntKind.i64.wrap (↑(n + z.size) : Int) = _ from wrap_i64 _ (by omega) (by omega), ZA]; rfl) ?_) ?_
              show Tri _ _ _ _
              refine Yk okJa rfl (by repeat first | with_reducible exact Y2 | refine Y1 (by simp only [Y5, Y4, Y6, qev, St.ev, St.put, qint, Yc, Ya, qbin, Y8, Y7, if_true, if_false, hj1, show IntKind.i64.wrap (↑(j + 1) : Int) = _ from wrap_i64 _ (by omega) (by omega), ZA]; rfl) ?_) ?_
              simp only []
              (exact ⟨m - 1, by omega, ⟨[.c (.s false 1 (rows)), .c (.v (.string sep)), .top, .top, .c (.v (.string ⟨#[]⟩)), .c (.v (.int .i64 (n + z.size : Nat))), .top, .top, .top, .top, .top, .top, .top, .top, .top, .top, .top, .top, .top, .top, .top, .top, .top, .top, .top, .top, .top, .top, .top, .top, .top, .top, .top, .top, .top, .top, .top, .top, .top, .c (.s false 1 (rows)), .c (.v (.int .i64 ((rr.length : Int) + 1))), .c (.v (.int .i64 (j + 1 : Nat))), .top, .top, .top, .top, .top, .top, .top, .top, .top, .top, .top, .top, .top, .top, .top, .top, .top, .top, .top, .top, .top, .top, .top, .top, .top, .top, .top, .top, .top, .top, .top, .top, .top], []⟩, ⟨(by repeat (first | exact .nil | refine .same ?_ | refine .top ?_)), rfl⟩, j + 1, n + z.size, by omega, by omega, by omega, rfl⟩)
          ·
            simp only [decide_eq_false_iff_not] at c3
            refine tri_exit ?_
            simp only []
            (exact ⟨n, hnp, by omega, ⟨(by repeat (first | exact .nil | refine .same ?_ | refine .top ?_)), rfl⟩⟩)
    ·
      simp only [decide_eq_false_iff_not] at c0
      (exfalso; omega)
end Go.Dl
