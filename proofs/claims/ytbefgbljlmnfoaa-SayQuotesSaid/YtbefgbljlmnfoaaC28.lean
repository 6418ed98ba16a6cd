/- Plain facts of texts: bytes, quotes, blanks, tokens. -/
import Derived.Test.YtbefgbljlmnfoaaC24
namespace Go.Dl
open Go.RowKit
open Go.Proofs
set_option linter.unusedVariables false

theorem notNL_t {c : Int} (h : ¬ c = 10) : notNL c = true := by simp [notNL, h]
theorem notNL_f {c : Int} (h : c = 10) : notNL c = false := by simp [notNL, h]
theorem word_l {c : Int} (h : isLetter c = true) : isWordC c = true := by simp [isWordC, h]
theorem word_d {c : Int} (h : isDigit c = true) : isWordC c = true := by simp [isWordC, h]
theorem word_f {c : Int} (h : isLetter c = false) (h2 : isDigit c = false) : isWordC c = false := by simp [isWordC, h, h2]
theorem letter_at (c : Int) : pU8 isLetter [.c (.v (.int .u8 c))] = some (dB (isLetter c)) := rfl
theorem tab_nib : ∀ n : Fin 256, idxB hexT ((n.val : Nat) : Int) = nibR ((n.val : Nat) : Int) := by decide +kernel
theorem idx_nib (x : UInt8) : idxB hexT x.toNat = nibR x.toNat := tab_nib ⟨x.toNat, x.toNat_lt⟩
theorem tab_esc : ∀ a b : Fin 16, escV ((a.val : Nat) : Int) ((b.val : Nat) : Int) = 16 * ((a.val : Nat) : Int) + ((b.val : Nat) : Int) := by decide +kernel
theorem esc_sum {a b : Int} (ha : 0 ≤ a) (ha2 : a ≤ 15) (hb : 0 ≤ b) (hb2 : b ≤ 15) : escV a b = 16 * a + b := by
  obtain ⟨n, rfl⟩ : ∃ n : Nat, a = n := ⟨a.toNat, by omega⟩
  obtain ⟨m, rfl⟩ : ∃ m : Nat, b = m := ⟨b.toNat, by omega⟩
  exact tab_esc ⟨n, by omega⟩ ⟨m, by omega⟩
theorem tab_mark : ∀ n : Fin 256, decide (0 ≤ idxB marks ((n.val : Nat) : Int)) = (decide (n.val = 61) || decide (n.val = 44) || decide (n.val = 40) || decide (n.val = 41) || decide (n.val = 91) || decide (n.val = 93) || decide (n.val = 59)) := by decide +kernel

theorem byU_ext {s : ByteArray} {p j : Nat} (h : p + j < s.size) : (s.extract p s.size).data.toList.getD j 0 = byU s (p + j) := by
  unfold byU
  rw [ByteArray.data_extract, Array.toList_extract, List.extract_eq_take_drop]
  have h' : p + j < s.data.toList.length := by simpa using h
  have h2 : s.data.toList.length = s.size := by simp
  rw [List.getD_eq_getElem?_getD, List.getD_eq_getElem?_getD, List.getElem?_take_of_lt (by omega), List.getElem?_drop]
theorem ext1 {s : ByteArray} {i : Nat} (h : i < s.size) : s.extract i (i + 1) = ⟨#[byU s i]⟩ := by
  apply ByteArray.ext
  rw [ByteArray.data_extract]
  apply Array.ext'
  rw [Array.toList_extract, List.extract_eq_take_drop]
  have h' : i < s.data.toList.length := by simpa using h
  rw [List.drop_eq_getElem_cons h', show i + 1 - i = 1 from by omega]
  have hz : i < s.data.size := h'
  simp only [List.take_succ_cons, List.take_zero, byU, List.getD_eq_getElem?_getD, List.getElem?_eq_getElem h', Option.getD_some]
theorem app1 (acc : List UInt8) (x : UInt8) : (⟨acc.toArray⟩ : ByteArray) ++ ⟨#[x]⟩ = ⟨(acc ++ [x]).toArray⟩ := by
  apply ByteArray.ext
  rw [ByteArray.data_append]
  simp

theorem esc_ok {s : ByteArray} {p : Nat} (h : p + 3 < s.size) : escF (s.extract (p + 2) s.size) = (escV (nibR (byU s (p + 2)).toNat) (nibR (byU s (p + 3)).toNat), decide (0 ≤ nibR (byU s (p + 2)).toNat) && decide (0 ≤ nibR (byU s (p + 3)).toNat)) := by
  have h0 : (s.extract (p + 2) s.size).data.toList.getD 0 0 = byU s (p + 2) := byU_ext (j := 0) (by omega)
  have h1 : (s.extract (p + 2) s.size).data.toList.getD 1 0 = byU s (p + 3) := byU_ext (j := 1) (by omega)
  unfold escF
  rw [if_neg (by rw [ByteArray.size_extract]; omega), h0, h1, idx_nib, idx_nib]
theorem esc_no {s : ByteArray} {p : Nat} (h : s.size ≤ p + 3) : (escF (s.extract (p + 2) s.size)).2 = false := by
  unfold escF
  rw [if_pos (by rw [ByteArray.size_extract]; omega)]
theorem escB_sum {s : ByteArray} {p : Nat} (h : p + 3 < s.size) (h2 : 0 ≤ nibR (byU s (p + 2)).toNat) (h3 : 0 ≤ nibR (byU s (p + 3)).toNat) :
    escB (s.extract (p + 2) s.size) = UInt8.ofNat (16 * nibR (byU s (p + 2)).toNat + nibR (byU s (p + 3)).toNat).toNat ∧ ((escB (s.extract (p + 2) s.size)).toNat : Int) = 16 * nibR (byU s (p + 2)).toNat + nibR (byU s (p + 3)).toNat := by
  have b2 := nibR_in (byU s (p + 2))
  have b3 := nibR_in (byU s (p + 3))
  have he : escB (s.extract (p + 2) s.size) = UInt8.ofNat (16 * nibR (byU s (p + 2)).toNat + nibR (byU s (p + 3)).toNat).toNat := by
    unfold escB; rw [esc_ok h]; dsimp only; rw [esc_sum h2 b2.2 h3 b3.2]
  refine ⟨he, ?_⟩
  rw [he, UInt8.toNat_ofNat']
  omega

/-- What the reference answers where the program answers so. -/
def qConv (r : ByteArray × Bool × Nat) : ByteArray × Int := if r.2.1 = true then (r.1, (r.2.2 : Int)) else (noText, -1)
theorem quote_eq : ∀ (n : Nat) (s : ByteArray) (p : Nat) (acc : List UInt8), quoteR n s p ⟨acc.toArray⟩ = qConv (quoteN n s p acc)
  | 0, s, p, acc => rfl
  | n + 1, s, p, acc => by
    simp only [quoteR, quoteN]
    by_cases h0 : (p : Int) < (s.size : Int)
    · rw [if_pos h0, if_pos h0]
      by_cases h1 : ((byU s p).toNat : Int) = 34
      · rw [if_pos h1, if_pos h1]; rfl
      · rw [if_neg h1, if_neg h1]
        by_cases h2 : ((byU s p).toNat : Int) = 92
        · rw [if_neg (by rw [plainR_eq, h2]; decide), if_pos h2, if_pos h2]
          by_cases h3 : (s.size : Int) ≤ ((p + 3 : Nat) : Int)
          · rw [if_pos h3]
            split
            · rfl
            · split
              · rw [if_neg (by rw [esc_no (by omega)]; simp)]; rfl
              · rfl
          · rw [if_neg h3, if_neg (show ¬ (s.size : Int) ≤ ((p + 1 : Nat) : Int) by omega)]
            split
            · rw [esc_ok (by omega)]
              by_cases h4 : nibR (byU s (p + 2)).toNat < 0
              · rw [if_pos h4, if_neg (by dsimp only; rw [Bool.and_eq_true, decide_eq_true_eq, decide_eq_true_eq]; omega)]; rfl
              · rw [if_neg h4]
                by_cases h5 : nibR (byU s (p + 3)).toNat < 0
                · rw [if_pos h5, if_neg (by dsimp only; rw [Bool.and_eq_true, decide_eq_true_eq, decide_eq_true_eq]; omega)]; rfl
                · rw [if_neg h5, if_pos (show ((escV (nibR (byU s (p + 2)).toNat) (nibR (byU s (p + 3)).toNat), decide (0 ≤ nibR (byU s (p + 2)).toNat) && decide (0 ≤ nibR (byU s (p + 3)).toNat)) : Int × Bool).2 = true from by dsimp only; rw [Bool.and_eq_true, decide_eq_true_eq, decide_eq_true_eq]; omega)]
                  obtain ⟨e1, e2⟩ := escB_sum (s := s) (p := p) (by omega) (by omega) (by omega)
                  rw [e2, plainR_eq]
                  split
                  · rfl
                  · rw [e1, app1]
                    exact quote_eq n s (p + 4) _
            · rfl
        · rw [if_neg h2, if_neg h2, plainR_eq]
          split
          · rw [ext1 (by omega), app1]
            exact quote_eq n s (p + 1) _
          · rfl
    · rw [if_neg h0, if_neg h0]; rfl
theorem quoteF_eq (s : ByteArray) (p : Nat) : quoteRF s p = qConv (quoteF s p) := quote_eq (s.size + 1) s (p + 1) []

theorem byt_byU (s : ByteArray) (p : Nat) : byt s p = ((byU s p).toNat : Int) := rfl
theorem mark_iff (s : ByteArray) (p : Nat) : 0 ≤ idxB marks (byt s p) ↔ (byt s p = 61 ∨ byt s p = 44 ∨ byt s p = 40 ∨ byt s p = 41 ∨ byt s p = 91 ∨ byt s p = 93 ∨ byt s p = 59) := by
  have h := tab_mark ⟨(byU s p).toNat, (byU s p).toNat_lt⟩
  rw [byt_byU]
  dsimp only at h
  rw [Bool.eq_iff_iff] at h
  simp only [Bool.or_eq_true, decide_eq_true_eq] at h
  rw [h]
  omega

theorem blkN_fuel : ∀ (n m : Nat) (s : ByteArray) (p : Nat), p ≤ s.size → s.size - p < n → s.size - p < m → blkN n s p = blkN m s p
  | 0, m, s, p, hp, h, _ => by omega
  | n + 1, 0, s, p, hp, _, h => by omega
  | n + 1, m + 1, s, p, hp, hn, hm => by
    simp only [blkN]
    split
    · rename_i h
      split
      · exact blkN_fuel n m s (p + 1) (by omega) (by omega) (by omega)
      · split
        · rename_i h35
          have h1 := runF_le notNL s p hp
          have h2 : p < runF notNL s p := runF_gt h (notNL_t (by omega))
          exact blkN_fuel n m s _ h1.2 (by omega) (by omega)
        · rfl
    · rfl
theorem blkF_blank {s : ByteArray} {p : Nat} (h : p < s.size) (hb : isBlank (byt s p) = true) : blkF s p = blkF s (p + 1) := by
  unfold blkF
  rw [show blkN (s.size + 1) s p = blkN s.size s (p + 1) from by simp only [blkN]; rw [if_pos h, if_pos hb]]
  exact blkN_fuel _ _ s (p + 1) h (by omega) (by omega)
theorem blkF_rem {s : ByteArray} {p : Nat} (h : p < s.size) (hb : byt s p = 35) : blkF s p = blkF s (runF notNL s p) := by
  have h1 := runF_le notNL s p (by omega)
  have h2 : p < runF notNL s p := runF_gt h (notNL_t (by omega))
  unfold blkF
  rw [show blkN (s.size + 1) s p = blkN s.size s (runF notNL s p) from by simp only [blkN]; rw [if_pos h, if_neg (by rw [hb]; decide), if_pos hb]]
  exact blkN_fuel _ _ s _ h1.2 (by omega) (by omega)
theorem blkF_stop {s : ByteArray} {p : Nat} (h : p < s.size → isBlank (byt s p) = false ∧ ¬ byt s p = 35) : blkF s p = p := by
  unfold blkF
  simp only [blkN]
  split
  · rename_i h0
    rw [if_neg (by rw [(h h0).1]; simp), if_neg (h h0).2]
  · rfl
theorem blank_iff (c : Int) : isBlank c = true ↔ (c = 32 ∨ c = 10 ∨ c = 9) := by simp [isBlank, or_assoc]

theorem toksN_cases : ∀ (n : Nat) (s : ByteArray) (p : Nat) (acc : List Tok) (r : List Tok × Int × Int), p ≤ s.size → toksN n s p acc = some r → r.2 = (0, 0) ∨ (r.1 = [] ∧ 0 ≤ r.2.1 ∧ r.2.2 = 4)
  | 0, s, p, acc, r, hp, h => by cases h
  | n + 1, s, p, acc, r, hp, h => by
    obtain ⟨⟨t, m, e, q⟩, hr⟩ := nextF_some s p
    simp only [toksN, hr, Option.bind_some] at h
    by_cases he : e = 0
    · rw [if_neg (by simp [he])] at h
      cases m with
      | false => rw [if_pos rfl] at h; cases h; exact .inl rfl
      | true =>
        rw [if_neg (by simp)] at h
        exact toksN_cases n s q _ r (nextF_le hp hr).1 h
    · rw [if_pos he] at h
      cases h
      cases m with
      | false =>
        have := nextF_err hr
        exact .inr ⟨rfl, this.2, by rcases this.1 with h | h; exact absurd h he; exact h⟩
      | true => exact absurd (nextF_ok hp hr).1 he
theorem toksT_cases {s : ByteArray} (h : s.size ≤ 65536) : (∃ l, toksT s = (l, 0, 0)) ∨ ∃ a, 0 ≤ a ∧ toksT s = ([], a, 4) := by
  have h3 := toksT_eq s
  unfold toksF at h3
  rw [if_neg (by omega)] at h3
  generalize toksT s = r at h3 ⊢
  obtain ⟨l, a, e⟩ := r
  rcases toksN_cases _ s 0 [] _ (Nat.zero_le _) h3 with h1 | ⟨h1, h2, h4⟩
  · left
    cases h1
    exact ⟨l, rfl⟩
  · right
    cases h1; cases h4
    exact ⟨a, h2, rfl⟩
theorem strEq_same (a : ByteArray) : strEq a a = true := by
  unfold strEq
  simp
theorem cut_at (s : ByteArray) (hs : s.size ≤ maxStr) : pCut [.c (.v (.string s))] = some (.c (.v (.string (if 500 < (s.size : Int) then s.extract 0 500 else s)))) := if_pos hs
def pSayText : List D → Option D
  | [.c (.v (.string s))] => if s.size ≤ maxStr then some (dB true) else none
  | _ => none
end Go.Dl
