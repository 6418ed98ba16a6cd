/- Plain law: the reference's tokens are the program's; The walk of SayTokens. -/
import Derived.Test.YtbefgbljlmnfoaaC25
namespace Go.Dl
open Go.RowKit
open Go.Proofs
set_option linter.unusedVariables false

theorem tab_nib : ∀ n : Fin 256, idxB hexT ((n.val : Nat) : Int) = nibR ((n.val : Nat) : Int) := by decide +kernel
theorem idx_nib (x : UInt8) : idxB hexT x.toNat = nibR x.toNat := tab_nib ⟨x.toNat, x.toNat_lt⟩
theorem tab_esc : ∀ a b : Fin 16, escV ((a.val : Nat) : Int) ((b.val : Nat) : Int) = 16 * ((a.val : Nat) : Int) + ((b.val : Nat) : Int) := by decide +kernel
theorem esc_sum {a b : Int} (ha : 0 ≤ a) (ha2 : a ≤ 15) (hb : 0 ≤ b) (hb2 : b ≤ 15) : escV a b = 16 * a + b := by
  obtain ⟨n, rfl⟩ : ∃ n : Nat, a = n := ⟨a.toNat, by omega⟩
  obtain ⟨m, rfl⟩ : ∃ m : Nat, b = m := ⟨b.toNat, by omega⟩
  exact tab_esc ⟨n, by omega⟩ ⟨m, by omega⟩
theorem tab_mark : ∀ n : Fin 256, decide (0 ≤ idxB marks ((n.val : Nat) : Int)) = (decide (n.val = 61) || decide (n.val = 44) || decide (n.val = 40) || decide (n.val = 41) || decide (n.val = 91) || decide (n.val = 93) || decide (n.val = 59)) := by decide +kernel

theorem byU_ext {s : ByteArray} {p j : Nat} (h : p + j < s.size) : (s.extract p s.size).data.toList.getD j 0 = byU s (p + j) := by
  unfold byU
  rw [ByteArray.data_extract, Array.toList_extract, List.extract_eq_take_drop]
  have h' : p + j < s.data.toList.length := by simpa using h
  have h2 : s.data.toList.length = s.size := by simp
  rw [List.getD_eq_getElem?_getD, List.getD_eq_getElem?_getD, List.getElem?_take_of_lt (by omega), List.getElem?_drop]
theorem ext1 {s : ByteArray} {i : Nat} (h : i < s.size) : s.extract i (i + 1) = ⟨#[byU s i]⟩ := by
  apply ByteArray.ext
  rw [ByteArray.data_extract]
  apply Array.ext'
  rw [Array.toList_extract, List.extract_eq_take_drop]
  have h' : i < s.data.toList.length := by simpa using h
  rw [List.drop_eq_getElem_cons h', show i + 1 - i = 1 from by omega]
  have hz : i < s.data.size := h'
  simp only [List.take_succ_cons, List.take_zero, byU, List.getD_eq_getElem?_getD, List.getElem?_eq_getElem h', Option.getD_some]
theorem app1 (acc : List UInt8) (x : UInt8) : (⟨acc.toArray⟩ : ByteArray) ++ ⟨#[x]⟩ = ⟨(acc ++ [x]).toArray⟩ := by
  apply ByteArray.ext
  rw [ByteArray.data_append]
  simp

theorem esc_ok {s : ByteArray} {p : Nat} (h : p + 3 < s.size) : escF (s.extract (p + 2) s.size) = (escV (nibR (byU s (p + 2)).toNat) (nibR (byU s (p + 3)).toNat), decide (0 ≤ nibR (byU s (p + 2)).toNat) && decide (0 ≤ nibR (byU s (p + 3)).toNat)) := by
  have h0 : (s.extract (p + 2) s.size).data.toList.getD 0 0 = byU s (p + 2) := byU_ext (j := 0) (by omega)
  have h1 : (s.extract (p + 2) s.size).data.toList.getD 1 0 = byU s (p + 3) := byU_ext (j := 1) (by omega)
  unfold escF
  rw [if_neg (by rw [ByteArray.size_extract]; omega), h0, h1, idx_nib, idx_nib]
theorem esc_no {s : ByteArray} {p : Nat} (h : s.size ≤ p + 3) : (escF (s.extract (p + 2) s.size)).2 = false := by
  unfold escF
  rw [if_pos (by rw [ByteArray.size_extract]; omega)]
theorem escB_sum {s : ByteArray} {p : Nat} (h : p + 3 < s.size) (h2 : 0 ≤ nibR (byU s (p + 2)).toNat) (h3 : 0 ≤ nibR (byU s (p + 3)).toNat) :
    escB (s.extract (p + 2) s.size) = UInt8.ofNat (16 * nibR (byU s (p + 2)).toNat + nibR (byU s (p + 3)).toNat).toNat ∧ ((escB (s.extract (p + 2) s.size)).toNat : Int) = 16 * nibR (byU s (p + 2)).toNat + nibR (byU s (p + 3)).toNat := by
  have b2 := nibR_in (byU s (p + 2))
  have b3 := nibR_in (byU s (p + 3))
  have he : escB (s.extract (p + 2) s.size) = UInt8.ofNat (16 * nibR (byU s (p + 2)).toNat + nibR (byU s (p + 3)).toNat).toNat := by
    unfold escB; rw [esc_ok h]; dsimp only; rw [esc_sum h2 b2.2 h3 b3.2]
  refine ⟨he, ?_⟩
  rw [he, UInt8.toNat_ofNat']
  omega

/-- What the reference answers where the program answers so. -/
def qConv (r : ByteArray × Bool × Nat) : ByteArray × Int := if r.2.1 = true then (r.1, (r.2.2 : Int)) else (noText, -1)
theorem quote_eq : ∀ (n : Nat) (s : ByteArray) (p : Nat) (acc : List UInt8), quoteR n s p ⟨acc.toArray⟩ = qConv (quoteN n s p acc)
  | 0, s, p, acc => rfl
  | n + 1, s, p, acc => by
    simp only [quoteR, quoteN]
    by_cases h0 : (p : Int) < (s.size : Int)
    · rw [if_pos h0, if_pos h0]
      by_cases h1 : ((byU s p).toNat : Int) = 34
      · rw [if_pos h1, if_pos h1]; rfl
      · rw [if_neg h1, if_neg h1]
        by_cases h2 : ((byU s p).toNat : Int) = 92
        · rw [if_neg (by rw [plainR_eq, h2]; decide), if_pos h2, if_pos h2]
          by_cases h3 : (s.size : Int) ≤ ((p + 3 : Nat) : Int)
          · rw [if_pos h3]
            split
            · rfl
            · split
              · rw [if_neg (by rw [esc_no (by omega)]; simp)]; rfl
              · rfl
          · rw [if_neg h3, if_neg (show ¬ (s.size : Int) ≤ ((p + 1 : Nat) : Int) by omega)]
            split
            · rw [esc_ok (by omega)]
              by_cases h4 : nibR (byU s (p + 2)).toNat < 0
              · rw [if_pos h4, if_neg (by dsimp only; rw [Bool.and_eq_true, decide_eq_true_eq, decide_eq_true_eq]; omega)]; rfl
              · rw [if_neg h4]
                by_cases h5 : nibR (byU s (p + 3)).toNat < 0
                · rw [if_pos h5, if_neg (by dsimp only; rw [Bool.and_eq_true, decide_eq_true_eq, decide_eq_true_eq]; omega)]; rfl
                · rw [if_neg h5, if_pos (show ((escV (nibR (byU s (p + 2)).toNat) (nibR (byU s (p + 3)).toNat), decide (0 ≤ nibR (byU s (p + 2)).toNat) && decide (0 ≤ nibR (byU s (p + 3)).toNat)) : Int × Bool).2 = true from by dsimp only; rw [Bool.and_eq_true, decide_eq_true_eq, decide_eq_true_eq]; omega)]
                  obtain ⟨e1, e2⟩ := escB_sum (s := s) (p := p) (by omega) (by omega) (by omega)
                  rw [e2, plainR_eq]
                  split
                  · rfl
                  · rw [e1, app1]
                    exact quote_eq n s (p + 4) _
            · rfl
        · rw [if_neg h2, if_neg h2, plainR_eq]
          split
          · rw [ext1 (by omega), app1]
            exact quote_eq n s (p + 1) _
          · rfl
    · rw [if_neg h0, if_neg h0]; rfl
theorem quoteF_eq (s : ByteArray) (p : Nat) : quoteRF s p = qConv (quoteF s p) := quote_eq (s.size + 1) s (p + 1) []

theorem byt_byU (s : ByteArray) (p : Nat) : byt s p = ((byU s p).toNat : Int) := rfl
theorem mark_iff (s : ByteArray) (p : Nat) : 0 ≤ idxB marks (byt s p) ↔ (byt s p = 61 ∨ byt s p = 44 ∨ byt s p = 40 ∨ byt s p = 41 ∨ byt s p = 91 ∨ byt s p = 93 ∨ byt s p = 59) := by
  have h := tab_mark ⟨(byU s p).toNat, (byU s p).toNat_lt⟩
  rw [byt_byU]
  dsimp only at h
  rw [Bool.eq_iff_iff] at h
  simp only [Bool.or_eq_true, decide_eq_true_eq] at h
  rw [h]
  omega

theorem blkN_fuel : ∀ (n m : Nat) (s : ByteArray) (p : Nat), p ≤ s.size → s.size - p < n → s.size - p < m → blkN n s p = blkN m s p
  | 0, m, s, p, hp, h, _ => by omega
  | n + 1, 0, s, p, hp, _, h => by omega
  | n + 1, m + 1, s, p, hp, hn, hm => by
    simp only [blkN]
    split
    · rename_i h
      split
      · exact blkN_fuel n m s (p + 1) (by omega) (by omega) (by omega)
      · split
        · rename_i h35
          have h1 := runF_le notNL s p hp
          have h2 : p < runF notNL s p := runF_gt h (notNL_t (by omega))
          exact blkN_fuel n m s _ h1.2 (by omega) (by omega)
        · rfl
    · rfl
theorem blkF_blank {s : ByteArray} {p : Nat} (h : p < s.size) (hb : isBlank (byt s p) = true) : blkF s p = blkF s (p + 1) := by
  unfold blkF
  rw [show blkN (s.size + 1) s p = blkN s.size s (p + 1) from by simp only [blkN]; rw [if_pos h, if_pos hb]]
  exact blkN_fuel _ _ s (p + 1) h (by omega) (by omega)
theorem blkF_rem {s : ByteArray} {p : Nat} (h : p < s.size) (hb : byt s p = 35) : blkF s p = blkF s (runF notNL s p) := by
  have h1 := runF_le notNL s p (by omega)
  have h2 : p < runF notNL s p := runF_gt h (notNL_t (by omega))
  unfold blkF
  rw [show blkN (s.size + 1) s p = blkN s.size s (runF notNL s p) from by simp only [blkN]; rw [if_pos h, if_neg (by rw [hb]; decide), if_pos hb]]
  exact blkN_fuel _ _ s _ h1.2 (by omega) (by omega)
theorem blkF_stop {s : ByteArray} {p : Nat} (h : p < s.size → isBlank (byt s p) = false ∧ ¬ byt s p = 35) : blkF s p = p := by
  unfold blkF
  simp only [blkN]
  split
  · rename_i h0
    rw [if_neg (by rw [(h h0).1]; simp), if_neg (h h0).2]
  · rfl
theorem blank_iff (c : Int) : isBlank c = true ↔ (c = 32 ∨ c = 10 ∨ c = 9) := by simp [isBlank, or_assoc]

/-- What the reference answers where the program answers so. -/
def tConv (r : List Tok × Int × Int) : Option (List Tok) × Int := if r.2.2 = 0 then (some r.1, -1) else (none, r.2.1)
theorem ref_eq (s : ByteArray) : ∀ (d n m p : Nat) (acc : List Tok), s.size - p ≤ d → p ≤ s.size → s.size - p < n → s.size - p < m → ∃ r, toksN m s p acc = some r ∧ refN n s p acc = tConv r := by
  intro d
  induction d with
  | zero =>
    intro n m p acc hd hp hn hm
    obtain ⟨n, rfl⟩ : ∃ k, n = k + 1 := ⟨n - 1, by omega⟩
    obtain ⟨m, rfl⟩ : ∃ k, m = k + 1 := ⟨m - 1, by omega⟩
    have hb : blkF s p = p := blkF_stop (by omega)
    refine ⟨(acc, 0, 0), ?_, ?_⟩
    · simp only [toksN, nextF, hb]; rw [if_pos (by omega)]; rfl
    · simp only [refN]; rw [if_neg (by omega)]; rfl
  | succ d ih =>
    intro n m p acc hd hp hn hm
    obtain ⟨n, rfl⟩ : ∃ k, n = k + 1 := ⟨n - 1, by omega⟩
    obtain ⟨m, rfl⟩ : ∃ k, m = k + 1 := ⟨m - 1, by omega⟩
    by_cases h0 : p < s.size
    · have h0' : (p : Int) < (s.size : Int) := by omega
      by_cases hbl : isBlank (byt s p) = true
      · have hbk := blkF_blank h0 hbl
        obtain ⟨r, hr1, hr2⟩ := ih n (m + 1) (p + 1) acc (by omega) (by omega) (by omega) (by omega)
        refine ⟨r, ?_, ?_⟩
        · rw [← hr1]; simp only [toksN, nextF, hbk]
        · rw [← hr2]
          rw [blank_iff] at hbl
          simp only [refN]
          rw [if_pos h0']
          rcases hbl with h | h | h
          · rw [if_pos h]
          · rw [if_neg (by omega), if_neg (by omega), if_pos h]
          · rw [if_neg (by omega), if_pos h]
      · have hbl' : ¬ (byt s p = 32 ∨ byt s p = 10 ∨ byt s p = 9) := fun h => hbl ((blank_iff _).2 h)
        by_cases h35 : byt s p = 35
        · have hbk := blkF_rem h0 h35
          have hl := runF_le notNL s p (by omega)
          have hg : p < runF notNL s p := runF_gt h0 (notNL_t (by omega))
          obtain ⟨r, hr1, hr2⟩ := ih n (m + 1) (runF notNL s p) acc (by omega) hl.2 (by omega) (by omega)
          refine ⟨r, ?_, ?_⟩
          · rw [← hr1]; simp only [toksN, nextF, hbk]
          · rw [← hr2]
            simp only [refN]
            rw [if_pos h0', if_neg (by omega), if_neg (by omega), if_neg (by omega), if_pos h35]
        · have hbk : blkF s p = p := blkF_stop fun _ => ⟨by simpa using hbl, h35⟩
          have next : ∀ (t : Tok) (j : Nat), p < j → j ≤ s.size → ∃ r, toksN m s j (acc ++ [t]) = some r ∧ refN n s j (acc ++ [t]) = tConv r := fun t j h1 h2 => ih n m j (acc ++ [t]) (by omega) h2 (by omega) (by omega)
          simp only [toksN, nextF, hbk, refN]
          rw [if_pos h0', if_neg (show ¬ p = s.size by omega), if_neg (show ¬ byt s p = 32 by omega), if_neg (show ¬ byt s p = 9 by omega), if_neg (show ¬ byt s p = 10 by omega), if_neg h35]
          by_cases hl : isLetter (byt s p) = true
          · rw [if_pos hl, if_pos hl]
            have h1 := runF_le isWordC s p hp
            exact next (0, s.extract p (runF isWordC s p), p) _ (runF_gt h0 (word_l hl)) h1.2
          · rw [if_neg hl, if_neg hl]
            have num : (isDigit (byt s p) = true ∨ byt s p = 45) → ∃ r, (Option.bind (if strEq (s.extract p (p + 1) ++ s.extract (p + 1) (runF isDigit s (p + 1))) dash = true then some (((0, noText, (p : Int)) : Tok), false, (4 : Int), runF isDigit s (p + 1))
                else some ((1, s.extract p (p + 1) ++ s.extract (p + 1) (runF isDigit s (p + 1)), (p : Int)), true, 0, runF isDigit s (p + 1))) fun r => if ¬ r.2.2.1 = 0 then some ([], r.1.2.2, r.2.2.1) else if r.2.1 = false then some (acc, 0, 0) else toksN m s r.2.2.2 (acc ++ [r.1])) = some r ∧
                (if strEq (s.extract p (runF isDigit s (p + 1))) dash = true then ((none : Option (List Tok)), (p : Int)) else refN n s (runF isDigit s (p + 1)) (acc ++ [(1, s.extract p (runF isDigit s (p + 1)), (p : Int))])) = tConv r := by
              intro _
              have h1 := runF_le isDigit s (p + 1) h0
              rw [ByteArray.extract_append_extract, show min p (p + 1) = p from by omega, show max (p + 1) (runF isDigit s (p + 1)) = runF isDigit s (p + 1) from by omega]
              split
              · exact ⟨_, rfl, rfl⟩
              · exact next (1, s.extract p (runF isDigit s (p + 1)), p) (runF isDigit s (p + 1)) (by omega) h1.2
            by_cases hd1 : isDigit (byt s p) = true
            · rw [if_pos (.inl hd1), if_pos hd1]
              exact num (.inl hd1)
            · rw [if_neg hd1]
              by_cases h45 : byt s p = 45
              · rw [if_pos (.inr h45), if_pos h45]
                exact num (.inr h45)
              · rw [if_neg (fun h => h.elim hd1 h45), if_neg h45]
                by_cases h34 : byt s p = 34
                · rw [if_pos h34, if_pos h34, quoteF_eq]
                  have hq := quoteF_le s p h0
                  unfold qConv
                  split
                  · rename_i hw
                    rw [if_neg (by dsimp only; omega)]
                    exact next (2, (quoteF s p).1, p) _ hq.1 hq.2
                  · exact ⟨_, rfl, rfl⟩
                · rw [if_neg h34, if_neg h34]
                  have hm := mark_iff s p
                  have nx := next (3, s.extract p (p + 1), p) (p + 1) (by omega) (by omega)
                  by_cases hmk : 0 ≤ idxB marks (byt s p)
                  · rw [if_pos hmk]
                    have e : ∀ X : Option (List Tok) × Int, (if byt s p = 61 then X else if byt s p = 44 then X else if byt s p = 40 then X else if byt s p = 41 then X else if byt s p = 91 then X else if byt s p = 93 then X else if byt s p = 59 then X else (none, (p : Int))) = X := by
                      intro X
                      have := hm.1 hmk
                      repeat' split
                      all_goals first | rfl | (exfalso; omega)
                    rw [e]
                    exact nx
                  · rw [if_neg hmk]
                    have hn' := fun h => hmk (hm.2 h)
                    rw [if_neg (by omega), if_neg (by omega), if_neg (by omega), if_neg (by omega), if_neg (by omega), if_neg (by omega), if_neg (by omega)]
                    exact ⟨_, rfl, rfl⟩
    · have hb : blkF s p = p := blkF_stop (fun h => absurd h h0)
      refine ⟨(acc, 0, 0), ?_, ?_⟩
      · simp only [toksN, nextF, hb]; rw [if_pos (by omega)]; rfl
      · simp only [refN]; rw [if_neg (by omega)]; rfl
theorem refF_eq {s : ByteArray} (h : s.size ≤ 65536) : refF s = tConv (toksT s) := by
  obtain ⟨r, h1, h2⟩ := ref_eq s s.size (s.size + 1) (s.size + 1) 0 [] (by omega) (by omega) (by omega) (by omega)
  have h3 := toksT_eq s
  unfold toksF at h3
  rw [if_neg (by omega), h1] at h3
  cases h3
  exact h2
end Go.Dl

namespace Go.Dl
open Go.RowKit
open Go.Proofs
set_option linter.unusedSimpArgs false
set_option linter.unusedVariables false

theorem toksN_cases : ∀ (n : Nat) (s : ByteArray) (p : Nat) (acc : List Tok) (r : List Tok × Int × Int), p ≤ s.size → toksN n s p acc = some r → r.2 = (0, 0) ∨ (r.1 = [] ∧ 0 ≤ r.2.1 ∧ r.2.2 = 4)
  | 0, s, p, acc, r, hp, h => by cases h
  | n + 1, s, p, acc, r, hp, h => by
    obtain ⟨⟨t, m, e, q⟩, hr⟩ := nextF_some s p
    simp only [toksN, hr, Option.bind_some] at h
    by_cases he : e = 0
    · rw [if_neg (by simp [he])] at h
      cases m with
      | false => rw [if_pos rfl] at h; cases h; exact .inl rfl
      | true =>
        rw [if_neg (by simp)] at h
        exact toksN_cases n s q _ r (nextF_le hp hr).1 h
    · rw [if_pos he] at h
      cases h
      cases m with
      | false =>
        have := nextF_err hr
        exact .inr ⟨rfl, this.2, by rcases this.1 with h | h; exact absurd h he; exact h⟩
      | true => exact absurd (nextF_ok hp hr).1 he
theorem toksT_cases {s : ByteArray} (h : s.size ≤ 65536) : (∃ l, toksT s = (l, 0, 0)) ∨ ∃ a, 0 ≤ a ∧ toksT s = ([], a, 4) := by
  have h3 := toksT_eq s
  unfold toksF at h3
  rw [if_neg (by omega)] at h3
  generalize toksT s = r at h3 ⊢
  obtain ⟨l, a, e⟩ := r
  rcases toksN_cases _ s 0 [] _ (Nat.zero_le _) h3 with h1 | ⟨h1, h2, h4⟩
  · left
    cases h1
    exact ⟨l, rfl⟩
  · right
    cases h1; cases h4
    exact ⟨a, h2, rfl⟩
theorem strEq_same (a : ByteArray) : strEq a a = true := by
  unfold strEq
  simp
noncomputable def pRefTZ : List D → Option D := fun a => (pRefT a).map D.frzT
theorem meets12Z : Meets Try.prog 12 (pureS pRefTZ) := meets_frzTP meets12
def colZ (f : Tok → List C) (o : Option (List Tok)) : C := .s false (o.elim 0 fun _ => 1) (o.elim [] fun l => l.map f)
theorem col_frz {f : Tok → List C} (hf : ∀ t, (f t).all C.cp = true) (o : Option (List Tok)) : D.frz (.c (colC f o)) = .c (colZ f o) := by
  cases o with
  | none => rfl
  | some l =>
    have : ((l.map f).all fun row => row.all C.cp) = true := by
      rw [List.all_eq_true]
      intro row h
      obtain ⟨x, _, rfl⟩ := List.mem_map.1 h
      exact hf x
    exact if_pos this
theorem refT_at (s : ByteArray) (hs : s.size ≤ 1000000) : pRefTZ [.c (.v (.string s))] = some (.t [.c (colZ knd (refF s).1), .c (colZ txt (refF s).1), .c (colZ plc (refF s).1), .c (.v (.int .i64 (refF s).2))]) := by
  have h1 : pRefT [.c (.v (.string s))] = some (.t [.c (colC knd (refF s).1), .c (colC txt (refF s).1), .c (colC plc (refF s).1), .c (.v (.int .i64 (refF s).2))]) :=
    famP_at (fun a b h => by
      simp only [List.cons.injEq, D.c.injEq, C.v.injEq, Value.string.injEq, and_true] at h
      subst h; rfl) s hs rfl
  unfold pRefTZ
  rw [h1, Option.map_some]
  show some (D.t [D.frz _, D.frz _, D.frz _, _]) = _
  rw [col_frz (fun _ => rfl), col_frz (fun _ => rfl), col_frz (fun _ => rfl)]
  rfl
theorem cut_at (s : ByteArray) (hs : s.size ≤ maxStr) : pCut [.c (.v (.string s))] = some (.c (.v (.string (if 500 < (s.size : Int) then s.extract 0 500 else s)))) := if_pos hs
noncomputable def FsTc : Fs := { Fs.none with pure := fun k => if k = 10 then some pCut else if k = 11 then some pToksZ else if k = 12 then some pRefTZ else if k = 13 then some pAwake else none }
theorem okTc : FsOK Try.prog FsTc := by
  refine ⟨fun k f h => ?_, fun _ _ h => (by cases h)⟩
  simp only [FsTc] at h
  split at h
  · rename_i hk; subst hk; cases h; exact ⟨by kernel_rfl, meets10⟩
  split at h
  · rename_i hk; subst hk; cases h; exact ⟨by kernel_rfl, meets11Z⟩
  split at h
  · rename_i hk; subst hk; cases h; exact ⟨by kernel_rfl, meets12Z⟩
  split at h
  · rename_i hk; subst hk; cases h; exact ⟨by kernel_rfl, meets13⟩
  · cases h
def pSayText : List D → Option D
  | [.c (.v (.string s))] => if s.size ≤ maxStr then some (dB true) else none
  | _ => none
theorem tokens_law (s : ByteArray) (hs : s.size ≤ maxStr) : pSayText [.c (.v (.string s))] = some (.c (.v (.bool true))) := if_pos hs
set_option maxRecDepth 100000 in
set_option maxHeartbeats 2000000 in
theorem meets3 : Meets Try.prog 3 (pureS pSayText) := by
  refine meets_of_tri (show Try.prog.funcs[3]? = some Try.f3 by kernel_rfl) rfl (n := 97) rfl (rs := [ResultVar.tmp 2]) rfl ?_
  rintro args objs Q ⟨rfl, d, hd, hQ⟩
  unfold pSayText at hd
  split at hd
  · rename_i s0
    split at hd
    · rename_i hs0
      cases hd
      have hC := cut_at s0 hs0
      obtain ⟨s, hs, hsz⟩ : ∃ s, (if 500 < (s0.size : Int) then s0.extract 0 500 else s0) = s ∧ s.size ≤ 500 := by
        refine ⟨_, rfl, ?_⟩
        split
        · rw [ByteArray.size_extract]; omega
        · omega
      rw [hs] at hC
      have hT := toks_at s (by omega)
      have hR := refT_at s (by omega)
      rw [refF_eq (by omega)] at hR
      have hlen := (toksT_ok s).1
      rcases toksT_cases (show s.size ≤ 65536 by omega) with ⟨l, hl⟩ | ⟨a, ha, hl⟩
      · rw [hl] at hT hR hlen
        replace hT : pToksZ [.c (.v (.string s))] = some (.t [.c (.s false 3 (l.map tokC)), .c (.v (.int .i64 0)), .c (.v (.int .i64 0))]) := hT
        replace hR : pRefTZ [.c (.v (.string s))] = some (.t [.c (.s false 1 (l.map knd)), .c (.s false 1 (l.map txt)), .c (.s false 1 (l.map plc)), .c (.v (.int .i64 (-1)))]) := hR
        dsimp only at hlen
        have hlm : l.length ≤ maxStr := by unfold maxStr; omega
        refine seq_run okTc rfl (by repeat (first | with_reducible exact runf_nil | refine runf_cons (by simp only [xstep, stepf, stepx, qev, St.ev, St.put, constD, constC, List.set_cons_zero, List.set_cons_succ, List.replicate, List.length_cons, List.length_nil, List.cons_append, List.nil_append, List.map_nil, Option.map_some, Nat.reduceSub, Option.some.injEq, Nat.zero_add]; rfl) ?_)) ?_
        refine seq_run okTc rfl (by repeat (first | with_reducible exact runf_nil | refine runf_cons (by simp only [xstep, stepf, stepx, evsA, qev, St.ev, St.put, St.with, C.cpy, C.cp, C.dat, List.getElem?_cons_zero, List.getElem?_cons_succ, List.set_cons_zero, List.set_cons_succ, List.append_nil, List.map_nil, Option.map_some, Nat.reduceEqDiff, if_true, if_false, Option.some.injEq, Bool.and_self, Bool.true_or, callP, Fs.none, argDs, argD, argC, settle, settle1, settleC, List.isEmpty_nil, FsTc, hC, eq_self]; rfl) ?_)) ?_
        refine seq_run okTc rfl (by repeat (first | with_reducible exact runf_nil | refine runf_cons (by simp only [xstep, stepf, stepx, evsA, qev, St.ev, St.put, St.with, C.cpy, qext, C.cp, C.dat, List.getElem?_cons_zero, List.getElem?_cons_succ, List.set_cons_zero, List.set_cons_succ, List.append_nil, List.map_nil, Option.bind_some, Option.map_some, Nat.reduceEqDiff, if_true, if_false, Option.some.injEq, Bool.and_self, Bool.true_or, callP, Fs.none, argDs, argD, argC, settle, settle1, settleC, settleDs, List.isEmpty_nil, FsTc, hT, eq_self]; rfl) ?_)) ?_
        refine seq_run okTc rfl (by repeat (first | with_reducible exact runf_nil | refine runf_cons (by simp only [xstep, stepf, stepx, evsA, qev, St.ev, St.put, St.with, C.cpy, qext, C.cp, C.dat, List.getElem?_cons_zero, List.getElem?_cons_succ, List.set_cons_zero, List.set_cons_succ, List.append_nil, List.map_nil, Option.bind_some, Option.map_some, Nat.reduceEqDiff, if_true, if_false, Option.some.injEq, Bool.and_self, Bool.true_or, callP, Fs.none, argDs, argD, argC, settle, settle1, settleC, settleDs, List.isEmpty_nil, FsTc, hR, eq_self]; rfl) ?_)) ?_
        refine seq_in ?_
        refine seq_run okTc rfl (by repeat (first | with_reducible exact runf_nil | refine runf_cons (by simp only [xstep, stepf, stepx, qev, St.ev, St.put, qint, qshift, isShift, qbin, constD, constC, List.getElem?_cons_zero, List.getElem?_cons_succ, List.set_cons_zero, List.set_cons_succ, Option.map_some, Option.map_none, if_true, if_false, decide_false, Option.some.injEq, Int.reduceLE, Bool.false_eq_true, eq_self]; rfl) ?_)) ?_
        refine tri_cond (b := false) rfl (fun h => by cases h) (fun _ => ?_)
        refine then_skip ?_
        refine seq_in ?_
        refine seq_run okTc rfl (by repeat (first | with_reducible exact runf_nil | refine runf_cons (by simp only [xstep, stepf, stepx, qev, St.ev, St.put, qpick, qint, qshift, isShift, qbin, qlen, qbuiltin, constD, constC, List.getElem?_cons_zero, List.getElem?_cons_succ, List.set_cons_zero, List.set_cons_succ, Option.bind_some, Option.map_some, Option.map_none, if_true, if_false, decide_true, Bool.not_true, cond_false, List.getElem?_toArray, Option.some.injEq, Bool.false_eq_true, hlm, List.length_map, eq_self, tk23, tk27]; rfl) ?_)) ?_
        refine tri_cond (b := false) rfl (fun h => by cases h) (fun _ => ?_)
        refine then_skip ?_
        refine seq_in ?_
        refine seq_run okTc rfl (by repeat (first | with_reducible exact runf_nil | refine runf_cons (by simp only [xstep, stepf, stepx, qev, St.ev, St.put, constD, constC, List.set_cons_zero, List.set_cons_succ, Option.map_some, Option.some.injEq]; rfl) ?_)) ?_
        refine tri_block ?_
        refine tri_loop_le (fun m A => ∃ i : Nat, m = l.length - i ∧ i ≤ l.length ∧ A = ⟨[.c (.v (.string s)), .top, .c (.v (.bool false)), .c (.s false 3 (l.map tokC)), .top, .top, .c (.s false 1 (l.map knd)), .c (.s false 1 (l.map txt)), .c (.s false 1 (l.map plc)), .top, .c (.v (.int .i64 (i : Nat))), .top, .top, .top, .top, .top, .top, .top, .top, .top, .top, .top, .top, .top, .top, .top, .top, .top, .top, .top, .top, .top, .top, .top, .top, .top, .top, .top, .top, .top, .top, .top, .top, .top, .top, .top, .top, .top, .top, .top, .top, .top, .top, .top, .top, .top, .top, .top, .top, .top, .top, .top, .top, .top, .top, .top, .top, .top, .top, .top, .top, .top, .top, .top, .top, .top, .top, .top, .top, .top, .top, .top, .top, .top, .top, .top, .top, .top, .top, .top, .top, .top, .top, .top, .top, .top, .top], []⟩) l.length (B := ⟨[.c (.v (.string s)), .top, .c (.v (.bool false)), .c (.s false 3 (l.map tokC)), .top, .top, .c (.s false 1 (l.map knd)), .c (.s false 1 (l.map txt)), .c (.s false 1 (l.map plc)), .top, .c (.v (.int .i64 (0 : Nat))), .top, .top, .top, .top, .top, .top, .top, .top, .top, .top, .top, .top, .top, .top, .top, .top, .top, .top, .top, .top, .top, .top, .top, .top, .top, .top, .top, .top, .top, .top, .top, .top, .top, .top, .top, .top, .top, .top, .top, .top, .top, .top, .top, .top, .top, .top, .top, .top, .top, .top, .top, .top, .top, .top, .top, .top, .top, .top, .top, .top, .top, .top, .top, .top, .top, .top, .top, .top, .top, .top, .top, .top, .top, .top, .top, .top, .top, .top, .top, .top, .top, .top, .top, .top, .top, .top], []⟩) ⟨by repeat (first | exact .nil | refine .same ?_ | refine .top ?_), rfl⟩ ⟨0, rfl, Nat.zero_le _, rfl⟩ ?_
        rintro m A ⟨i, hm, hi, rfl⟩
        have hq1 : (i : Int) + 1 = ((i + 1 : Nat) : Int) := by omega
        have hg : ((i : Nat) : Int) < ((l.length : Nat) : Int) → l[i]? = some (l.getD i (0, noText, 0)) := fun h => get_at _ (by omega)
        refine seq_in ?_
        refine seq_run okTc rfl (by repeat (first | with_reducible exact runf_nil | refine runf_cons (by simp only [xstep, stepf, stepx, qev, St.ev, St.put, qint, qshift, isShift, qbin, qlen, qbuiltin, List.getElem?_cons_zero, List.getElem?_cons_succ, List.set_cons_zero, List.set_cons_succ, Option.bind_some, Option.map_some, Option.map_none, if_true, if_false, Option.some.injEq, Bool.false_eq_true, hlm, List.length_map, eq_self, tk23]; rfl) ?_)) ?_
        refine tri_cond rfl (fun a0 => ?_) (fun a0 => ?_)
        ·
          simp only [decide_eq_true_eq] at a0
          refine then_skip ?_
          refine seq_in (tri_block ?_)
          refine seq_anyE mixed okTc rfl (by kernel_rfl) ?_
          refine ⟨_, (by repeat (first | with_reducible exact runf_nil | refine runf_cons (by simp only [xstep, stepf, stepx, qev, St.ev, St.put, D.int, qload, cellsAt, qmk, C.cpy, TK.agg, qfieldAddr, qindexAddr, qpick, qint, qshift, qstr, isShift, qbin, C.cp, constD, constC, List.getElem?_cons_zero, List.getElem?_cons_succ, List.set_cons_zero, List.set_cons_succ, List.length_cons, List.length_nil, List.map_nil, List.map_cons, List.all_cons, List.all_nil, List.take_succ_cons, List.take_zero, List.drop_succ_cons, List.drop_zero, Option.bind_some, Option.map_some, Option.map_none, if_true, if_false, and_self, decide_true, Bool.not_true, cond_false, List.getElem?_toArray, Option.some.injEq, ne_eq, not_false_eq_true, reduceCtorEq, Bool.false_eq_true, Nat.zero_add, Bool.and_self, List.length_map, Int.toNat_natCast, Int.natCast_nonneg, eq_self, hg, List.getElem?_map, tokC, knd, txt, plc, strEq_same, tk23, tk27, a0, tsz33, tk33, tsz3, tk3, tsz9, tk9, tk28]; rfl) ?_)), ?_⟩
          refine tri_cond (b := false) rfl (fun h => by cases h) (fun _ => ?_)
          refine tri_skip ?_
          show Tri _ _ _ _
          refine run_end okTc rfl (by repeat (first | with_reducible exact runf_nil | refine runf_cons (by simp only [xstep, stepf, stepx, qev, St.ev, St.put, qint, qshift, isShift, qbin, constD, constC, List.getElem?_cons_zero, List.getElem?_cons_succ, List.set_cons_zero, List.set_cons_succ, Option.map_some, Option.map_none, if_true, if_false, Option.some.injEq, Bool.false_eq_true, eq_self, hq1, show IntKind.i64.wrap (↑(i + 1) : Int) = _ from wrap_i64 _ (by omega) (by omega)]; rfl) ?_)) ?_
          simp only []
          (exact ⟨l.length - (i + 1), by omega, ⟨[.c (.v (.string s)), .top, .c (.v (.bool false)), .c (.s false 3 (l.map tokC)), .top, .top, .c (.s false 1 (l.map knd)), .c (.s false 1 (l.map txt)), .c (.s false 1 (l.map plc)), .top, .c (.v (.int .i64 (i + 1 : Nat))), .top, .top, .top, .top, .top, .top, .top, .top, .top, .top, .top, .top, .top, .top, .top, .top, .top, .top, .top, .top, .top, .top, .top, .top, .top, .top, .top, .top, .top, .top, .top, .top, .top, .top, .top, .top, .top, .top, .top, .top, .top, .top, .top, .top, .top, .top, .top, .top, .top, .top, .top, .top, .top, .top, .top, .top, .top, .top, .top, .top, .top, .top, .top, .top, .top, .top, .top, .top, .top, .top, .top, .top, .top, .top, .top, .top, .top, .top, .top, .top, .top, .top, .top, .top, .top, .top], []⟩, ⟨by repeat (first | exact .nil | refine .same ?_ | refine .top ?_), rfl⟩, i + 1, rfl, by omega, rfl⟩)
        ·
          simp only [decide_eq_false_iff_not] at a0
          refine tri_exit ?_
          show Tri _ _ _ _
          refine seq_run okTc rfl (by repeat (first | with_reducible exact runf_nil | refine runf_cons (by simp only [xstep, stepf, stepx, evsA, qev, St.ev, St.put, St.with, List.getElem?_cons_zero, List.getElem?_cons_succ, List.set_cons_zero, List.set_cons_succ, List.append_nil, List.map_nil, Option.map_some, Nat.reduceEqDiff, if_true, if_false, decide_false, Option.some.injEq, Bool.true_or, callP, Fs.none, argDs, settle, settle1, settleC, List.isEmpty_nil, dB, FsTc, pAwake, eq_self, a0]; rfl) ?_)) ?_
          refine tri_ret (ends_ret (by simp only [outRes, resDs, resD, outD, outC, C.dat, List.getElem?_cons_zero, List.getElem?_cons_succ, Option.map_some, if_true, Option.some.injEq, eq_self]; rfl) rfl (by simp) (by simp) ?_)
          exact hQ
      · rw [hl] at hT hR
        replace hT : pToksZ [.c (.v (.string s))] = some (.t [.c (.s false 3 []), .c (.v (.int .i64 a)), .c (.v (.int .i64 4))]) := hT
        replace hR : pRefTZ [.c (.v (.string s))] = some (.t [.c (.s false 0 []), .c (.s false 0 []), .c (.s false 0 []), .c (.v (.int .i64 a))]) := hR
        have hl0 : (0 : Nat) ≤ maxStr := Nat.zero_le _
        have hc0 : ((0 : Nat) : Int) = 0 := rfl
        refine seq_run okTc rfl (by repeat (first | with_reducible exact runf_nil | refine runf_cons (by simp only [xstep, stepf, stepx, qev, St.ev, St.put, constD, constC, List.set_cons_zero, List.set_cons_succ, List.replicate, List.length_cons, List.length_nil, List.cons_append, List.nil_append, List.map_nil, Option.map_some, Nat.reduceSub, Option.some.injEq, Nat.zero_add]; rfl) ?_)) ?_
        refine seq_run okTc rfl (by repeat (first | with_reducible exact runf_nil | refine runf_cons (by simp only [xstep, stepf, stepx, evsA, qev, St.ev, St.put, St.with, C.cpy, C.cp, C.dat, List.getElem?_cons_zero, List.getElem?_cons_succ, List.set_cons_zero, List.set_cons_succ, List.append_nil, List.map_nil, Option.map_some, Nat.reduceEqDiff, if_true, if_false, Option.some.injEq, Bool.and_self, Bool.true_or, callP, Fs.none, argDs, argD, argC, settle, settle1, settleC, List.isEmpty_nil, FsTc, hC, eq_self]; rfl) ?_)) ?_
        refine seq_run okTc rfl (by repeat (first | with_reducible exact runf_nil | refine runf_cons (by simp only [xstep, stepf, stepx, evsA, qev, St.ev, St.put, St.with, C.cpy, qext, C.cp, C.dat, List.getElem?_cons_zero, List.getElem?_cons_succ, List.set_cons_zero, List.set_cons_succ, List.append_nil, List.map_nil, Option.bind_some, Option.map_some, Nat.reduceEqDiff, if_true, if_false, Option.some.injEq, Bool.and_self, Bool.true_or, callP, Fs.none, argDs, argD, argC, settle, settle1, settleC, settleDs, List.isEmpty_nil, FsTc, hT, eq_self]; rfl) ?_)) ?_
        refine seq_run okTc rfl (by repeat (first | with_reducible exact runf_nil | refine runf_cons (by simp only [xstep, stepf, stepx, evsA, qev, St.ev, St.put, St.with, C.cpy, qext, C.cp, C.dat, List.getElem?_cons_zero, List.getElem?_cons_succ, List.set_cons_zero, List.set_cons_succ, List.append_nil, List.map_nil, Option.bind_some, Option.map_some, Nat.reduceEqDiff, if_true, if_false, Option.some.injEq, Bool.and_self, Bool.true_or, callP, Fs.none, argDs, argD, argC, settle, settle1, settleC, settleDs, List.isEmpty_nil, FsTc, hR, eq_self]; rfl) ?_)) ?_
        refine seq_in ?_
        refine seq_run okTc rfl (by repeat (first | with_reducible exact runf_nil | refine runf_cons (by simp only [xstep, stepf, stepx, qev, St.ev, St.put, qint, qshift, isShift, qbin, constD, constC, List.getElem?_cons_zero, List.getElem?_cons_succ, List.set_cons_zero, List.set_cons_succ, Option.map_some, Option.map_none, if_true, if_false, Option.some.injEq, Bool.false_eq_true, eq_self]; rfl) ?_)) ?_
        refine tri_cond rfl (fun b0 => ?_) (fun b0 => ?_)
        ·
          simp only [decide_eq_true_eq] at b0
          refine seq_run okTc rfl (by repeat (first | with_reducible exact runf_nil | refine runf_cons (by simp only [xstep, stepf, stepx, evsA, qev, St.ev, St.put, St.with, qpick, qint, qshift, isShift, qbin, qlen, qbuiltin, constD, constC, List.getElem?_cons_zero, List.getElem?_cons_succ, List.set_cons_zero, List.set_cons_succ, List.length_nil, List.append_nil, List.map_nil, Option.bind_some, Option.map_some, Option.map_none, Nat.reduceEqDiff, if_true, if_false, decide_true, cond_true, List.getElem?_toArray, Option.some.injEq, Bool.false_eq_true, Bool.true_or, callP, Fs.none, argDs, settle, settle1, settleC, List.isEmpty_nil, dB, FsTc, pAwake, hl0, hc0, eq_self, b0, tk23]; rfl) ?_)) ?_
          refine tri_ret (ends_ret (by simp only [outRes, resDs, resD, outD, outC, C.dat, List.getElem?_cons_zero, List.getElem?_cons_succ, Option.map_some, if_true, Option.some.injEq, eq_self]; rfl) rfl (by simp) (by simp) ?_)
          exact hQ
        ·
          simp only [decide_eq_false_iff_not] at b0
          (exfalso; omega)
    · cases hd
  · cases hd
end Go.Dl
