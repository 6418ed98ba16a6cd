/- Plain law: scripts of steps as they are said are read as these steps; Plain law: what is read of a text is good, and is not longer than what its tokens are worth; Plain law: names, papers, steps that are read are good, and are printed within what their tokens are worth; Plain law: the steps that any text is are printed, and read again as they are; Plain law: a text that is no script is told at a place within it. -/
import Derived.Test.YtbefgbljlmnfoaaT18
import Derived.Test.YtbefgbljlmnfoaaT22
set_option linter.all false
namespace Go.Dl
open Go.RowKit
open Go.Proofs
set_option linter.unusedVariables false
theorem print_some {a : ActM} (h1 : 1 ≤ a.kind) (h2 : a.kind ≤ 15) : 0 < (printB a).size := by
  unfold printB
  rw [if_pos h1, if_pos h2, ByteArray.size_append]
  have : semiB.size = 1 := rfl
  omega
end Go.Dl

namespace Go.Dl
open Go.RowKit
open Go.Proofs
set_option linter.unusedVariables false
set_option linter.unusedSectionVars false
def tsum (l : List Tok) : Nat := (l.map fun t => t.2.1.size).sum
theorem tsum_app (a b : List Tok) : tsum (a ++ b) = tsum a + tsum b := by simp [tsum]
theorem quoteN_sz : ∀ (n : Nat) (s : ByteArray) (p : Nat) (acc : List UInt8), p ≤ s.size → (quoteN n s p acc).2.1 = true → (quoteN n s p acc).1.size + p ≤ acc.length + (quoteN n s p acc).2.2
  | 0, s, p, acc, hp, h => by cases h
  | n + 1, s, p, acc, hp, h => by
    simp only [quoteN] at h ⊢
    split
    · rename_i h0
      rw [if_pos h0] at h
      have h0' : p < s.size := by omega
      split
      · show acc.toArray.size + p ≤ acc.length + (p + 1)
        rw [List.size_toArray]; omega
      · rename_i h1
        rw [if_neg h1] at h
        split
        · rename_i h2
          rw [if_pos h2] at h
          split
          · rename_i h3; rw [if_pos h3] at h; cases h
          · rename_i h3
            rw [if_neg h3] at h
            split
            · rename_i h4
              rw [if_pos h4] at h
              split
              · rename_i h5
                rw [if_pos h5] at h
                split
                · rename_i h6; rw [if_pos h6] at h; cases h
                · rename_i h6
                  rw [if_neg h6] at h
                  have hL : p + 4 ≤ s.size := by
                    unfold escF at h5
                    split at h5
                    · cases h5
                    · rename_i h2
                      simp at h2
                      omega
                  have := quoteN_sz n s (p + 4) _ hL h
                  simp only [List.length_append, Z9, Z10] at this
                  omega
              · rename_i h5; rw [if_neg h5] at h; cases h
            · rename_i h4; rw [if_neg h4] at h; cases h
        · rename_i h2
          rw [if_neg h2] at h
          split
          · rename_i h3
            rw [if_pos h3] at h
            have := quoteN_sz n s (p + 1) _ (by omega) h
            simp only [List.length_append, Z9, Z10] at this
            omega
          · rename_i h3; rw [if_neg h3] at h; cases h
    · rename_i h0; rw [if_neg h0] at h; cases h
theorem nextF_sz {s : ByteArray} {p : Nat} (hp : p ≤ s.size) {t : Tok} {e : Int} {r : Nat} (h : nextF s p = some (t, true, e, r)) : t.2.1.size + p ≤ r := by
  have hq := blkF_le s p hp
  unfold nextF at h
  generalize blkF s p = q at h hq
  split at h
  · cases h
  · rename_i hne
    have hqs : q < s.size := by omega
    split at h
    · cases h
      have := runF_le isWordC s q hq.2
      simp only [ByteArray.size_extract]; omega
    · split at h
      · split at h
        · cases h
        · cases h
          have := runF_le isDigit s (q + 1) hqs
          simp only [ByteArray.size_append, ByteArray.size_extract]; omega
      · split at h
        · split at h
          · rename_i hqt
            cases h
            have h1 := quoteN_sz (s.size + 1) s (q + 1) [] (by omega) hqt
            simp only [Z10] at h1
            show (quoteN (s.size + 1) s (q + 1) []).1.size + p ≤ (quoteN (s.size + 1) s (q + 1) []).2.2
            omega
          · cases h
        · split at h
          · cases h
            simp only [ByteArray.size_extract]; omega
          · cases h
theorem toksN_sum : ∀ (n : Nat) (s : ByteArray) (p : Nat) (acc : List Tok) (r : List Tok × Int × Int), toksN n s p acc = some r → p ≤ s.size → tsum r.1 ≤ tsum acc + (s.size - p)
  | 0, s, p, acc, r, h, _ => by cases h
  | n + 1, s, p, acc, r, h, hp => by
    obtain ⟨⟨t, b, e, q⟩, hr⟩ := nextF_some s p
    simp only [toksN, hr, Z8] at h
    by_cases h0 : e = 0
    · rw [if_neg (by simp [h0])] at h
      cases b with
      | false => rw [if_pos rfl] at h; cases h; show tsum acc ≤ _; omega
      | true =>
        rw [if_neg (by simp)] at h
        have h1 := nextF_le hp hr
        have h2 := toksN_sum n s q _ r h h1.1
        have h3 := nextF_sz hp hr
        have h4 := h1.2 rfl
        rw [tsum_app, show tsum [t] = t.2.1.size by simp [tsum]] at h2
        omega
    · rw [if_pos h0] at h; cases h; exact Nat.zero_le _
theorem toksT_sum (s : ByteArray) : tsum (toksT s).1 ≤ s.size := by
  have h := toksT_eq s
  unfold toksF at h
  split at h
  · rw [← Option.some.inj h]; exact Nat.zero_le _
  · have := toksN_sum _ _ _ _ _ h (Nat.zero_le _)
    rw [show tsum ([] : List Tok) = 0 from rfl] at this
    omega
/-- What the tokens from a place on are worth. -/
def worth (l : List Tok) (i : Nat) : Nat := ((l.drop i).map fun t => 4 * t.2.1.size + 24).sum
theorem worth_at {l : List Tok} {i : Nat} {t : Tok} (h : l[i]? = some t) : worth l i = 4 * t.2.1.size + 24 + worth l (i + 1) := by
  obtain ⟨hi, he⟩ := List.getElem?_eq_some_iff.1 h
  unfold worth
  rw [List.drop_eq_getElem_cons hi, he, List.map_cons, List.sum_cons]
theorem worth_all (l : List Tok) : worth l 0 = 4 * tsum l + 24 * l.length := by
  unfold worth tsum
  rw [List.drop_zero]
  induction l with
  | nil => rfl
  | cons t l ih => rw [List.map_cons, List.sum_cons, ih, List.map_cons, List.sum_cons, List.length_cons]; omega
section
variable {l : List Tok} {e : Int} (hq : posPre l e)
include hq
theorem take_back {i : Nat} {bad k : Int} (h : (takeF l i e bad k).2.2 < 0) : bad < 0 ∧ ∃ w p, l[i]? = some (k, w, p) ∧ takeF l i e bad k = (w, i + 1, bad) := by
  have hf := fail_pos hq i bad
  unfold takeF at h ⊢
  by_cases hb : 0 ≤ bad
  · rw [if_pos hb] at h
    dsimp only at h; omega
  · rw [if_neg hb] at h ⊢
    cases ht : l[i]? with
    | none => rw [ht] at h; dsimp only at h; omega
    | some t =>
      rw [ht] at h
      dsimp only at h ⊢
      by_cases hk : t.1 = k
      · rw [if_pos hk]
        obtain ⟨a, w, p⟩ := t
        dsimp only at hk
        subst hk
        exact ⟨by omega, w, p, rfl, rfl⟩
      · rw [if_neg hk] at h; dsimp only at h; omega
theorem peek_back {i : Nat} {bad : Int} {m : ByteArray} (h : peekF l i bad m = true) : bad < 0 ∧ ∃ w p, l[i]? = some (3, w, p) := by
  unfold peekF at h
  rw [Bool.and_eq_true, decide_eq_true_eq] at h
  obtain ⟨h1, h2⟩ := h
  refine ⟨h1, ?_⟩
  split at h2
  · rename_i t ht
    obtain ⟨a, w, p⟩ := t
    rw [Bool.and_eq_true, decide_eq_true_eq] at h2
    obtain ⟨h3, _⟩ := h2
    dsimp only at h3
    subst h3
    exact ⟨w, p, ht⟩
  · cases h2
theorem mark_back {i : Nat} {bad : Int} {m : ByteArray} (h : (markF l i e bad m).2 < 0) : bad < 0 ∧ markF l i e bad m = (i + 1, bad) ∧ 24 + worth l (i + 1) ≤ worth l i := by
  have hf := fail_pos hq i bad
  unfold markF at h ⊢
  split at h
  · rename_i hp
    obtain ⟨h1, w, p, hw⟩ := peek_back hq hp
    rw [if_pos hp]
    have := worth_at hw
    exact ⟨h1, rfl, by omega⟩
  · dsimp only at h; omega
theorem num_back {i : Nat} {bad : Int} (hok : okPre l i e) (h : (numT l i e bad).2.2 < 0) : bad < 0 ∧ inR .i64 (numT l i e bad).1 = true ∧ (numT l i e bad).2 = (i + 1, bad) ∧ 24 + worth l (i + 1) ≤ worth l i := by
  have hs := numT_some (bad := bad) hok
  have hf := fun b => fail_pos hq i b
  generalize numT l i e bad = r at h hs
  unfold numberF at hs
  by_cases hb : 0 ≤ (takeF l i e bad 1).2.2
  · rw [if_pos hb] at hs
    cases hs
    dsimp only at h; omega
  · rw [if_neg hb] at hs
    obtain ⟨hbad, w, p, hw, ht⟩ := take_back hq (k := 1) (i := i) (bad := bad) (by omega)
    have hwo := worth_at hw
    rw [ht] at hs
    dsimp only at hs hwo
    split at hs
    · split at hs
      · split at hs
        · cases hs
          have := hf bad
          dsimp only at h; omega
        · cases hs
          exact ⟨hbad, wrap_inR _ _, rfl, by omega⟩
      · split at hs
        · cases hs
          have := hf bad
          dsimp only at h; omega
        · cases hs
          exact ⟨hbad, wrap_inR _ _, rfl, by omega⟩
    · cases hs
theorem digN_rng : ∀ (l : List UInt8) (n r : Int), inR .u64 n = true → digN l n = some r → inR .u64 r = true
  | [], n, r, hn, h => by cases h; exact hn
  | c :: l, n, r, hn, h => by
    rw [digN] at h
    split at h
    · cases h
    · exact digN_rng l _ _ (wrap_inR _ _) h
theorem digits_rng (s : ByteArray) : inR .u64 (digitsF s).1 = true := by
  unfold digitsF
  split
  · rfl
  split
  · rfl
  split
  · rfl
  split
  · rfl
  · rename_i n hn
    exact digN_rng hq _ _ _ (by rfl) hn
theorem count_back {i : Nat} {bad : Int} (h : (countF l i e bad).2.2 < 0) : bad < 0 ∧ inR .u64 (countF l i e bad).1 = true ∧ (countF l i e bad).2 = (i + 1, bad) ∧ 24 + worth l (i + 1) ≤ worth l i := by
  have hf := fun b => fail_pos hq i b
  by_cases hb : 0 ≤ (takeF l i e bad 1).2.2
  · exfalso
    unfold countF at h
    rw [if_neg (by omega)] at h
    split at h <;> (dsimp only at h; omega)
  · obtain ⟨hbad, w, p, hw, ht⟩ := take_back hq (k := 1) (i := i) (bad := bad) (by omega)
    have hwo := worth_at hw
    dsimp only at hwo
    unfold countF at h ⊢
    rw [ht] at h ⊢
    dsimp only at h ⊢
    rw [if_pos hbad] at h ⊢
    split at h
    · rename_i hd
      rw [if_pos hd]
      exact ⟨hbad, digits_rng hq _, rfl, by omega⟩
    · have := hf bad
      dsimp only at h; omega
theorem bits_rng (n : Nat) : ∀ (s : List UInt8) (b r : Int), inR .u64 b = true → bitsN n s b = some r → inR .u64 r = true
  | [], b, r, hb, h => by cases h; exact hb
  | c :: s, b, r, hb, h => by
    rw [bitsN] at h
    split at h
    · cases h
    split at h
    · exact bits_rng n s _ _ (wrap_inR _ _) h
    · cases h
/-- A value that can be said. -/
structure goodV (v : Val) : Prop where
  lo : 0 ≤ v.1
  hi : v.1 ≤ 4
  pre : valPre v
  want : wantV v = v
theorem gNull : goodV val0 := ⟨by decide, by decide, ⟨by rfl, by rfl, by decide⟩, rfl⟩
theorem gBool (b : Bool) : goodV (1, b, 0, 0, noText) := ⟨show (0 : Int) ≤ 1 by decide, show (1 : Int) ≤ 4 by decide, ⟨by rfl, by rfl, show 0 ≤ 100000 by decide⟩, rfl⟩
theorem gInt {n : Int} (h : inR .i64 n = true) : goodV (2, false, n, 0, noText) := ⟨show (0 : Int) ≤ 2 by decide, show (2 : Int) ≤ 4 by decide, ⟨h, by rfl, show 0 ≤ 100000 by decide⟩, rfl⟩
theorem gText {t : ByteArray} (h : t.size ≤ 100000) : goodV (4, false, 0, 0, t) := ⟨show (0 : Int) ≤ 4 by decide, show (4 : Int) ≤ 4 by decide, ⟨by rfl, by rfl, h⟩, rfl⟩
theorem gFloat {b : Int} (h : inR .u64 b = true) : goodV (3, false, 0, b, noText) := ⟨show (0 : Int) ≤ 3 by decide, show (3 : Int) ≤ 4 by decide, ⟨by rfl, h, show 0 ≤ 100000 by decide⟩, rfl⟩
theorem hex_size (b : Nat) : (quotedF (hexB b)).size ≤ 66 := by
  have h := quoted_le (hexB b)
  have hx16 : (hexB b).size = 16 := by show ((hexN 16 _).toArray).size = 16; rw [List.size_toArray, hexN_len]
  omega
theorem value_back {i : Nat} {bad : Int} (hok : okPre l i e) (hz : ∀ t ∈ l, t.2.1.size ≤ 100000) (h : (valueF l i e bad).2.2 < 0) : bad < 0 ∧ (valueF l i e bad).2.2 = bad ∧ goodV (valueF l i e bad).1 ∧ i ≤ (valueF l i e bad).2.1 ∧ (valueF l i e bad).2.1 ≤ l.length ∧ (valueB (valueF l i e bad).1).size + 2 + worth l (valueF l i e bad).2.1 ≤ worth l i := by
  have hge := valueF_ge l i e bad
  have hle := valueF_le (e := e) (bad := bad) hok.1.2.1
  have hf := fun b => fail_pos hq i b
  unfold valueF at h hge hle ⊢
  by_cases hb : 0 ≤ bad
  · rw [if_pos hb] at h
    have := hf bad
    dsimp only at h; omega
  · rw [if_neg hb] at h hge hle ⊢
    have hb' : bad < 0 := by omega
    cases ht : l[i]? with
    | none =>
      rw [ht] at h
      have := hf bad
      dsimp only at h; omega
    | some t =>
      rw [ht] at h hge hle
      dsimp only at h hge hle ⊢
      have hwo := worth_at ht
      by_cases k1 : t.1 = 1
      · rw [if_pos k1] at h hge hle ⊢
        have hs := numT_some (bad := bad) hok
        rw [hs] at h hge hle ⊢
        dsimp only at h hge hle ⊢
        obtain ⟨n1, n2, n3, n4⟩ := num_back hq hok h
        have hw := wholeB_size (numT l i e bad).1
        refine ⟨hb', by rw [n3], gInt hq n2, hge, hle, ?_⟩
        rw [n3]
        show (wholeB (numT l i e bad).1).size + 2 + worth l (i + 1) ≤ worth l i
        omega
      rw [if_neg k1] at h hge hle ⊢
      by_cases k2 : t.1 = 2
      · rw [if_pos k2] at h hge hle ⊢
        have hq2 := quoted_le t.2.1
        refine ⟨hb', rfl, gText hq (hz t (List.mem_of_getElem? ht)), hge, hle, ?_⟩
        show (quotedF t.2.1).size + 2 + worth l (i + 1) ≤ worth l i
        omega
      rw [if_neg k2] at h hge hle ⊢
      by_cases k0 : t.1 = 0
      · rw [if_pos k0] at h hge hle ⊢
        unfold wordF at h hge hle ⊢
        by_cases w1 : strEq t.2.1 nullW = true
        · rw [if_pos w1] at h hge hle ⊢
          refine ⟨hb', rfl, gNull hq, hge, hle, ?_⟩
          show 4 + 2 + worth l (i + 1) ≤ worth l i
          omega
        rw [if_neg w1] at h hge hle ⊢
        by_cases w2 : strEq t.2.1 trueW = true
        · rw [if_pos w2] at h hge hle ⊢
          refine ⟨hb', rfl, gBool hq true, hge, hle, ?_⟩
          show 4 + 2 + worth l (i + 1) ≤ worth l i
          omega
        rw [if_neg w2] at h hge hle ⊢
        by_cases w3 : strEq t.2.1 falseW = true
        · rw [if_pos w3] at h hge hle ⊢
          refine ⟨hb', rfl, gBool hq false, hge, hle, ?_⟩
          show 5 + 2 + worth l (i + 1) ≤ worth l i
          omega
        rw [if_neg w3] at h hge hle ⊢
        by_cases w4 : strEq t.2.1 floatW = true
        · rw [if_pos w4] at h hge hle ⊢
          unfold floatF at h hge hle ⊢
          by_cases hB : 0 ≤ (flB l (i + 1) e bad).2.2
          · rw [if_pos hB] at h; dsimp only at h; omega
          rw [if_neg hB] at h hge hle ⊢
          obtain ⟨a1, w, p, hw, ht2⟩ := take_back hq (l := l) (e := e) (i := (flA l (i + 1) e bad).1) (bad := (flA l (i + 1) e bad).2) (k := 2) (by show (flB l (i + 1) e bad).2.2 < 0; omega)
          obtain ⟨b1, b2, b3⟩ := mark_back hq (l := l) (e := e) (i := i + 1) (bad := bad) (m := lpar) a1
          have hA : flA l (i + 1) e bad = (i + 1 + 1, bad) := b2
          have hBe : flB l (i + 1) e bad = (w, i + 1 + 1 + 1, bad) := by
            show takeF l (flA l (i + 1) e bad).1 e (flA l (i + 1) e bad).2 2 = _
            rw [ht2, hA]
          rw [hA] at hw
          have hwo2 := worth_at hw
          rw [hBe, hA] at h hge hle ⊢
          dsimp only at h hge hle hwo2 ⊢
          cases hbn : bitsN w.size w.data.toList 0 with
          | none =>
            rw [hbn] at h
            dsimp only at h
            have := fail_pos hq (i + 1 + 1) bad
            omega
          | some b =>
            rw [hbn] at h hge hle
            dsimp only at h hge hle ⊢
            by_cases hn : strEq w noText = true
            · rw [if_pos hn] at h
              dsimp only at h
              have hff := fail_pos hq (i + 1 + 1) bad
              rw [mark_bad hff] at h
              dsimp only at h
              omega
            · rw [if_neg hn] at h hge hle ⊢
              dsimp only at h hge hle ⊢
              obtain ⟨c1, c2, c3⟩ := mark_back hq h
              rw [c2] at hge hle ⊢
              have hb16 := hex_size hq b.toNat
              refine ⟨hb', rfl, gFloat hq (bits_rng hq _ _ _ _ (by rfl) hbn), hge, hle, ?_⟩
              show (floatP ++ quotedF (hexB b.toNat) ++ rpar).size + 2 + worth l (i + 1 + 1 + 1 + 1) ≤ worth l i
              rw [ByteArray.size_append, ByteArray.size_append, show floatP.size = 6 from rfl, show rpar.size = 1 from rfl]
              omega
        · rw [if_neg w4] at h
          have := hf bad
          dsimp only at h; omega
      · rw [if_neg k0] at h
        have := hf bad
        dsimp only at h; omega
end
end Go.Dl

namespace Go.Dl
open Go.RowKit
open Go.Proofs
set_option linter.unusedVariables false
set_option linter.unusedSectionVars false
theorem namesGo_bad (l : List Tok) (e : Int) : ∀ (f c i : Nat) (bad : Int) (acc : List ByteArray), 0 ≤ bad → namesGo l e f c i bad acc = (acc, i, bad)
  | 0, c, i, bad, acc, h => rfl
  | f + 1, c, i, bad, acc, h => by rw [namesGo, if_neg (by omega)]
theorem catB_cons (x : ByteArray) (r : List ByteArray) : (catB (x :: r)).size = x.size + (catB r).size := by rw [catB, ByteArray.size_append]
theorem join_size {α : Type} (B : α → ByteArray) (x : α) (r : List α) : (joinB comSp ((x :: r).map B)).size = (B x).size + (catB (r.map (comSp ++ B ·))).size := by
  have hE : joinB comSp ((x :: r).map B) = B x ++ catB (r.map (comSp ++ B ·)) := by rw [List.map_cons, joinB_eq, List.map_map]; rfl
  rw [hE, ByteArray.size_append]
structure goodF (f : Fld) : Prop where
  name : f.1.size ≤ 100000
  val : goodV f.2
section
variable {l : List Tok} {e : Int} (hq : posPre l e) (hz : ∀ t ∈ l, t.2.1.size ≤ 100000)
include hq hz
theorem namesGo_back : ∀ (k c i : Nat) (bad : Int) (acc : List ByteArray), 0 < c → c ≤ 100 → (namesGo l e k c i bad acc).2.2 < 0 →
    bad < 0 ∧ (namesGo l e k c i bad acc).2.2 = bad ∧ ∃ r, (namesGo l e k c i bad acc).1 = acc ++ r ∧ c + r.length ≤ 100 ∧ (∀ x ∈ r, x.size ≤ 100000) ∧ (catB (r.map (comSp ++ quotedF ·))).size + worth l (namesGo l e k c i bad acc).2.1 ≤ worth l i
  | 0, c, i, bad, acc, hc, hc2, h => ⟨h, rfl, [], by rw [namesGo]; simp, by simpa using hc2, (by intro x hx; cases hx), by rw [namesGo]; show 0 + worth l i ≤ worth l i; omega⟩
  | k + 1, c, i, bad, acc, hc, hc2, h => by
    rw [namesGo] at h ⊢
    by_cases hb : bad < 0
    · rw [if_pos hb] at h ⊢
      by_cases hp : peekF l i bad rbr = true
      · rw [if_pos hp] at h ⊢
        exact ⟨h, rfl, [], by simp, by simpa using hc2, (by intro x hx; cases hx), by show 0 + worth l i ≤ worth l i; omega⟩
      · rw [if_neg hp] at h ⊢
        rw [if_pos (by omega)] at h ⊢
        by_cases h100 : (100 : Int) ≤ (c : Int)
        · exfalso
          rw [if_pos h100] at h
          have hf := fail_pos hq (markF l i e bad comma).1 (markF l i e bad comma).2
          have ht := take_bad2 (l := l) (i := (markF l i e bad comma).1) (e := e) (k := 2) hf
          rw [ht] at h
          dsimp only at h
          rw [namesGo_bad _ _ _ _ _ _ _ hf] at h
          dsimp only at h
          omega
        · rw [if_neg h100] at h ⊢
          obtain ⟨a1, a2, r, a3, a4, a5, a6⟩ := namesGo_back k (c + 1) _ _ _ (by omega) (by omega) h
          obtain ⟨b1, w, p, b2, b3⟩ := take_back hq a1
          obtain ⟨c1, c2, c3⟩ := mark_back hq b1
          rw [b3, c2] at a2 a3 a6
          rw [b3, c2]
          dsimp only at a2 a3 a6 ⊢
          rw [c2] at b2
          have hw := worth_at b2
          have hs := hz _ (List.mem_of_getElem? b2)
          dsimp only at hw hs
          refine ⟨hb, a2, w :: r, by rw [a3]; simp, by rw [List.length_cons]; omega, ?_, ?_⟩
          · intro x hx
            rcases List.mem_cons.1 hx with rfl | hx
            · exact hs
            · exact a5 x hx
          · have hqq := quoted_le w
            rw [List.map_cons, catB_cons, ByteArray.size_append, show comSp.size = 2 from rfl]
            omega
    · rw [if_neg hb] at h
      dsimp only at h
      omega
theorem names_back {i : Nat} {bad : Int} (h : (namesF l i e bad).2.2 < 0) : bad < 0 ∧ (namesF l i e bad).2.2 = bad ∧ (namesF l i e bad).1.length ≤ 100 ∧ (∀ x ∈ (namesF l i e bad).1, x.size ≤ 100000) ∧
    (namesB (namesF l i e bad).1).size + 2 + worth l (namesF l i e bad).2.1 ≤ worth l i := by
  obtain ⟨r, hr⟩ : ∃ r, namesR l i e bad = r := ⟨_, rfl⟩
  rw [names_eq hr] at h ⊢
  dsimp only at h ⊢
  obtain ⟨m1, m2, m3⟩ := mark_back hq h
  rw [m2]
  dsimp only
  have hnB : ∀ ns : List ByteArray, (namesB ns).size = 2 + (joinB comSp (ns.map quotedF)).size := fun ns => by
    unfold namesB
    rw [ByteArray.size_append, ByteArray.size_append, show (⟨#[91]⟩ : ByteArray).size = 1 from rfl, show (⟨#[93]⟩ : ByteArray).size = 1 from rfl]; omega
  rw [hnB]
  unfold namesR at hr
  rw [namesGo] at hr
  by_cases hb : (markF l i e bad lbr).2 < 0
  · rw [if_pos hb] at hr
    obtain ⟨x1, x2, x3⟩ := mark_back hq hb
    rw [x2] at hr
    dsimp only at hr
    by_cases hp : peekF l (i + 1) bad rbr = true
    · rw [if_pos hp] at hr
      subst hr
      dsimp only at m1 m3 ⊢
      exact ⟨x1, rfl, by simp, (by intro x hx; cases hx), by show 2 + 0 + 2 + _ ≤ _; omega⟩
    · rw [if_neg hp, if_neg (by decide)] at hr
      rw [← hr] at m1 m3 ⊢
      obtain ⟨a1, a2, r2, a3, a4, a5, a6⟩ := namesGo_back hq hz 101 (0 + 1) _ _ _ (by omega) (by omega) m1
      obtain ⟨b1, w, p, b2, b3⟩ := take_back hq a1
      rw [b3] at a2 a3 a6 m3 ⊢
      dsimp only at a2 a3 a6 m3 ⊢
      have hw := worth_at b2
      have hs := hz _ (List.mem_of_getElem? b2)
      dsimp only at hw hs
      rw [a3]
      refine ⟨x1, a2, by simp; omega, ?_, ?_⟩
      · intro x hx
        rcases List.mem_cons.1 (by simpa using hx) with rfl | hx
        · exact hs
        · exact a5 x hx
      · have hqq := quoted_le w
        rw [show [] ++ [w] ++ r2 = w :: r2 from rfl, join_size]
        omega
  · rw [if_neg hb] at hr
    subst hr
    dsimp only at m1
    omega
theorem fld_back {i : Nat} {bad : Int} (hok : okPre l i e) (h : (paV l e i bad).2.2 < 0) : bad < 0 ∧ (paV l e i bad).2.2 = bad ∧ goodF (paFld l e i bad) ∧ (fldB (paFld l e i bad)).size + 2 + worth l (paV l e i bad).2.1 ≤ worth l i := by
  have hle := paQ_le (e := e) (bad := bad) hok.1.2.1
  unfold paV at h ⊢
  obtain ⟨v1, v2, v3, v4, v5, v6⟩ := value_back hq (hok.at hle) hz h
  have hQ : (markF l (takeF l i e bad 2).2.1 e (takeF l i e bad 2).2.2 eqm).2 < 0 := v1
  obtain ⟨m1, m2, m3⟩ := mark_back hq hQ
  obtain ⟨t1, w, p, t2, t3⟩ := take_back hq m1
  have hPQ : paQ l e i bad = (i + 1 + 1, bad) := by unfold paQ; rw [m2, t3]
  have hF : paFld l e i bad = (w, (valueF l (paQ l e i bad).1 e (paQ l e i bad).2).1) := by unfold paFld paV; rw [t3]
  have hw := worth_at t2
  have hs := hz _ (List.mem_of_getElem? t2)
  have hqq := quoted_le w
  rw [t3] at m3
  dsimp only at hw hs m3
  rw [hF]
  rw [hPQ] at v2 v6 v3 ⊢
  dsimp only at v2 v6 v3 ⊢
  refine ⟨t1, v2, ⟨hs, v3⟩, ?_⟩
  show (quotedF w ++ (⟨#[61]⟩ : ByteArray) ++ valueB _).size + 2 + _ ≤ _
  rw [ByteArray.size_append, ByteArray.size_append, show (⟨#[61]⟩ : ByteArray).size = 1 from rfl]
  dsimp only
  omega
theorem paperGo_back : ∀ (k c i : Nat) (bad : Int) (acc : List Fld), okPre l i e → 0 < c → c ≤ 100 → (paperGo l e k c i bad acc).2.2 < 0 →
    bad < 0 ∧ (paperGo l e k c i bad acc).2.2 = bad ∧ ∃ r, (paperGo l e k c i bad acc).1 = acc ++ r ∧ c + r.length ≤ 100 ∧ (∀ x ∈ r, goodF x) ∧ (catB (r.map (comSp ++ fldB ·))).size + worth l (paperGo l e k c i bad acc).2.1 ≤ worth l i
  | 0, c, i, bad, acc, hok, hc, hc2, h => ⟨h, rfl, [], by rw [paperGo]; simp, by simpa using hc2, (by intro x hx; cases hx), by rw [paperGo]; show 0 + worth l i ≤ worth l i; omega⟩
  | k + 1, c, i, bad, acc, hok, hc, hc2, h => by
    rw [paperGo] at h ⊢
    by_cases hb : bad < 0
    · rw [if_pos hb] at h ⊢
      by_cases hp : peekF l i bad rpar = true
      · rw [if_pos hp] at h ⊢
        exact ⟨h, rfl, [], by simp, by simpa using hc2, (by intro x hx; cases hx), by show 0 + worth l i ≤ worth l i; omega⟩
      · rw [if_neg hp] at h ⊢
        rw [if_pos (by omega)] at h ⊢
        have hml : (markF l i e bad comma).1 ≤ l.length := markF_le hok.1.2.1
        by_cases h100 : (100 : Int) ≤ (c : Int)
        · exfalso
          rw [if_pos h100] at h
          have hf := fail_pos hq (markF l i e bad comma).1 (markF l i e bad comma).2
          have hv := paV_bad (l := l) (e := e) (i := (markF l i e bad comma).1) hf
          rw [paperGo_bad _ _ _ _ _ _ _ (by rw [hv]; exact hf)] at h
          dsimp only at h
          rw [hv] at h
          omega
        · rw [if_neg h100] at h ⊢
          have hvl := paV_le (l := l) (e := e) (bad := (markF l i e bad comma).2) hml
          obtain ⟨a1, a2, r, a3, a4, a5, a6⟩ := paperGo_back k (c + 1) _ _ _ (hok.at hvl) (by omega) (by omega) h
          obtain ⟨b1, b2, b3, b4⟩ := fld_back hq hz (hok.at hml) a1
          obtain ⟨c1, c2, c3⟩ := mark_back hq b1
          rw [a2, a3]
          rw [c2] at b2 b3 b4 a6 ⊢
          dsimp only at b2 b3 b4 a6 ⊢
          refine ⟨hb, b2, paFld l e (i + 1) bad :: r, by simp, by rw [List.length_cons]; omega, ?_, ?_⟩
          · intro x hx
            rcases List.mem_cons.1 hx with rfl | hx
            · exact b3
            · exact a5 x hx
          · rw [List.map_cons, catB_cons, ByteArray.size_append, show comSp.size = 2 from rfl]
            omega
    · rw [if_neg hb] at h
      dsimp only at h
      omega
theorem paper_back {i : Nat} {bad : Int} (hok : okPre l i e) (h : (paperF l i e bad).2.2 < 0) : bad < 0 ∧ (paperF l i e bad).2.2 = bad ∧ (paperF l i e bad).1.1.size ≤ 100000 ∧ inR .i64 (paperF l i e bad).1.2.1 = true ∧ (paperF l i e bad).1.2.2.length ≤ 100 ∧
    (∀ x ∈ (paperF l i e bad).1.2.2, goodF x) ∧ (paperB (paperF l i e bad).1).size + 2 + worth l (paperF l i e bad).2.1 ≤ worth l i := by
  obtain ⟨r, hr⟩ : ∃ r, paperR l i e bad = r := ⟨_, rfl⟩
  rw [paper_eq hr] at h ⊢
  dsimp only at h ⊢
  obtain ⟨m1, m2, m3⟩ := mark_back hq h
  rw [m2]
  dsimp only
  have ht1 : (takeF l i e bad 2).2.1 ≤ l.length := takeF_le hok.1.2.1
  have hn1 : (paI l i e bad).2.1 ≤ l.length := numT_le (hok.at ht1)
  have hm1 : (paM l i e bad).1 ≤ l.length := markF_le hn1
  have key : ∀ fs : List Fld, (paM l i e bad).2 < 0 → bad < 0 ∧ (takeF l i e bad 2).1.size ≤ 100000 ∧ inR .i64 (paI l i e bad).1 = true ∧ (paM l i e bad).2 = bad ∧
      (paperB ((takeF l i e bad 2).1, (paI l i e bad).1, fs)).size + 4 + worth l (paM l i e bad).1 ≤ worth l i + (joinB comSp (fs.map fldB)).size := by
    intro fs hM
    obtain ⟨x1, x2, x3⟩ := mark_back hq (i := (paI l i e bad).2.1) (bad := (paI l i e bad).2.2) (m := lpar) hM
    obtain ⟨y1, y2, y3, y4⟩ := num_back hq (hok.at ht1) x1
    obtain ⟨t1, w, p, t2, t3⟩ := take_back hq y1
    have hw := worth_at t2
    have hs := hz _ (List.mem_of_getElem? t2)
    have hqq := quoted_le w
    have hwh := wholeB_size (paI l i e bad).1
    have y3' : (paI l i e bad).2 = ((takeF l i e bad 2).2.1 + 1, (takeF l i e bad 2).2.2) := y3
    have hM2 : paM l i e bad = ((paI l i e bad).2.1 + 1, (paI l i e bad).2.2) := x2
    rw [t3] at y3' y4 ⊢
    rw [hM2, y3']
    rw [y3'] at x3
    dsimp only at hw hs x3 y4 ⊢
    refine ⟨t1, hs, y2, rfl, ?_⟩
    rw [paperB_eq, ByteArray.size_append, ByteArray.size_append, show rpar.size = 1 from rfl]
    have e1 : (papHead (w, (paI l i e bad).1, fs)).size = (quotedF w).size + 1 + (wholeB (paI l i e bad).1).size + 2 := by
      unfold papHead
      rw [ByteArray.size_append, ByteArray.size_append, ByteArray.size_append]; rfl
    rw [e1]
    dsimp only
    omega
  unfold paperR at hr
  rw [paperGo] at hr
  by_cases hb : (paM l i e bad).2 < 0
  · rw [if_pos hb] at hr
    by_cases hp : peekF l (paM l i e bad).1 (paM l i e bad).2 rpar = true
    · rw [if_pos hp] at hr
      obtain ⟨k1, k2, k3, k4, k5⟩ := key [] hb
      rw [← hr] at m3 ⊢
      dsimp only at m3 ⊢
      rw [show (joinB comSp (([] : List Fld).map fldB)).size = 0 from rfl] at k5
      exact ⟨k1, k4, k2, k3, by simp, (by intro x hx; cases hx), by omega⟩
    · rw [if_neg hp, if_neg (by decide)] at hr
      rw [← hr] at m1 m3 ⊢
      have hvl := paV_le (l := l) (e := e) (bad := (paM l i e bad).2) hm1
      obtain ⟨a1, a2, r2, a3, a4, a5, a6⟩ := paperGo_back hq hz 101 (0 + 1) _ _ _ (hok.at hvl) (by omega) (by omega) m1
      obtain ⟨b1, b2, b3, b4⟩ := fld_back hq hz (hok.at hm1) a1
      obtain ⟨k1, k2, k3, k4, k5⟩ := key (paFld l e (paM l i e bad).1 (paM l i e bad).2 :: r2) hb
      rw [join_size] at k5
      rw [a3, a2]
      refine ⟨k1, by rw [b2, k4], k2, k3, by simp; omega, ?_, ?_⟩
      · intro x hx
        rcases List.mem_cons.1 (by simpa using hx) with rfl | hx
        · exact b3
        · exact a5 x hx
      · rw [show [] ++ [paFld l e (paM l i e bad).1 (paM l i e bad).2] ++ r2 = paFld l e (paM l i e bad).1 (paM l i e bad).2 :: r2 from rfl]
        omega
  · rw [if_neg hb] at hr
    subst hr
    dsimp only at m1
    omega
end
end Go.Dl

namespace Go.Dl
open Go.RowKit
open Go.Proofs
set_option linter.unusedVariables false
set_option linter.unusedSectionVars false
structure allOk (a : ActM) : Prop where
  say : sayOk a
  gv : ∀ f ∈ a.flds.getD [], goodF f
theorem allOk_0 (k : Int) : allOk (act0 k) :=
  ⟨⟨⟨⟨by show 0 ≤ _; omega, by rfl, by show 0 ≤ _; omega, (by intro f hf; cases hf)⟩, by show 0 ≤ _; omega, by show 0 ≤ _; omega, ⟨by show 0 ≤ _; omega, (by intro f hf; cases hf)⟩, by show 0 ≤ _; omega, by rfl, by rfl, by rfl, by rfl⟩, by show 0 ≤ _; omega, by show 0 ≤ _; omega⟩, (by intro f hf; cases hf)⟩
/-- An argument is not changed by another. -/
def indep (l : List Tok) (e : Int) (x y : Int) : Prop := ∀ (b : ActM) (i : Nat) (bad : Int), argB (argT l e y b i bad).1 x = argB b x
section
variable {l : List Tok} {e : Int} (hq : posPre l e) (hz : ∀ t ∈ l, t.2.1.size ≤ 100000)
include hq hz
theorem arg_back {i : Nat} {bad : Int} (hok : okPre l i e) {k : Int} (h0 : 0 ≤ k) (h8 : k ≤ 8) {b : ActM} (hb : allOk b) (h : (argT l e k b i bad).2.2 < 0) :
    bad < 0 ∧ (argT l e k b i bad).2.2 = bad ∧ allOk (argT l e k b i bad).1 ∧ (argB (argT l e k b i bad).1 k).size + 2 + worth l (argT l e k b i bad).2.1 ≤ worth l i := by
  obtain ⟨⟨hp, hfl, hnm⟩, hgv⟩ := hb
  have hT : (takeF l i e bad 2).2.2 < 0 → bad < 0 ∧ (takeF l i e bad 2).2.2 = bad ∧ (takeF l i e bad 2).1.size ≤ 100000 ∧ (quotedF (takeF l i e bad 2).1).size + 2 + worth l (takeF l i e bad 2).2.1 ≤ worth l i := by
    intro h
    obtain ⟨t1, w, p, t2, t3⟩ := take_back hq h
    have hw := worth_at t2
    have hs := hz _ (List.mem_of_getElem? t2)
    have hqq := quoted_le w
    rw [t3]
    dsimp only at hw hs ⊢
    exact ⟨t1, rfl, hs, by omega⟩
  unfold argT at h ⊢
  by_cases k0 : k = 0
  · subst k0
    rw [if_pos rfl] at h ⊢
    obtain ⟨t1, t2, t3, t4⟩ := hT h
    exact ⟨t1, t2, ⟨⟨⟨hp.pap, t3, hp.name, hp.names, hp.draw, hp.n, hp.m, hp.keep, hp.tear⟩, hfl, hnm⟩, hgv⟩, t4⟩
  rw [if_neg k0] at h ⊢
  by_cases k1 : k = 1
  · subst k1
    rw [if_pos rfl] at h ⊢
    obtain ⟨t1, t2, t3, t4⟩ := hT h
    exact ⟨t1, t2, ⟨⟨⟨hp.pap, hp.id, t3, hp.names, hp.draw, hp.n, hp.m, hp.keep, hp.tear⟩, hfl, hnm⟩, hgv⟩, t4⟩
  rw [if_neg k1] at h ⊢
  by_cases k2 : k = 2
  · subst k2
    rw [if_pos rfl] at h ⊢
    obtain ⟨t1, t2, t3, t4, t5⟩ := names_back hq hz h
    exact ⟨t1, t2, ⟨⟨⟨hp.pap, hp.id, hp.name, ⟨by show (namesF l i e bad).1.length ≤ 200; omega, t4⟩, hp.draw, hp.n, hp.m, hp.keep, hp.tear⟩, hfl, t3⟩, hgv⟩, t5⟩
  rw [if_neg k2] at h ⊢
  by_cases k3 : k = 3
  · subst k3
    rw [if_pos rfl] at h ⊢
    obtain ⟨t1, t2, t3, t4⟩ := num_back hq hok h
    have hw := wholeB_size (numT l i e bad).1
    refine ⟨t1, by rw [t3], ⟨⟨⟨hp.pap, hp.id, hp.name, hp.names, hp.draw, t2, hp.m, hp.keep, hp.tear⟩, hfl, hnm⟩, hgv⟩, ?_⟩
    rw [t3]
    show (wholeB (numT l i e bad).1).size + 2 + worth l (i + 1) ≤ worth l i
    omega
  rw [if_neg k3] at h ⊢
  by_cases k4 : k = 4
  · subst k4
    rw [if_pos rfl] at h ⊢
    obtain ⟨t1, t2, t3, t4⟩ := num_back hq hok h
    have hw := wholeB_size (numT l i e bad).1
    refine ⟨t1, by rw [t3], ⟨⟨⟨hp.pap, hp.id, hp.name, hp.names, hp.draw, hp.n, t2, hp.keep, hp.tear⟩, hfl, hnm⟩, hgv⟩, ?_⟩
    rw [t3]
    show (wholeB (numT l i e bad).1).size + 2 + worth l (i + 1) ≤ worth l i
    omega
  rw [if_neg k4] at h ⊢
  by_cases k5 : k = 5
  · subst k5
    rw [if_pos rfl] at h ⊢
    obtain ⟨t1, t2, t3, t4⟩ := count_back hq h
    have hw := decB_size (countF l i e bad).1.toNat
    refine ⟨t1, by rw [t3], ⟨⟨⟨hp.pap, hp.id, hp.name, hp.names, hp.draw, hp.n, hp.m, t2, hp.tear⟩, hfl, hnm⟩, hgv⟩, ?_⟩
    rw [t3]
    show (decB (countF l i e bad).1.toNat).size + 2 + worth l (i + 1) ≤ worth l i
    omega
  rw [if_neg k5] at h ⊢
  by_cases k6 : k = 6
  · subst k6
    rw [if_pos rfl] at h ⊢
    obtain ⟨t1, t2, t3, t4⟩ := num_back hq hok h
    have hw := wholeB_size (numT l i e bad).1
    refine ⟨t1, by rw [t3], ⟨⟨⟨hp.pap, hp.id, hp.name, hp.names, hp.draw, hp.n, hp.m, hp.keep, t2⟩, hfl, hnm⟩, hgv⟩, ?_⟩
    rw [t3]
    show (wholeB (numT l i e bad).1).size + 2 + worth l (i + 1) ≤ worth l i
    omega
  rw [if_neg k6] at h ⊢
  by_cases k7 : k = 7
  · subst k7
    rw [if_pos rfl] at h ⊢
    obtain ⟨t1, t2, t3, t4⟩ := hT h
    exact ⟨t1, t2, ⟨⟨⟨hp.pap, hp.id, hp.name, hp.names, t3, hp.n, hp.m, hp.keep, hp.tear⟩, hfl, hnm⟩, hgv⟩, t4⟩
  rw [if_neg k7] at h ⊢
  obtain rfl : k = 8 := by omega
  rw [if_pos rfl] at h ⊢
  obtain ⟨t1, t2, t3, t4, t5, t6, t7⟩ := paper_back hq hz hok h
  exact ⟨t1, t2, ⟨⟨⟨⟨t3, t4, by show (paperF l i e bad).1.2.2.length ≤ 200; omega, fun f hf => ⟨(t6 f hf).name, (t6 f hf).val.pre⟩⟩, hp.id, hp.name, hp.names, hp.draw, hp.n, hp.m, hp.keep, hp.tear⟩, t5, hnm⟩, t6⟩, t7⟩
theorem args_indep {x : Int} : ∀ (xs : List Int) (b : ActM) (i : Nat) (bad : Int), (∀ y ∈ xs, indep l e x y) → argB (argsGo l e xs b i bad).1 x = argB b x
  | [], b, i, bad, h => rfl
  | y :: xs, b, i, bad, h => by
    rw [argsGo, args_indep xs _ _ _ (fun z hz => h z (List.mem_cons_of_mem _ hz)), h y (List.mem_cons_self ..)]
theorem args_back : ∀ (xs : List Int) (b : ActM) (i : Nat) (bad : Int), okPre l i e → xs.Pairwise (indep l e) → (∀ k ∈ xs, 0 ≤ k ∧ k ≤ 8) → allOk b → (argsGo l e xs b i bad).2.2 < 0 →
    bad < 0 ∧ (argsGo l e xs b i bad).2.2 = bad ∧ allOk (argsGo l e xs b i bad).1 ∧ (catB (xs.map (sp1 ++ argB (argsGo l e xs b i bad).1 ·))).size + worth l (argsGo l e xs b i bad).2.1 ≤ worth l i
  | [], b, i, bad, hok, hI, hk, hb, h => ⟨h, rfl, hb, by show 0 + worth l i ≤ worth l i; omega⟩
  | x :: xs, b, i, bad, hok, hI, hk, hb, h => by
    rw [List.pairwise_cons] at hI
    have hx := hk x (List.mem_cons_self ..)
    have hin := argT_in (k := x) (a := b) (bad := bad) hok
    rw [argsGo] at h ⊢
    have hbk : (argT l e x b i bad).2.2 < 0 → _ := fun h => arg_back hq hz hok hx.1 hx.2 hb h
    have hlt : (argT l e x b i bad).2.2 < 0 := by
      apply Classical.byContradiction
      intro hn
      have := argsGo_bad (l := l) (e := e) xs (argT l e x b i bad).1 (argT l e x b i bad).2.1 (argT l e x b i bad).2.2 (by omega)
      omega
    obtain ⟨a1, a2, a3, a4⟩ := hbk hlt
    obtain ⟨b1, b2, b3, b4⟩ := args_back xs _ _ _ (hok.at hin.2) hI.2 (fun k hkm => hk k (List.mem_cons_of_mem _ hkm)) a3 h
    refine ⟨a1, by rw [b2, a2], b3, ?_⟩
    rw [List.map_cons, catB_cons, ByteArray.size_append, args_indep hq hz xs _ _ _ hI.1, show sp1.size = 1 from rfl]
    omega
theorem argsK_indep (k : Int) : (argsK k).Pairwise (indep l e) := by
  unfold argsK
  (repeat' split) <;> simp only [List.pairwise_cons, List.mem_cons, List.not_mem_nil, or_false, forall_eq_or_imp, forall_eq, false_implies, implies_true, and_true, List.Pairwise.nil] <;> (repeat' apply And.intro) <;> (intro b i bad; rfl)
theorem wantFl_fix {fs : List Fld} (h : ∀ f ∈ fs, goodF f) : fs.map wantFl = fs := by
  induction fs with
  | nil => rfl
  | cons f fs ih =>
    rw [List.map_cons, ih (fun x hx => h x (List.mem_cons_of_mem _ hx))]
    congr 1
    show (f.1, wantV f.2) = f
    rw [(h f (List.mem_cons_self ..)).val.want]
theorem args_fix {k : Nat} (h1 : 1 ≤ k) (h15 : k ≤ 15) (i : Nat) (bad : Int) (hg : ∀ f ∈ (argsGo l e (argsK k) (act0 k) i bad).1.flds.getD [], goodF f) :
    (argsGo l e (argsK k) (act0 k) i bad).1.kind = k ∧ cleanA (argsGo l e (argsK k) (act0 k) i bad).1 = (argsGo l e (argsK k) (act0 k) i bad).1 ∧ readA (argsGo l e (argsK k) (act0 k) i bad).1 = (argsGo l e (argsK k) (act0 k) i bad).1 := by
  match k, h1, h15, hg with
  | 1, _, _, hg =>
    refine ⟨rfl, rfl, ?_⟩
    generalize hr : (argsGo l e (argsK ((1 : Nat) : Int)) (act0 ((1 : Nat) : Int)) i bad).1 = r at hg ⊢
    have h2 : r = { act0 1 with pid := r.pid, cls := r.cls, flds := some (r.flds.getD []), draw := r.draw } := by rw [← hr]; rfl
    have h3 : readA r = { act0 1 with pid := r.pid, cls := r.cls, flds := some ((r.flds.getD []).map wantFl), draw := r.draw } := by rw [h2]; rfl
    rw [h3, wantFl_fix hq hz hg]
    exact h2.symm
  | 2, _, _, hg => exact ⟨rfl, rfl, rfl⟩
  | 3, _, _, hg => exact ⟨rfl, rfl, rfl⟩
  | 4, _, _, hg => exact ⟨rfl, rfl, rfl⟩
  | 5, _, _, hg => exact ⟨rfl, rfl, rfl⟩
  | 6, _, _, hg => exact ⟨rfl, rfl, rfl⟩
  | 7, _, _, hg => exact ⟨rfl, rfl, rfl⟩
  | 8, _, _, hg => exact ⟨rfl, rfl, rfl⟩
  | 9, _, _, hg => exact ⟨rfl, rfl, rfl⟩
  | 10, _, _, hg => exact ⟨rfl, rfl, rfl⟩
  | 11, _, _, hg => exact ⟨rfl, rfl, rfl⟩
  | 12, _, _, hg => exact ⟨rfl, rfl, rfl⟩
  | 13, _, _, hg => exact ⟨rfl, rfl, rfl⟩
  | 14, _, _, hg => exact ⟨rfl, rfl, rfl⟩
  | 15, _, _, hg => exact ⟨rfl, rfl, rfl⟩
end
theorem formIx_in (w : ByteArray) : ∀ (n j k : Nat), formIx w n j = some k → j ≤ k ∧ k < j + n ∧ strEq (formB k) noText = false
  | 0, j, k, h => by cases h
  | n + 1, j, k, h => by
    rw [formIx] at h
    split at h
    · split at h
      · have := formIx_in w n (j + 1) k h; exact ⟨by omega, by omega, this.2.2⟩
      · rename_i hn
        cases h
        exact ⟨Nat.le_refl _, by omega, by simpa using hn⟩
    · have := formIx_in w n (j + 1) k h; exact ⟨by omega, by omega, this.2.2⟩
theorem form_size : ∀ k : Fin 16, (formB k.val).size ≤ 10 := by decide +kernel
theorem print_eq0 {a : ActM} (hk1 : 1 ≤ a.kind) (hk2 : a.kind ≤ 15) : printB a = formB a.kind.toNat ++ catB ((argsK a.kind).map (sp1 ++ argB a ·)) ++ semi := by
  unfold printB wordsOf
  rw [if_pos hk1, if_pos hk2, joinB_eq, List.map_map]; rfl
/-- A step that is just what is read of it. -/
structure fixA (a : ActM) : Prop where
  good : goodA a
  clean : cleanA a = a
  read : readA a = a
theorem step_back {l : List Tok} {e : Int} (hz : ∀ t ∈ l, t.2.1.size ≤ 100000) {i : Nat} {bad : Int} (hok : okPre l i e) (h : (stepF l i e bad).2.2 < 0) :
    bad < 0 ∧ (stepF l i e bad).2.2 = bad ∧ fixA (stepF l i e bad).1 ∧ (printB (stepF l i e bad).1).size + 2 + worth l (stepF l i e bad).2.1 ≤ worth l i ∧ 48 + worth l (stepF l i e bad).2.1 ≤ worth l i := by
  have hq := hok.2.2
  cases hF : formIx (stepW l i e bad).1 16 0 with
  | none =>
    rw [stepF_none hF] at h
    have := fail_pos hq i (stepW l i e bad).2.2
    dsimp only at h; omega
  | some k =>
    obtain ⟨f1, f2, f3⟩ := formIx_in _ _ _ _ hF
    have hk0 : k ≠ 0 := by
      rintro rfl
      revert f3
      decide +kernel
    obtain ⟨r, hr⟩ : ∃ r, stepA l i e bad k = r := ⟨_, rfl⟩
    rw [stepF_some hF hr] at h ⊢
    dsimp only at h ⊢
    obtain ⟨m1, m2, m3⟩ := mark_back hq h
    have hW : (stepW l i e bad).2.1 ≤ l.length := takeF_le hok.1.2.1
    unfold stepA at hr
    have hlt : (argsGo l e (argsK k) (act0 k) (stepW l i e bad).2.1 (stepW l i e bad).2.2).2.2 < 0 := by rw [hr]; exact m1
    obtain ⟨a1, a2, a3, a4⟩ := args_back hq hz _ _ _ _ (hok.at hW) (argsK_indep hq hz k) (fun x hx => by have := argsK_in hx; exact ⟨this.1, this.2.1⟩) (allOk_0 _) hlt
    obtain ⟨x1, x2, x3⟩ := args_fix hq hz (by omega) (by omega) _ _ a3.gv
    obtain ⟨t1, w, p, t2, t3⟩ := take_back hq (i := i) (bad := bad) (k := 0) a1
    have hw := worth_at t2
    rw [hr] at a2 a3 a4 x1 x2 x3
    rw [show stepW l i e bad = (w, i + 1, bad) from t3] at a2 a4
    dsimp only at hw a2 a4
    rw [m2]
    refine ⟨t1, a2, ⟨⟨a3.say, by omega, by omega, fun _ x hx => ⟨(a3.gv x hx).val.lo, (a3.gv x hx).val.hi⟩⟩, x2, x3⟩, ?_, by dsimp only; omega⟩
    rw [print_eq0 (by omega) (by omega), ByteArray.size_append, ByteArray.size_append, x1, show semi.size = 1 from rfl, show (((k : Nat) : Int)).toNat = k from rfl]
    have hfs := form_size ⟨k, by omega⟩
    dsimp only at hfs ⊢
    omega
def nlB : ByteArray := ⟨#[10]⟩
theorem scriptN_bad (l : List Tok) (e : Int) (n i : Nat) (bad : Int) (acc : List ActM) (h : 0 ≤ bad) : scriptN l e n i bad acc = (acc, i, bad) := by
  cases n with
  | zero => rfl
  | succ n => rw [scriptN, if_neg (by omega)]
theorem scriptN_back {l : List Tok} {e : Int} (hz : ∀ t ∈ l, t.2.1.size ≤ 100000) : ∀ (n i : Nat) (bad : Int) (acc : List ActM), okPre l i e → (scriptN l e n i bad acc).2.2 < 0 →
    ∃ r, (scriptN l e n i bad acc).1 = acc ++ r ∧ (∀ a ∈ r, fixA a) ∧ (catB (r.map (printB · ++ nlB))).size + r.length ≤ worth l i ∧ 48 * r.length ≤ worth l i
  | 0, i, bad, acc, hok, h => ⟨[], by rw [scriptN]; simp, (by intro a ha; cases ha), Nat.zero_le _, Nat.zero_le _⟩
  | n + 1, i, bad, acc, hok, h => by
    rw [scriptN] at h ⊢
    by_cases hb : bad < 0
    · rw [if_pos hb] at h ⊢
      by_cases hi : (i : Int) < (l.length : Int)
      · rw [if_pos hi] at h ⊢
        have hlt : (stepF l i e bad).2.2 < 0 := by
          apply Classical.byContradiction
          intro hn
          rw [scriptN_bad _ _ _ _ _ _ (by omega)] at h
          dsimp only at h; omega
        obtain ⟨a1, a2, a3, a4, a5⟩ := step_back hz hok hlt
        obtain ⟨r, r1, r2, r3, r4⟩ := scriptN_back hz n _ _ _ (hok.at (stepF_in (bad := bad) hok).1.2) h
        refine ⟨(stepF l i e bad).1 :: r, by rw [r1]; simp, ?_, ?_, by rw [List.length_cons]; omega⟩
        · intro a ha
          rcases List.mem_cons.1 ha with rfl | ha
          · exact a3
          · exact r2 a ha
        · rw [List.map_cons, catB_cons, ByteArray.size_append, List.length_cons, show nlB.size = 1 from rfl]
          omega
      · rw [if_neg hi] at h ⊢
        exact ⟨[], by simp, (by intro a ha; cases ha), Nat.zero_le _, Nat.zero_le _⟩
    · rw [if_neg hb] at h
      dsimp only at h; omega
theorem allGo_eq : ∀ (ss : List ActM) (acc : List UInt8), (∀ a ∈ ss, goodA a) → allGo ss acc = acc ++ (catB (ss.map (printB · ++ nlB))).data.toList
  | [], acc, h => by rw [allGo]; show acc = acc ++ []; simp
  | a :: ss, acc, h => by
    have hg := h a (List.mem_cons_self ..)
    have hp := print_some hg.k1 hg.k2
    have hn : strEq (printB a) ⟨#[]⟩ = false := strEq_ne (by show (printB a).size ≠ 0; omega)
    rw [allGo, hn, if_neg (by simp), allGo_eq ss _ (fun x hx => h x (List.mem_cons_of_mem _ hx)), List.map_cons, catB, dl_app, dl_app, dl_app]
    simp only [List.append_assoc]
    rfl
theorem printAll_eq {ss : List ActM} (h : ∀ a ∈ ss, goodA a) : printAllB ss = catB (ss.map (printB · ++ nlB)) := by
  apply dl_ext
  unfold printAllB
  show (allGo ss []).toArray.toList = _
  rw [allGo_eq ss [] h]; simp
theorem lexK_line {T : ByteArray} {a : ActM} (ha : goodA a) (o : Nat) (hi : inT T o (printB a ++ nlB)) : lexK T o (stepK a) (o + (printB a ++ nlB).size) := by
  have h1 := lexK_print ha (inT_l hi)
  have h2 := inT_r hi
  have h3 := h2.1
  have z : nlB.size = 1 := rfl
  have h4 := lexK_blank (T := T) (o := o + (printB a).size) (by omega) (by rw [inT_0 h2 (by decide)]; decide)
  have := lexK_app h1 h4
  rw [List.append_nil] at this
  rw [ByteArray.size_append, z, ← Nat.add_assoc]
  exact this
theorem map_read {ss : List ActM} (h : ∀ a ∈ ss, fixA a) : ss.map readA = ss := by
  induction ss with
  | nil => rfl
  | cons a ss ih => rw [List.map_cons, ih (fun x hx => h x (List.mem_cons_of_mem _ hx)), (h a (List.mem_cons_self ..)).read]
/-- The steps of a short text are printed, and read again as they are. -/
theorem scripts_ok {s : ByteArray} (hs : s.size ≤ 500) {ss : List ActM} (h : (scriptF s).1 = some ss) : (∀ a ∈ ss, fixA a) ∧ ss.length ≤ 1000 ∧ (printAllB ss).size ≤ 65536 ∧ scriptF (printAllB ss) = (some ss, 0, 0) := by
  have hok := toks_pre (s := s) (by omega) (i := 0) (Nat.zero_le _)
  have hz : ∀ t ∈ (toksT s).1, t.2.1.size ≤ 100000 := fun t ht => by have := ((toksT_ok s).2 t ht).1; omega
  unfold scriptF at h
  split at h
  · cases h
  · split at h
    · cases h
    · rename_i hb
      obtain ⟨r, r1, r2, r3, r4⟩ := scriptN_back hz ((toksT s).1.length + 2) 0 (-1) [] hok (by show (scriptP (toksT s).1 s.size).2.2 < 0; omega)
      have hss : ss = r := by
        rw [List.nil_append] at r1
        rw [← r1]
        exact (Option.some.inj h).symm
      subst hss
      have hw := worth_all (toksT s).1
      have h1 := toksT_sum s
      have h2 := (toksT_ok s).1
      have hg : ∀ a ∈ ss, goodA a := fun a ha => (r2 a ha).good
      have hz2 : (printAllB ss).size ≤ 65536 := by rw [printAll_eq hg]; omega
      refine ⟨r2, by omega, hz2, ?_⟩
      have hl : lexK (printAllB ss) 0 (ss.flatMap stepK) (printAllB ss).size := by
        have := lexK_parts (T := printAllB ss) (printB · ++ nlB) stepK ss 0 (fun x hx o hi => lexK_line (hg x hx) o hi) (by rw [← printAll_eq hg]; exact inT_whole _)
        rw [← printAll_eq hg, Nat.zero_add] at this
        exact this
      have := scriptK hz2 hg hl
      rw [map_read r2] at this
      exact this
end Go.Dl

namespace Go.Dl
open Go.RowKit
open Go.Proofs
set_option linter.unusedVariables false
set_option linter.unusedSectionVars false
theorem nextF_pl {s : ByteArray} {p : Nat} (hp : p ≤ s.size) {t : Tok} {b : Bool} {e : Int} {r : Nat} (h : nextF s p = some (t, b, e, r)) : 0 ≤ t.2.2 ∧ t.2.2 ≤ s.size := by
  have hq := blkF_le s p hp
  unfold nextF at h
  generalize blkF s p = q at h hq
  split at h
  · cases h; exact ⟨Int.le_refl _, Int.natCast_nonneg _⟩
  split at h
  · cases h; exact ⟨Int.natCast_nonneg _, by dsimp only; omega⟩
  split at h
  · split at h
    · cases h; exact ⟨Int.natCast_nonneg _, by dsimp only; omega⟩
    · cases h; exact ⟨Int.natCast_nonneg _, by dsimp only; omega⟩
  split at h
  · split at h
    · cases h; exact ⟨Int.natCast_nonneg _, by dsimp only; omega⟩
    · cases h; exact ⟨Int.natCast_nonneg _, by dsimp only; omega⟩
  split at h
  · cases h; exact ⟨Int.natCast_nonneg _, by dsimp only; omega⟩
  · cases h; exact ⟨Int.natCast_nonneg _, by dsimp only; omega⟩
theorem toksN_pl : ∀ (n : Nat) (s : ByteArray) (p : Nat) (acc : List Tok) (r : List Tok × Int × Int), toksN n s p acc = some r → p ≤ s.size → (∀ t ∈ acc, t.2.2 ≤ s.size) →
    (∀ t ∈ r.1, t.2.2 ≤ s.size) ∧ (r.2.2 ≠ 0 → 0 ≤ r.2.1 ∧ r.2.1 ≤ s.size ∧ r.2.2 = 4)
  | 0, s, p, acc, r, h, _, _ => by cases h
  | n + 1, s, p, acc, r, h, hp, ha => by
    obtain ⟨⟨t, b, e, q⟩, hr⟩ := nextF_some s p
    have hpl := nextF_pl hp hr
    simp only [toksN, hr, Option.bind_some] at h
    by_cases h0 : e = 0
    · rw [if_neg (by simp [h0])] at h
      cases b with
      | false => rw [if_pos rfl] at h; cases h; exact ⟨ha, fun h => absurd rfl h⟩
      | true =>
        rw [if_neg (by simp)] at h
        have h1 := nextF_le hp hr
        refine toksN_pl n s q _ r h h1.1 ?_
        intro x hx
        rcases List.mem_append.1 hx with hx | hx
        · exact ha x hx
        · rw [List.mem_singleton.1 hx]; exact hpl.2
    · rw [if_pos h0] at h; cases h
      refine ⟨(by intro t ht; cases ht), fun _ => ⟨hpl.1, hpl.2, ?_⟩⟩
      cases b with
      | true => exact absurd (nextF_ok hp hr).1 h0
      | false => exact (nextF_err hr).1.resolve_left h0
theorem toksT_pl {s : ByteArray} (hs : s.size ≤ 65536) : (∀ t ∈ (toksT s).1, t.2.2 ≤ s.size) ∧ ((toksT s).2.2 ≠ 0 → 0 ≤ (toksT s).2.1 ∧ (toksT s).2.1 ≤ s.size ∧ (toksT s).2.2 = 4) := by
  have h := toksT_eq s
  unfold toksF at h
  rw [if_neg (by omega)] at h
  exact toksN_pl _ _ _ _ _ h (Nat.zero_le _) (by intro t ht; cases ht)
section
variable {l : List Tok} {e : Int} (hP : ∀ t ∈ l, t.2.2 ≤ e)
include hP
theorem fail_ub {i : Nat} {bad : Int} (h : bad ≤ e) : failF l i e bad ≤ e := by
  unfold failF hereF
  split
  · split
    · rename_i t ht; exact hP _ (List.mem_of_getElem? ht)
    · exact Int.le_refl _
  · exact h
theorem take_ub {i : Nat} {bad k : Int} (h : bad ≤ e) : (takeF l i e bad k).2.2 ≤ e := by
  have hf := fail_ub hP (i := i) h
  unfold takeF
  split
  · exact h
  · split
    · split
      · exact h
      · exact hf
    · exact hf
theorem mark_ub {i : Nat} {bad : Int} {m : ByteArray} (h : bad ≤ e) : (markF l i e bad m).2 ≤ e := by
  have hf := fail_ub hP (i := i) h
  unfold markF
  split
  · exact h
  · exact hf
theorem num_ub {i : Nat} {bad : Int} (h : bad ≤ e) : (numT l i e bad).2.2 ≤ e := by
  have ht := take_ub hP (i := i) (k := 1) h
  have hf := fail_ub hP (i := i) ht
  have key : ∀ r, numberF l i e bad = some r → r.2.2 ≤ e := by
    intro r hr
    unfold numberF at hr
    repeat' split at hr
    all_goals first | (cases hr; first | exact ht | exact hf) | cases hr
  unfold numT
  cases hn : numberF l i e bad with
  | none => exact h
  | some r => exact key r hn
theorem count_ub {i : Nat} {bad : Int} (h : bad ≤ e) : (countF l i e bad).2.2 ≤ e := by
  have ht := take_ub hP (i := i) (k := 1) h
  have hf := fail_ub hP (i := i) ht
  unfold countF
  repeat' split
  all_goals first | exact ht | exact hf
theorem float_ub {i : Nat} {bad : Int} (h : bad ≤ e) : (floatF l i e bad).2.2 ≤ e := by
  have hA : (flA l i e bad).2 ≤ e := mark_ub hP h
  have hB : (flB l i e bad).2.2 ≤ e := take_ub hP hA
  unfold floatF
  split
  · exact hB
  · split
    · exact fail_ub hP hB
    · split
      · exact mark_ub hP (fail_ub hP hB)
      · exact mark_ub hP hB
theorem word_ub {i : Nat} {bad : Int} {w : ByteArray} (h : bad ≤ e) : (wordF l i e bad w).2.2 ≤ e := by
  have hf := fail_ub hP (i := i) h
  have hfl := float_ub hP (i := i + 1) h
  unfold wordF
  repeat' split
  all_goals first | exact h | exact hf | exact hfl
theorem value_ub {i : Nat} {bad : Int} (h : bad ≤ e) : (valueF l i e bad).2.2 ≤ e := by
  have hf := fail_ub hP (i := i) h
  have hn := num_ub hP (i := i) h
  have hw := fun w => word_ub hP (i := i) (w := w) h
  unfold valueF
  split
  · exact hf
  · split
    · exact hf
    · split
      · split
        · rename_i r hr
          unfold numT at hn
          rw [hr] at hn
          exact hn
        · exact h
      · split
        · exact h
        · split
          · exact hw _
          · exact hf
theorem namesGo_ub : ∀ (k c i : Nat) (bad : Int) (acc : List ByteArray), bad ≤ e → (namesGo l e k c i bad acc).2.2 ≤ e
  | 0, c, i, bad, acc, h => h
  | k + 1, c, i, bad, acc, h => by
    rw [namesGo]
    split
    · split
      · exact h
      · split
        · split
          · exact namesGo_ub k _ _ _ _ (take_ub hP (fail_ub hP (mark_ub hP h)))
          · exact namesGo_ub k _ _ _ _ (take_ub hP (mark_ub hP h))
        · exact namesGo_ub k _ _ _ _ (take_ub hP h)
    · exact h
theorem names_ub {i : Nat} {bad : Int} (h : bad ≤ e) : (namesF l i e bad).2.2 ≤ e := by
  obtain ⟨r, hr⟩ : ∃ r, namesR l i e bad = r := ⟨_, rfl⟩
  have h2 : r.2.2 ≤ e := by rw [← hr]; exact namesGo_ub hP 102 _ _ _ _ (mark_ub hP h)
  rw [names_eq hr]
  exact mark_ub hP h2
theorem paV_ub {i : Nat} {bad : Int} (h : bad ≤ e) : (paV l e i bad).2.2 ≤ e := value_ub hP (mark_ub hP (take_ub hP h))
theorem paperGo_ub : ∀ (k c i : Nat) (bad : Int) (acc : List Fld), bad ≤ e → (paperGo l e k c i bad acc).2.2 ≤ e
  | 0, c, i, bad, acc, h => h
  | k + 1, c, i, bad, acc, h => by
    rw [paperGo]
    split
    · split
      · exact h
      · split
        · split
          · exact paperGo_ub k _ _ _ _ (paV_ub hP (fail_ub hP (mark_ub hP h)))
          · exact paperGo_ub k _ _ _ _ (paV_ub hP (mark_ub hP h))
        · exact paperGo_ub k _ _ _ _ (paV_ub hP h)
    · exact h
theorem paper_ub {i : Nat} {bad : Int} (h : bad ≤ e) : (paperF l i e bad).2.2 ≤ e := by
  obtain ⟨r, hr⟩ : ∃ r, paperR l i e bad = r := ⟨_, rfl⟩
  have h2 : r.2.2 ≤ e := by rw [← hr]; exact paperGo_ub hP 102 _ _ _ _ (mark_ub hP (num_ub hP (take_ub hP h)))
  rw [paper_eq hr]
  exact mark_ub hP h2
theorem arg_ub {i : Nat} {bad k : Int} {b : ActM} (h : bad ≤ e) : (argT l e k b i bad).2.2 ≤ e := by
  have h1 := take_ub hP (i := i) (k := 2) h
  have h2 := names_ub hP (i := i) h
  have h3 := num_ub hP (i := i) h
  have h4 := count_ub hP (i := i) h
  have h5 := paper_ub hP (i := i) h
  unfold argT
  repeat' split
  all_goals first | exact h1 | exact h2 | exact h3 | exact h4 | exact h5 | exact h
theorem args_ub : ∀ (xs : List Int) (b : ActM) (i : Nat) (bad : Int), bad ≤ e → (argsGo l e xs b i bad).2.2 ≤ e
  | [], b, i, bad, h => h
  | x :: xs, b, i, bad, h => by rw [argsGo]; exact args_ub xs _ _ _ (arg_ub hP h)
theorem step_ub {i : Nat} {bad : Int} (h : bad ≤ e) : (stepF l i e bad).2.2 ≤ e := by
  have hw : (stepW l i e bad).2.2 ≤ e := take_ub hP h
  cases hF : formIx (stepW l i e bad).1 16 0 with
  | none => rw [stepF_none hF]; exact fail_ub hP hw
  | some k =>
    obtain ⟨r, hr⟩ : ∃ r, stepA l i e bad k = r := ⟨_, rfl⟩
    have h2 : r.2.2 ≤ e := by rw [← hr]; exact args_ub hP _ _ _ _ hw
    rw [stepF_some hF hr]
    exact mark_ub hP h2
theorem scriptN_ub : ∀ (n i : Nat) (bad : Int) (acc : List ActM), bad ≤ e → (scriptN l e n i bad acc).2.2 ≤ e
  | 0, i, bad, acc, h => h
  | n + 1, i, bad, acc, h => by
    rw [scriptN]
    split
    · split
      · exact scriptN_ub n _ _ _ (step_ub hP h)
      · exact h
    · exact h
end
theorem scripts_err {s : ByteArray} (hs : s.size ≤ 65536) (h : (scriptF s).2.2 ≠ 0) : (scriptF s).1 = none ∧ 0 ≤ (scriptF s).2.1 ∧ (scriptF s).2.1 ≤ s.size ∧ (scriptF s).2.2 = 4 := by
  obtain ⟨h1, h2⟩ := toksT_pl hs
  unfold scriptF at h ⊢
  split
  · rename_i hn
    exact ⟨rfl, h2 hn⟩
  · rename_i hn
    rw [if_neg hn] at h
    split
    · rename_i hb
      exact ⟨rfl, hb, scriptN_ub h1 _ _ _ _ (by omega), rfl⟩
    · rename_i hb
      rw [if_neg hb] at h
      exact absurd rfl h
theorem scripts_some {s : ByteArray} (h : (scriptF s).2.2 = 0) : ∃ ss, scriptF s = (some ss, 0, 0) := by
  unfold scriptF at h ⊢
  split
  · rename_i hn
    rw [if_pos hn] at h
    exact absurd h hn
  · rename_i hn
    rw [if_neg hn] at h
    split
    · rename_i hb; rw [if_pos hb] at h; cases h
    · exact ⟨_, rfl⟩
end Go.Dl
