/- Plain law: a value as a script says it is read again, whatever stands behind; The walk of SayValues. -/
import Derived.Test.YtbefgbljlmnfoaaE17
namespace Go.Dl
open Go.RowKit
open Go.Proofs
set_option linter.unusedVariables false

theorem lex_word {a r : ByteArray} (h0 : 0 < a.size) (hl : isLetter (byt a 0) = true) (ha : ∀ j, j < a.size → isWordC (byt a j) = true) (hs : stops isWordC r) : lexes (a ++ r) 0 [(0, a, 0)] a.size := by
  have hT : 0 < (a ++ r).size := by rw [ByteArray.size_append]; omega
  have hr : runF isWordC (a ++ r) 0 = a.size := runF_app hs a.size 0 (by omega) (by omega) (fun j _ h => ha j h)
  have h := next_word (T := a ++ r) (o := 0) hT (by rw [byt_app_l h0]; exact hl)
  rw [hr, ext_app (Nat.le_refl _), ext_all] at h
  exact lexes_one h
theorem lex_num {a r : ByteArray} (h0 : 0 < a.size) (hf : isDigit (byt a 0) = true ∨ byt a 0 = 45) (ha : ∀ j, 1 ≤ j → j < a.size → isDigit (byt a j) = true) (hd : strEq a dash = false) (hs : stops isDigit r) : lexes (a ++ r) 0 [(1, a, 0)] a.size := by
  have hT : 0 < (a ++ r).size := by rw [ByteArray.size_append]; omega
  have hr : runF isDigit (a ++ r) (0 + 1) = a.size := runF_app hs a.size 1 (by omega) (by omega) (fun j h1 h => ha j h1 h)
  have h := next_num (T := a ++ r) (o := 0) hT (by rw [byt_app_l h0]; exact hf) (by rw [hr, ext_app (Nat.le_refl _), ext_all]; exact hd)
  rw [hr, ext_app (Nat.le_refl _), ext_all] at h
  exact lexes_one h
theorem strEq_byt {a b : ByteArray} (h : strEq a b = true) : byt a 0 = byt b 0 := by
  rw [strEq_iff, ByteArray.toList_eq, ByteArray.toList_eq] at h
  unfold byt
  rw [h]
theorem dec_byt {m j : Nat} (hm : m < 18446744073709551616) (h : j < (decB m).size) : isDigit (byt (decB m) j) = true := by
  unfold byt
  have h' : j < (decG 20 m).length := by rw [← decB_len]; exact h
  rw [decB_data, List.getD_eq_getElem?_getD, List.getElem?_eq_getElem h', Option.getD_some]
  exact decG_digits 20 m (pow21 hm) _ (List.getElem_mem h')
theorem dec_pos (m : Nat) : 0 < (decB m).size := by rw [decB_len]; exact decG_pos 20 m
theorem dig_not45 {c : Int} (h : isDigit c = true) : ¬ c = 45 := by
  simp only [isDigit, Bool.and_eq_true, decide_eq_true_eq] at h; omega
theorem lex_whole {n : Int} (h1 : -9223372036854775808 ≤ n) (h2 : n ≤ 9223372036854775807) {r : ByteArray} (hs : stops isDigit r) : lexes (wholeB n ++ r) 0 [(1, wholeB n, 0)] (wholeB n).size := by
  unfold wholeB
  split
  · rename_i hn
    generalize hm : (-n).toNat = m
    have hml : m < 18446744073709551616 := by omega
    have hp := dec_pos m
    have hsz : (dash ++ decB m).size = 1 + (decB m).size := by rw [ByteArray.size_append]; rfl
    refine lex_num (by omega) (.inr (by rw [byt_app_l (show 0 < dash.size by decide)]; rfl)) (fun j hj1 hj => ?_) (strEq_ne (by rw [hsz]; show 1 + _ ≠ 1; omega)) hs
    have := byt_app_r dash (decB m) (j - 1)
    rw [show dash.size + (j - 1) = j by show 1 + (j - 1) = j; omega] at this
    rw [this]
    exact dec_byt hml (by omega)
  · generalize hm : n.toNat = m
    have hml : m < 18446744073709551616 := by omega
    have hp := dec_pos m
    have h0 := dec_byt hml hp
    refine lex_num hp (.inl h0) (fun j hj1 hj => dec_byt hml hj) ?_ hs
    cases he : strEq (decB m) dash with
    | false => rfl
    | true => exact absurd (strEq_byt he) (dig_not45 h0)

/-- The tokens of a value. -/
def tokV (v : Val) : List Tok :=
  if v.1 = 0 then [(0, nullW, 0)] else if v.1 = 1 then (if v.2.1 = true then [(0, trueW, 0)] else [(0, falseW, 0)]) else if v.1 = 2 then [(1, wholeB v.2.2.1, 0)]
  else if v.1 = 3 then [(0, floatW, 0), (3, lpar, 5), (2, hexB v.2.2.2.1.toNat, 6), (3, rpar, ((6 + (quotedF (hexB v.2.2.2.1.toNat)).size : Nat) : Int))] else [(2, v.2.2.2.2, 0)]
theorem lex_float (h r : ByteArray) : lexes (floatP ++ quotedF h ++ rpar ++ r) 0 [(0, floatW, 0), (3, lpar, 5), (2, h, 6), (3, rpar, ((6 + (quotedF h).size : Nat) : Int))] (6 + (quotedF h).size + 1) := by
  have hq := quoted_ge h
  have e1 : floatP ++ quotedF h ++ rpar ++ r = floatW ++ (lpar ++ (quotedF h ++ (rpar ++ r))) := by
    rw [show floatP = floatW ++ lpar from by apply ByteArray.ext; rfl]
    simp only [ByteArray.append_assoc]
  have e2 : floatP ++ quotedF h ++ rpar ++ r = floatP ++ (quotedF h ++ (rpar ++ r)) := by simp only [ByteArray.append_assoc]
  have e3 : floatP ++ quotedF h ++ rpar ++ r = (floatP ++ quotedF h) ++ (rpar ++ r) := by simp only [ByteArray.append_assoc]
  have hsz : (floatP ++ quotedF h ++ rpar ++ r).size = 6 + (quotedF h).size + 1 + r.size := by simp only [ByteArray.size_append]; rfl
  generalize hT : floatP ++ quotedF h ++ rpar ++ r = T at e1 e2 e3 hsz
  have l1 : lexes T 0 [(0, floatW, 0)] 5 := by
    rw [e1]
    refine lex_word (by decide) (by decide) (by decide +kernel) fun _ => ?_
    rw [byt_app_l (show 0 < lpar.size by decide)]; decide
  have b5 : byU T 5 = 40 := by rw [e1]; exact byU_app_r floatW _ 0
  have l2 : lexes T 5 [(3, lpar, 5)] 6 := by
    have hx := next_mark (T := T) (o := 5) (by omega) (m := 40) (by rw [byt_byU, b5]; rfl) (by decide) (by decide) (by decide) (by decide) (by decide) (by decide) (by decide +kernel)
    rw [ext1 (by omega), b5] at hx
    exact lexes_one hx
  have l3 : lexes T 6 [(2, h, 6)] (6 + (quotedF h).size) := by
    refine lex_quote (by omega) fun j hj => ?_
    rw [e2]
    have := byU_app_r floatP (quotedF h ++ (rpar ++ r)) j
    rw [show floatP.size = 6 from rfl] at this
    rw [this, byU_app_l hj]
  have b6 : byU T (6 + (quotedF h).size) = 41 := by
    rw [e3]
    have := byU_app_r (floatP ++ quotedF h) (rpar ++ r) 0
    rw [show (floatP ++ quotedF h).size = 6 + (quotedF h).size by rw [ByteArray.size_append]; rfl] at this
    rw [Nat.add_zero] at this
    rw [this, byU_app_l (show 0 < rpar.size by decide)]; rfl
  have l4 : lexes T (6 + (quotedF h).size) [(3, rpar, ((6 + (quotedF h).size : Nat) : Int))] (6 + (quotedF h).size + 1) := by
    have hx := next_mark (T := T) (o := 6 + (quotedF h).size) (by omega) (m := 41) (by rw [byt_byU, b6]; rfl) (by decide) (by decide) (by decide) (by decide) (by decide) (by decide) (by decide +kernel)
    rw [ext1 (by omega), b6] at hx
    exact lexes_one hx
  exact lexes_app l1 (lexes_app l2 (lexes_app l3 l4))
theorem lex_value {v : Val} (h0 : 0 ≤ v.1) (h4 : v.1 ≤ 4) (hp : valPre v) {r : ByteArray} (hs : sep r) : lexes (valueB v ++ r) 0 (tokV v) (valueB v).size := by
  obtain ⟨hn1, hn2⟩ := i64_rng hp.1
  unfold valueB tokV
  split
  · exact lex_word (by decide) (by decide) (by decide +kernel) (sep_word hs)
  split
  · split
    · exact lex_word (by decide) (by decide) (by decide +kernel) (sep_word hs)
    · exact lex_word (by decide) (by decide) (by decide +kernel) (sep_word hs)
  split
  · exact lex_whole hn1 hn2 (sep_dig hs)
  split
  · have := lex_float (hexB v.2.2.2.1.toNat) r
    rw [show (floatP ++ quotedF (hexB v.2.2.2.1.toNat) ++ rpar).size = 6 + (quotedF (hexB v.2.2.2.1.toNat)).size + 1 by simp only [ByteArray.size_append]; rfl]
    exact this
  · rw [if_pos (by omega)]
    have hq := lex_quote (s := v.2.2.2.2) (T := quotedF v.2.2.2.2 ++ r) (o := 0) (by rw [ByteArray.size_append]; omega) (fun j hj => by rw [Nat.zero_add, byU_app_l hj])
    rw [Nat.zero_add] at hq
    exact hq

theorem take_hit {l : List Tok} {i : Nat} {e bad k : Int} {t : Tok} (hb : bad < 0) (ht : l[i]? = some t) (hk : t.1 = k) : takeF l i e bad k = (t.2.1, i + 1, bad) := by
  unfold takeF
  rw [if_neg (by omega), ht]
  simp only [if_pos hk]
theorem peek_hit {l : List Tok} {i : Nat} {bad : Int} {m : ByteArray} {p : Int} (hb : bad < 0) (ht : l[i]? = some (3, m, p)) : peekF l i bad m = true := by
  unfold peekF
  rw [ht]
  simp [hb, strEq_same]
theorem mark_hit {l : List Tok} {i : Nat} {e bad : Int} {m : ByteArray} {p : Int} (hb : bad < 0) (ht : l[i]? = some (3, m, p)) : markF l i e bad m = (i + 1, bad) := by
  unfold markF
  rw [peek_hit hb ht]; rfl
theorem number_read {n : Int} (h1 : -9223372036854775808 ≤ n) (h2 : n ≤ 9223372036854775807) {l : List Tok} {i : Nat} {e bad p : Int} (hb : bad < 0) (ht : l[i]? = some (1, wholeB n, p)) : numberF l i e bad = some (n, i + 1, bad) := by
  have hT := take_hit (e := e) hb ht (rfl : (1 : Int) = 1)
  unfold numberF
  rw [hT]
  dsimp only
  rw [if_neg (by omega)]
  unfold wholeB
  split
  · rename_i hn
    obtain ⟨m, hm, hm0⟩ : ∃ m : Nat, n = -(m : Int) ∧ 0 < m := ⟨(-n).toNat, by omega, by omega⟩
    subst hm
    rw [show (- -(m : Int)).toNat = m from by omega]
    have hml : m < 18446744073709551616 := by omega
    have hd := digits_dec hml
    have hsz : (dash ++ decB m).size = 1 + (decB m).size := by rw [ByteArray.size_append]; rfl
    have hds := decB_size m
    have he : (dash ++ decB m).extract 1 (dash ++ decB m).size = decB m := by
      rw [hsz]; exact ext_r dash (decB m)
    rw [if_pos ⟨by omega, by omega⟩, if_pos (by rw [byt_app_l (show 0 < dash.size by decide)]; rfl), he, hd]
    have ho : overF true (m : Int) true = false := by
      simp only [overF, Bool.not_true, Bool.false_or, Bool.false_and, Bool.true_and, Bool.or_eq_false_iff, decide_eq_false_iff_not]; omega
    dsimp only
    rw [ho, if_neg (by simp)]
    have hw : IntKind.wrap .u64 (0 - (m : Int)) = 18446744073709551616 - (m : Int) := by
      unfold IntKind.wrap
      simp [IntKind.bits, IntKind.signed]
      omega
    have hw2 : IntKind.wrap .i64 (18446744073709551616 - (m : Int)) = -(m : Int) := by
      unfold IntKind.wrap
      simp [IntKind.bits, IntKind.signed]
      omega
    rw [hw, hw2]
  · obtain ⟨m, hm⟩ : ∃ m : Nat, n = (m : Int) := ⟨n.toNat, by omega⟩
    subst hm
    rw [Int.toNat_natCast]
    have hml : m < 18446744073709551616 := by omega
    have hd := digits_dec hml
    have hds := decB_size m
    have hp := dec_pos m
    rw [if_pos ⟨hp, by omega⟩, if_neg (dig_not45 (dec_byt hml hp)), hd]
    have ho : overF false (m : Int) true = false := by
      simp only [overF, Bool.not_true, Bool.not_false, Bool.false_or, Bool.false_and, Bool.true_and, Bool.or_false, decide_eq_false_iff_not]; omega
    dsimp only
    rw [ho, if_neg (by simp), show IntKind.wrap .i64 (m : Int) = (m : Int) from wrap_i64 _ (by omega) (by omega)]
theorem value_word (w : ByteArray) (m : List Tok) : valueF ((0, w, 0) :: m) 0 0 (-1) = wordF ((0, w, 0) :: m) 0 0 (-1) w := by
  unfold valueF
  rw [if_neg (by decide)]
  rfl
/-- What is read of a value. -/
def wantV (v : Val) : Val := (v.1, if v.1 = 1 then v.2.1 else false, if v.1 = 2 then v.2.2.1 else 0, if v.1 = 3 then v.2.2.2.1 else 0, if v.1 = 4 then v.2.2.2.2 else noText)
theorem read_value {v : Val} (h0 : 0 ≤ v.1) (h4 : v.1 ≤ 4) (hp : valPre v) (m : List Tok) : valueF (tokV v ++ m) 0 0 (-1) = (wantV v, (tokV v).length, -1) := by
  obtain ⟨hn1, hn2⟩ := i64_rng hp.1
  obtain ⟨hb1, hb2⟩ := u64_rng hp.2.1
  obtain ⟨k, fl, n, b, t⟩ := v
  dsimp only at h0 h4 hn1 hn2 hb1 hb2
  unfold tokV wantV
  dsimp only
  by_cases k0 : k = 0
  · subst k0
    show valueF ((0, nullW, 0) :: m) 0 0 (-1) = (val0, 1, -1)
    rw [value_word, wordF, if_pos (by decide +kernel)]
  by_cases k1 : k = 1
  · subst k1
    cases fl with
    | false =>
      show valueF ((0, falseW, 0) :: m) 0 0 (-1) = ((1, false, 0, 0, noText), 1, -1)
      rw [value_word, wordF, if_neg (by decide +kernel), if_neg (by decide +kernel), if_pos (by decide +kernel)]
    | true =>
      show valueF ((0, trueW, 0) :: m) 0 0 (-1) = ((1, true, 0, 0, noText), 1, -1)
      rw [value_word, wordF, if_neg (by decide +kernel), if_pos (by decide +kernel)]
  by_cases k2 : k = 2
  · subst k2
    have hN := number_read (l := [(1, wholeB n, 0)] ++ m) (i := 0) (e := 0) (bad := -1) (p := 0) hn1 hn2 (by decide) rfl
    rw [if_neg (by decide), if_neg (by decide), if_pos rfl]
    unfold valueF
    rw [if_neg (by decide)]
    simp only [Z23, Z12, Z1, if_true]
    simp only [Z23, Z12] at hN
    rw [hN]
    rfl
  by_cases k3 : k = 3
  · subst k3
    obtain ⟨c, rfl⟩ : ∃ c : Nat, b = (c : Int) := ⟨b.toNat, by omega⟩
    rw [if_neg (by decide), if_neg (by decide), if_neg (by decide), if_pos rfl, Int.toNat_natCast]
    generalize hl : [((0, floatW, 0) : Tok), (3, lpar, 5), (2, hexB c, 6), (3, rpar, ((6 + (quotedF (hexB c)).size : Nat) : Int))] ++ m = l
    have g0 : l[0]? = some (0, floatW, 0) := by rw [← hl]; rfl
    have g1 : l[1]? = some (3, lpar, 5) := by rw [← hl]; rfl
    have g2 : l[2]? = some (2, hexB c, 6) := by rw [← hl]; rfl
    have g3 : l[3]? = some (3, rpar, ((6 + (quotedF (hexB c)).size : Nat) : Int)) := by rw [← hl]; rfl
    have a1 : flA l 1 0 (-1) = (2, -1) := mark_hit (by decide) g1
    have a2 : flB l 1 0 (-1) = (hexB c, 3, -1) := by unfold flB; rw [a1]; exact take_hit (by decide) g2 rfl
    have a3 : markF l 3 0 (-1) rpar = (4, -1) := mark_hit (by decide) g3
    have hF : floatF l 1 0 (-1) = ((3, false, 0, (c : Int), noText), 4, -1) := by
      unfold floatF
      rw [a2]
      dsimp only
      rw [if_neg (by decide), bits_hex (by omega)]
      dsimp only
      rw [strEq_ne (show (hexB c).size ≠ noText.size from by show ((hexN 16 c).toArray).size ≠ 0; rw [List.size_toArray, hexN_len]; decide), if_neg (by simp), a3]
    unfold valueF
    rw [if_neg (by decide), g0]
    simp only [show ((0 : Int) = 1) = False from by simp, show ((0 : Int) = 2) = False from by simp, if_false, if_true]
    unfold wordF
    rw [if_neg (by decide +kernel), if_neg (by decide +kernel), if_neg (by decide +kernel), if_pos (by decide +kernel), hF]
    rfl
  · obtain rfl : k = 4 := by omega
    rfl
end Go.Dl

namespace Go.Dl
open Go.RowKit
open Go.Proofs
set_option linter.unusedSimpArgs false
set_option linter.unusedVariables false

theorem ft39 : flatT Try.prog 39 = some [(.int .i64), .bool, (.int .i64), (.int .u64), .str] := by kernel_rfl
theorem want_clean {v : Val} (h0 : 0 ≤ v.1) (h4 : v.1 ≤ 4) (h3 : ¬ v.1 = 3) : cleanF v = wantV v := by
  obtain ⟨k, fl, n, b, t⟩ := v
  dsimp only at h0 h4 h3
  unfold cleanF wantV
  dsimp only
  by_cases k1 : k = 1
  · subst k1; simp
  by_cases k2 : k = 2
  · subst k2; simp
  by_cases k4 : k = 4
  · subst k4; simp
  · have : k = 0 := by omega
    subst this; simp
theorem value_le {v : Val} (hp : v.2.2.2.2.size ≤ 500) (hn : inR .i64 v.2.2.1 = true) : (valueB v).size ≤ 3000 := by
  have hw : (wholeB v.2.2.1).size ≤ 22 := by
    unfold wholeB
    split
    · have := decB_size (-v.2.2.1).toNat
      rw [ByteArray.size_append]; show 1 + _ ≤ 22; omega
    · have := decB_size v.2.2.1.toNat; omega
  have hq := quoted_le v.2.2.2.2
  have hh := quoted_le (hexB v.2.2.2.1.toNat)
  have hx16 : (hexB v.2.2.2.1.toNat).size = 16 := by show ((hexN 16 _).toArray).size = 16; rw [List.size_toArray, hexN_len]
  unfold valueB
  split
  · decide
  split
  · split <;> decide
  split
  · omega
  split
  · rw [ByteArray.size_append, ByteArray.size_append]; show 6 + _ + 1 ≤ 3000; omega
  split
  · omega
  · decide
theorem take_read {l m : List Tok} {v : Val} (h0 : 0 ≤ v.1) (h4 : v.1 ≤ 4) (hp : valPre v) (hl : l = tokV v ++ m) : takeV l = (wantV v, ((tokV v).length : Int), true) := by
  unfold takeV
  rw [hl, read_value h0 h4 hp m]
  rfl
noncomputable def FsWe : Fs := { Fs.none with pure := fun k => if k = 10 then some pCut else if k = 11 then some pToksZ else if k = 16 then some pValueB else if k = 17 then some pValueB else if k = 18 then some pTakeV else if k = 19 then some pClean else if k = 13 then some pAwake else none }
theorem okWe : FsOK Try.prog FsWe := by
  refine ⟨fun k f h => ?_, fun _ _ h => (by cases h)⟩
  simp only [FsWe] at h
  split at h
  · rename_i hk; subst hk; cases h; exact ⟨by kernel_rfl, meets10⟩
  split at h
  · rename_i hk; subst hk; cases h; exact ⟨by kernel_rfl, meets11Z⟩
  split at h
  · rename_i hk; subst hk; cases h; exact ⟨by kernel_rfl, meets16⟩
  split at h
  · rename_i hk; subst hk; cases h; exact ⟨by kernel_rfl, meets17⟩
  split at h
  · rename_i hk; subst hk; cases h; exact ⟨by kernel_rfl, meets18⟩
  split at h
  · rename_i hk; subst hk; cases h; exact ⟨by kernel_rfl, meets19⟩
  split at h
  · rename_i hk; subst hk; cases h; exact ⟨by kernel_rfl, meets13⟩
  · cases h
noncomputable def pSayValues : List D → Option D := famP (fun x : Val × ByteArray => inR .i64 x.1.2.2.1 = true ∧ inR .u64 x.1.2.2.2.1 = true ∧ x.1.2.2.2.2.size ≤ maxStr ∧ x.2.size ≤ maxStr) (fun x => [.agg (valC x.1), .c (.v (.string x.2))]) (fun _ => dB true)
theorem values_law (v : Val) (s : ByteArray) (h1 : inR .i64 v.2.2.1 = true) (h2 : inR .u64 v.2.2.2.1 = true) (h3 : v.2.2.2.2.size ≤ maxStr) (h4 : s.size ≤ maxStr) : pSayValues [.agg (valC v), .c (.v (.string s))] = some (.c (.v (.bool true))) :=
  famP_at (fun _ _ _ => rfl) (v, s) ⟨h1, h2, h3, h4⟩ rfl
set_option maxRecDepth 100000 in
set_option maxHeartbeats 4000000 in
theorem meets6 : Meets Try.prog 6 (pureS pSayValues) := by
  refine meets_famP (show Try.prog.funcs[6]? = some Try.f6 by kernel_rfl) rfl (n := 89) rfl (rs := [ResultVar.tmp 4]) rfl ?_
  rintro ⟨⟨k, fl, n, b, t0⟩, s0⟩ ⟨hn, hb, ht0, hs0⟩ Q hQ
  dsimp only at hn hb ht0 hs0
  have hC1 := cut_at t0 ht0
  have hC2 := cut_at s0 hs0
  obtain ⟨t, ht, htz⟩ : ∃ t, (if 500 < (t0.size : Int) then t0.extract 0 500 else t0) = t ∧ t.size ≤ 500 := by
    refine ⟨_, rfl, ?_⟩
    split
    · rw [ByteArray.size_extract]; omega
    · omega
  obtain ⟨s, hs, hsz⟩ : ∃ s, (if 500 < (s0.size : Int) then s0.extract 0 500 else s0) = s ∧ s.size ≤ 500 := by
    refine ⟨_, rfl, ?_⟩
    split
    · rw [ByteArray.size_extract]; omega
    · omega
  rw [ht] at hC1
  rw [hs] at hC2
  have hpre : valPre (k, fl, n, b, t) := ⟨hn, hb, by dsimp only; omega⟩
  have hV := valueB_at (k, fl, n, b, t) hpre
  have hVz := value_le (v := (k, fl, n, b, t)) htz hn
  have hCl := clean_at (k, fl, n, b, t)
  have hsep : sep ((⟨#[32, 59]⟩ : ByteArray) ++ s) := .inr rfl
  have hsep0 : sep ⟨#[]⟩ := .inl rfl
  have hz2 : (⟨#[32, 59]⟩ : ByteArray).size = 2 := rfl
  have hlex := fun (h0 : 0 ≤ k) (h4 : k ≤ 4) => lex_value (v := (k, fl, n, b, t)) h0 h4 hpre hsep
  have hlex0 := fun (h0 : 0 ≤ k) (h4 : k ≤ 4) => lex_value (v := (k, fl, n, b, t)) h0 h4 hpre hsep0
  have hread := fun (h0 : 0 ≤ k) (h4 : k ≤ 4) (l m : List Tok) => take_read (l := l) (m := m) (v := (k, fl, n, b, t)) h0 h4 hpre
  have hwc := fun (h0 : 0 ≤ k) (h4 : k ≤ 4) => want_clean (v := (k, fl, n, b, t)) h0 h4
  simp only [valC] at hV hCl ⊢
  generalize hx : valueB (k, fl, n, b, t) = x at hV hVz hlex hlex0
  have hA1 : x.size + 2 ≤ maxStr := by unfold maxStr; omega
  have hA2 : (x ++ ⟨#[32, 59]⟩).size + s.size ≤ maxStr := by rw [ByteArray.size_append, hz2]; unfold maxStr; omega
  have hTz : (x ++ ⟨#[32, 59]⟩ ++ s).size ≤ 65536 := by rw [ByteArray.size_append, ByteArray.size_append, hz2]; omega
  have hT := toks_at (x ++ ⟨#[32, 59]⟩ ++ s) (by omega)
  have hTx := toks_at x (by omega)
  have hc0 : ((0 : Nat) : Int) = 0 := rfl
  by_cases he : (toksT (x ++ ⟨#[32, 59]⟩ ++ s)).2.2 = 0
  · by_cases hk : 0 ≤ k ∧ k ≤ 4
    · have hl := hlex hk.1 hk.2
      rw [← ByteArray.append_assoc] at hl
      obtain ⟨m, hm⟩ := toks_ahead hTz (by rw [ByteArray.size_append, ByteArray.size_append]; omega) hl he
      have hok := toks_pre (s := x ++ ⟨#[32, 59]⟩ ++ s) (by omega) (Nat.zero_le _)
      have hTV := takeV_at (toksT (x ++ ⟨#[32, 59]⟩ ++ s)).1 ⟨hok.1, hok.2.1, Int.le_refl 0, hok.2.2.2⟩
      rw [hread hk.1 hk.2 _ m hm] at hTV
      have hlx := hlex0 hk.1 hk.2
      rw [show x ++ (⟨#[]⟩ : ByteArray) = x from by apply ByteArray.ext; rw [ByteArray.data_append]; simp] at hlx
      rw [toks_whole (by omega) hlx] at hTx
      dsimp only at hTx hTV
      rw [he] at hT
      generalize (toksT (x ++ ⟨#[32, 59]⟩ ++ s)).1 = l at hT hTV
      generalize (toksT (x ++ ⟨#[32, 59]⟩ ++ s)).2.1 = a at hT
      generalize hml : (tokV (k, fl, n, b, t)) = tv at hTx hTV
      have htv : tv.length ≤ maxStr := by
        have : tv.length ≤ 4 := by rw [← hml]; unfold tokV; (repeat' split) <;> simp
        unfold maxStr; omega
      have hk4 : ¬ 4 < k := by omega
      have hk0 : ¬ k < 0 := by omega
      by_cases hk3 : k = 3
      · subst hk3
        have hw : wantV (3, fl, n, b, t) = (3, false, 0, b, noText) := by unfold wantV; simp
        rw [hw] at hTV
        obtain ⟨y, hy⟩ : ∃ y, cleanF (3, fl, n, b, t) = (3, false, 0, y, noText) := by
          unfold cleanF
          dsimp only
          rw [if_neg (by decide), if_neg (by decide), if_pos rfl]
          split
          · exact ⟨_, rfl⟩
          · exact ⟨_, rfl⟩
        rw [hy] at hCl
        dsimp only at hCl hTV
        simp only [valC] at hTV
        refine seq_run okWe rfl (by repeat (first | with_reducible exact runf_nil | refine runf_cons (by simp only [xstep, stepf, stepx, qev, St.ev, St.put, St.with, D.cells, boxA, C.st, constD, constC, Z1, Z5, Z6, List.replicate, Z9, Z10, Z23, Z12, Z16, Z18, Z8, Z4, Nat.reduceAdd, Nat.reduceSub, if_true, Z3, Z14, Z26, eq_self]; rfl) ?_)) ?_
        refine seq_run okWe rfl (by repeat (first | with_reducible exact runf_nil | refine runf_cons (by simp only [xstep, stepf, stepx, evsA, qev, St.ev, St.put, St.with, D.cells, qload, cellsAt, qmk, C.cpy, TK.agg, qfieldAddr, liveR, C.st, C.cp, C.dat, storeA, putCells, Z1, Z2, Z5, Z6, Z9, Z10, Z23, Z12, Z15, Z13, Z24, Z16, Z18, Z17, Z20, Z19, Z21, Z8, Z4, Nat.reduceAdd, Nat.reduceEqDiff, if_true, if_false, and_self, Z3, ne_eq, not_false_eq_true, reduceCtorEq, Nat.le_refl, Z7, implies_true, Z14, Z26, Bool.true_or, callP, Fs.none, argDs, argD, argC, settle, settle1, settleC, Z25, FsWe, hC1, eq_self, tk39, tsz9, tk9]; rfl) ?_)) ?_
        refine seq_run okWe rfl (by repeat (first | with_reducible exact runf_nil | refine runf_cons (by simp only [xstep, stepf, stepx, evsA, qev, St.ev, St.put, St.with, C.cpy, C.cp, C.dat, Z1, Z2, Z5, Z6, Z15, Z13, Z4, Nat.reduceEqDiff, if_true, if_false, Z3, Z26, Bool.true_or, callP, Fs.none, argDs, argD, argC, settle, settle1, settleC, Z25, FsWe, hC2, eq_self]; rfl) ?_)) ?_
        refine seq_run okWe rfl (by repeat (first | with_reducible exact runf_nil | refine runf_cons (by simp only [xstep, stepf, stepx, evsA, qev, St.ev, St.put, St.with, qload, cellsAt, qmk, C.cpy, TK.agg, C.cp, C.dat, Z1, Z2, Z5, Z6, Z9, Z10, Z15, Z13, Z24, Z16, Z18, Z17, Z20, Z21, Z8, Z4, Nat.reduceAdd, Nat.reduceEqDiff, if_true, if_false, and_self, Z3, Z14, Z26, Bool.true_or, callP, Fs.none, argDs, argD, argC, argCs, settle, settle1, settleC, Z25, FsWe, hV, eq_self, tk39, tsz39]; rfl) ?_)) ?_
        refine seq_in ?_
        refine seq_run okWe rfl (by repeat (first | with_reducible exact runf_nil | refine runf_cons (by simp only [xstep, stepf, stepx, evsA, qev, St.ev, St.put, St.with, qload, cellsAt, qmk, C.cpy, TK.agg, qstr, qbin, C.cp, C.dat, Z1, Z2, Z5, Z6, Z9, Z10, Z15, Z13, Z24, Z16, Z18, Z17, Z20, Z21, Z8, Z4, Nat.reduceAdd, Nat.reduceEqDiff, if_true, if_false, and_self, Bool.not_true, Z3, Z14, Z26, Bool.true_or, callP, Fs.none, argDs, argD, argC, argCs, settle, settle1, settleC, Z25, FsWe, hV, strEq_same, eq_self, tk39, tsz39]; rfl) ?_)) ?_
        refine tri_cond (b := false) rfl (fun h => by cases h) (fun _ => ?_)
        refine then_skip ?_
        refine seq_run okWe rfl (by repeat (first | with_reducible exact runf_nil | refine runf_cons (by simp only [xstep, stepf, stepx, evsA, qev, St.ev, St.put, St.with, C.cpy, qstr, qbin, qext, C.cp, C.dat, constD, constC, Z1, Z2, Z5, Z6, Z15, Z13, Z8, Z4, Nat.reduceEqDiff, if_true, if_false, Z3, Z26, Bool.true_or, callP, Fs.none, argDs, argD, argC, settle, settle1, settleC, settleDs, Z25, FsWe, hT, hA1, hA2, hz2, eq_self]; rfl) ?_)) ?_
        refine seq_in ?_
        refine seq_run okWe rfl (by repeat (first | with_reducible exact runf_nil | refine runf_cons (by simp only [xstep, stepf, stepx, qev, St.ev, St.put, qload, cellsAt, qmk, C.cpy, TK.agg, qfieldAddr, qpick, qint, qshift, isShift, qbin, liveR, C.cp, constD, constC, Z1, Z2, Z5, Z6, Z9, Z10, Z13, Z24, Z16, Z18, Z17, Z20, Z21, Z8, Z4, Z11, if_true, if_false, and_self, decide_true, decide_false, Bool.not_true, cond_false, Z22, Z3, reduceCtorEq, Z7, Nat.add_zero, Z14, Z26, hk4, hk0, eq_self, tk39, tsz3, tk3]; rfl) ?_)) ?_
        refine tri_cond (b := false) rfl (fun h => by cases h) (fun _ => ?_)
        refine then_skip ?_
        refine seq_run okWe rfl (by repeat (first | with_reducible exact runf_nil | refine runf_cons (by simp only [xstep, stepf, stepx, evsA, qev, St.ev, St.put, St.with, D.cells, boxA, C.cpy, qext, C.st, C.cp, C.dat, storeA, putCells, Z1, Z2, Z5, Z6, Z9, Z10, Z23, Z12, Z15, Z13, Z16, Z18, Z20, Z19, Z21, Z8, Z4, Nat.reduceAdd, Nat.reduceEqDiff, if_true, if_false, and_self, Z3, ne_eq, not_false_eq_true, reduceCtorEq, Nat.le_refl, Z7, implies_true, Z14, Z26, Bool.true_or, callP, Fs.none, argDs, argD, argC, settle, settle1, settleC, settleDs, settleCs, Z25, dB, FsWe, hTV, eq_self, tsz39, tz39]; rfl) ?_)) ?_
        refine seq_run okWe rfl (by repeat (first | with_reducible exact runf_nil | refine runf_cons (by simp only [xstep, stepf, stepx, evsA, qev, St.ev, St.put, St.with, C.cpy, qext, C.cp, C.dat, Z1, Z2, Z5, Z6, Z15, Z13, Z8, Z4, Nat.reduceEqDiff, if_true, if_false, Z3, Z26, Bool.true_or, callP, Fs.none, argDs, argD, argC, settle, settle1, settleC, settleDs, Z25, FsWe, hTx, eq_self]; rfl) ?_)) ?_
        refine seq_run okWe rfl (by repeat (first | with_reducible exact runf_nil | refine runf_cons (by simp only [xstep, stepf, stepx, evsA, qev, St.ev, St.put, St.with, D.cells, boxA, qload, cellsAt, qmk, C.cpy, TK.agg, C.st, C.cp, C.dat, storeA, putCells, Z1, Z2, Z5, Z6, Z9, Z10, Z23, Z12, Z15, Z13, Z24, Z16, Z18, Z17, Z20, Z19, Z21, Z8, Z4, Nat.reduceAdd, Nat.reduceEqDiff, if_true, if_false, and_self, Z3, ne_eq, not_false_eq_true, reduceCtorEq, Nat.le_refl, Z7, implies_true, Z14, Z26, Bool.true_or, callP, Fs.none, argDs, argD, argC, argCs, settle, settle1, settleC, settleCs, Z25, FsWe, hCl, eq_self, tk39, tsz39, tz39]; rfl) ?_)) ?_
        refine seq_in ?_
        refine seq_run okWe rfl (by repeat (first | with_reducible exact runf_nil | refine runf_cons (by simp only [xstep, stepf, stepx, qev, St.ev, St.put, qload, cellsAt, qmk, C.cpy, TK.agg, qfieldAddr, qint, qshift, isShift, qbin, liveR, C.cp, constD, constC, Z1, Z2, Z5, Z6, Z9, Z10, Z13, Z24, Z16, Z18, Z17, Z20, Z21, Z8, Z4, Z11, if_true, if_false, and_self, decide_true, Z3, reduceCtorEq, Z7, Nat.add_zero, Z14, Z26, eq_self, tk39, tsz3, tk3]; rfl) ?_)) ?_
        refine tri_cond (b := true) rfl (fun _ => ?_) (fun h => by cases h)
        refine run_end okWe rfl (by repeat (first | with_reducible exact runf_nil | refine runf_cons (by simp only [xstep, stepf, stepx, qev, St.ev, St.put, D.cells, qload, cellsAt, qmk, C.cpy, TK.agg, qfieldAddr, liveR, C.st, C.cp, C.dat, storeA, putCells, Z1, Z2, Z5, Z6, Z9, Z10, Z23, Z12, Z13, Z24, Z16, Z18, Z17, Z20, Z19, Z21, Z8, Z4, Nat.reduceAdd, if_true, if_false, and_self, Z3, ne_eq, not_false_eq_true, reduceCtorEq, Nat.reduceLeDiff, Z7, implies_true, Z14, Z26, eq_self, tk39, tsz37, tk37]; rfl) ?_)) ?_
        show Tri _ _ _ _
        refine seq_run okWe rfl (by repeat (first | with_reducible exact runf_nil | refine runf_cons (by simp only [xstep, stepf, stepx, evsA, qev, St.ev, St.put, St.with, qload, cellsAt, qmk, C.cpy, TK.agg, qpick, qint, qshift, isEq, isShift, qbin, eqC, eqCs, qlen, qbuiltin, C.cp, constD, constC, Z1, Z2, Z5, Z6, Z9, Z10, Z15, Z13, Z24, Z16, Z18, Z17, Z20, Z21, Z8, Z4, Z11, Nat.reduceAdd, Nat.reduceEqDiff, if_true, if_false, and_self, decide_true, cond_true, Z22, Z3, Z7, Z14, beq_self_eq_true, Z26, Bool.true_or, callP, Fs.none, argDs, settle, settle1, settleC, Z25, dB, FsWe, pAwake, htv, ft39, strEq_same, eq_self, tk39, tsz39, List.length_map, tk23]; rfl) ?_)) ?_
        refine tri_ret (ends_ret (by simp only [outRes, resDs, resD, outD, outC, C.dat, Z1, Z2, Z4, if_true, Z3, eq_self]; rfl) rfl (by simp) (by simp) ?_)
        exact hQ
      · have hw := hwc hk.1 hk.2 hk3
        rw [hw] at hCl
        generalize wantV (k, fl, n, b, t) = w at hCl hTV
        obtain ⟨w1, w2, w3, w4, w5⟩ := w
        dsimp only at hCl hTV
        simp only [valC] at hTV
        refine seq_run okWe rfl (by repeat (first | with_reducible exact runf_nil | refine runf_cons (by simp only [xstep, stepf, stepx, qev, St.ev, St.put, St.with, D.cells, boxA, C.st, constD, constC, Z1, Z5, Z6, List.replicate, Z9, Z10, Z23, Z12, Z16, Z18, Z8, Z4, Nat.reduceAdd, Nat.reduceSub, if_true, Z3, Z14, Z26, eq_self]; rfl) ?_)) ?_
        refine seq_run okWe rfl (by repeat (first | with_reducible exact runf_nil | refine runf_cons (by simp only [xstep, stepf, stepx, evsA, qev, St.ev, St.put, St.with, D.cells, qload, cellsAt, qmk, C.cpy, TK.agg, qfieldAddr, liveR, C.st, C.cp, C.dat, storeA, putCells, Z1, Z2, Z5, Z6, Z9, Z10, Z23, Z12, Z15, Z13, Z24, Z16, Z18, Z17, Z20, Z19, Z21, Z8, Z4, Nat.reduceAdd, Nat.reduceEqDiff, if_true, if_false, and_self, Z3, ne_eq, not_false_eq_true, reduceCtorEq, Nat.le_refl, Z7, implies_true, Z14, Z26, Bool.true_or, callP, Fs.none, argDs, argD, argC, settle, settle1, settleC, Z25, FsWe, hC1, eq_self, tk39, tsz9, tk9]; rfl) ?_)) ?_
        refine seq_run okWe rfl (by repeat (first | with_reducible exact runf_nil | refine runf_cons (by simp only [xstep, stepf, stepx, evsA, qev, St.ev, St.put, St.with, C.cpy, C.cp, C.dat, Z1, Z2, Z5, Z6, Z15, Z13, Z4, Nat.reduceEqDiff, if_true, if_false, Z3, Z26, Bool.true_or, callP, Fs.none, argDs, argD, argC, settle, settle1, settleC, Z25, FsWe, hC2, eq_self]; rfl) ?_)) ?_
        refine seq_run okWe rfl (by repeat (first | with_reducible exact runf_nil | refine runf_cons (by simp only [xstep, stepf, stepx, evsA, qev, St.ev, St.put, St.with, qload, cellsAt, qmk, C.cpy, TK.agg, C.cp, C.dat, Z1, Z2, Z5, Z6, Z9, Z10, Z15, Z13, Z24, Z16, Z18, Z17, Z20, Z21, Z8, Z4, Nat.reduceAdd, Nat.reduceEqDiff, if_true, if_false, and_self, Z3, Z14, Z26, Bool.true_or, callP, Fs.none, argDs, argD, argC, argCs, settle, settle1, settleC, Z25, FsWe, hV, eq_self, tk39, tsz39]; rfl) ?_)) ?_
        refine seq_in ?_
        refine seq_run okWe rfl (by repeat (first | with_reducible exact runf_nil | refine runf_cons (by simp only [xstep, stepf, stepx, evsA, qev, St.ev, St.put, St.with, qload, cellsAt, qmk, C.cpy, TK.agg, qstr, qbin, C.cp, C.dat, Z1, Z2, Z5, Z6, Z9, Z10, Z15, Z13, Z24, Z16, Z18, Z17, Z20, Z21, Z8, Z4, Nat.reduceAdd, Nat.reduceEqDiff, if_true, if_false, and_self, Bool.not_true, Z3, Z14, Z26, Bool.true_or, callP, Fs.none, argDs, argD, argC, argCs, settle, settle1, settleC, Z25, FsWe, hV, strEq_same, eq_self, tk39, tsz39]; rfl) ?_)) ?_
        refine tri_cond (b := false) rfl (fun h => by cases h) (fun _ => ?_)
        refine then_skip ?_
        refine seq_run okWe rfl (by repeat (first | with_reducible exact runf_nil | refine runf_cons (by simp only [xstep, stepf, stepx, evsA, qev, St.ev, St.put, St.with, C.cpy, qstr, qbin, qext, C.cp, C.dat, constD, constC, Z1, Z2, Z5, Z6, Z15, Z13, Z8, Z4, Nat.reduceEqDiff, if_true, if_false, Z3, Z26, Bool.true_or, callP, Fs.none, argDs, argD, argC, settle, settle1, settleC, settleDs, Z25, FsWe, hT, hA1, hA2, hz2, eq_self]; rfl) ?_)) ?_
        refine seq_in ?_
        refine seq_run okWe rfl (by repeat (first | with_reducible exact runf_nil | refine runf_cons (by simp only [xstep, stepf, stepx, qev, St.ev, St.put, qload, cellsAt, qmk, C.cpy, TK.agg, qfieldAddr, qpick, qint, qshift, isShift, qbin, liveR, C.cp, constD, constC, Z1, Z2, Z5, Z6, Z9, Z10, Z13, Z24, Z16, Z18, Z17, Z20, Z21, Z8, Z4, Z11, if_true, if_false, and_self, decide_true, decide_false, Bool.not_true, cond_false, Z22, Z3, reduceCtorEq, Z7, Nat.add_zero, Z14, Z26, hk4, hk0, eq_self, tk39, tsz3, tk3]; rfl) ?_)) ?_
        refine tri_cond (b := false) rfl (fun h => by cases h) (fun _ => ?_)
        refine then_skip ?_
        refine seq_run okWe rfl (by repeat (first | with_reducible exact runf_nil | refine runf_cons (by simp only [xstep, stepf, stepx, evsA, qev, St.ev, St.put, St.with, D.cells, boxA, C.cpy, qext, C.st, C.cp, C.dat, storeA, putCells, Z1, Z2, Z5, Z6, Z9, Z10, Z23, Z12, Z15, Z13, Z16, Z18, Z20, Z19, Z21, Z8, Z4, Nat.reduceAdd, Nat.reduceEqDiff, if_true, if_false, and_self, Z3, ne_eq, not_false_eq_true, reduceCtorEq, Nat.le_refl, Z7, implies_true, Z14, Z26, Bool.true_or, callP, Fs.none, argDs, argD, argC, settle, settle1, settleC, settleDs, settleCs, Z25, dB, FsWe, hTV, eq_self, tsz39, tz39]; rfl) ?_)) ?_
        refine seq_run okWe rfl (by repeat (first | with_reducible exact runf_nil | refine runf_cons (by simp only [xstep, stepf, stepx, evsA, qev, St.ev, St.put, St.with, C.cpy, qext, C.cp, C.dat, Z1, Z2, Z5, Z6, Z15, Z13, Z8, Z4, Nat.reduceEqDiff, if_true, if_false, Z3, Z26, Bool.true_or, callP, Fs.none, argDs, argD, argC, settle, settle1, settleC, settleDs, Z25, FsWe, hTx, eq_self]; rfl) ?_)) ?_
        refine seq_run okWe rfl (by repeat (first | with_reducible exact runf_nil | refine runf_cons (by simp only [xstep, stepf, stepx, evsA, qev, St.ev, St.put, St.with, D.cells, boxA, qload, cellsAt, qmk, C.cpy, TK.agg, C.st, C.cp, C.dat, storeA, putCells, Z1, Z2, Z5, Z6, Z9, Z10, Z23, Z12, Z15, Z13, Z24, Z16, Z18, Z17, Z20, Z19, Z21, Z8, Z4, Nat.reduceAdd, Nat.reduceEqDiff, if_true, if_false, and_self, Z3, ne_eq, not_false_eq_true, reduceCtorEq, Nat.le_refl, Z7, implies_true, Z14, Z26, Bool.true_or, callP, Fs.none, argDs, argD, argC, argCs, settle, settle1, settleC, settleCs, Z25, FsWe, hCl, eq_self, tk39, tsz39, tz39]; rfl) ?_)) ?_
        refine seq_in ?_
        refine seq_run okWe rfl (by repeat (first | with_reducible exact runf_nil | refine runf_cons (by simp only [xstep, stepf, stepx, qev, St.ev, St.put, qload, cellsAt, qmk, C.cpy, TK.agg, qfieldAddr, qint, qshift, isShift, qbin, liveR, C.cp, constD, constC, Z1, Z2, Z5, Z6, Z9, Z10, Z13, Z24, Z16, Z18, Z17, Z20, Z21, Z8, Z4, Z11, if_true, if_false, and_self, decide_false, Z3, reduceCtorEq, Z7, Nat.add_zero, Z14, Z26, hk3, eq_self, tk39, tsz3, tk3]; rfl) ?_)) ?_
        refine tri_cond (b := false) rfl (fun h => by cases h) (fun _ => ?_)
        refine then_skip ?_
        refine seq_run okWe rfl (by repeat (first | with_reducible exact runf_nil | refine runf_cons (by simp only [xstep, stepf, stepx, evsA, qev, St.ev, St.put, St.with, qload, cellsAt, qmk, C.cpy, TK.agg, qpick, qint, qshift, isEq, isShift, qbin, eqC, eqCs, qlen, qbuiltin, C.cp, constD, constC, Z1, Z2, Z5, Z6, Z9, Z10, Z15, Z13, Z24, Z16, Z18, Z17, Z20, Z21, Z8, Z4, Z11, Nat.reduceAdd, Nat.reduceEqDiff, if_true, if_false, and_self, decide_true, cond_true, Z22, Z3, Z7, Z14, beq_self_eq_true, Z26, Bool.true_or, callP, Fs.none, argDs, settle, settle1, settleC, Z25, dB, FsWe, pAwake, htv, ft39, strEq_same, eq_self, tk39, tsz39, List.length_map, tk23]; rfl) ?_)) ?_
        refine tri_ret (ends_ret (by simp only [outRes, resDs, resD, outD, outC, C.dat, Z1, Z2, Z4, if_true, Z3, eq_self]; rfl) rfl (by simp) (by simp) ?_)
        exact hQ
    · generalize (toksT (x ++ ⟨#[32, 59]⟩ ++ s)) = r at hT he
      obtain ⟨l, a, e⟩ := r
      dsimp only at hT he
      subst he
      refine seq_run okWe rfl (by repeat (first | with_reducible exact runf_nil | refine runf_cons (by simp only [xstep, stepf, stepx, qev, St.ev, St.put, St.with, D.cells, boxA, C.st, constD, constC, Z1, Z5, Z6, List.replicate, Z9, Z10, Z23, Z12, Z16, Z18, Z8, Z4, Nat.reduceAdd, Nat.reduceSub, if_true, Z3, Z14, Z26, eq_self]; rfl) ?_)) ?_
      refine seq_run okWe rfl (by repeat (first | with_reducible exact runf_nil | refine runf_cons (by simp only [xstep, stepf, stepx, evsA, qev, St.ev, St.put, St.with, D.cells, qload, cellsAt, qmk, C.cpy, TK.agg, qfieldAddr, liveR, C.st, C.cp, C.dat, storeA, putCells, Z1, Z2, Z5, Z6, Z9, Z10, Z23, Z12, Z15, Z13, Z24, Z16, Z18, Z17, Z20, Z19, Z21, Z8, Z4, Nat.reduceAdd, Nat.reduceEqDiff, if_true, if_false, and_self, Z3, ne_eq, not_false_eq_true, reduceCtorEq, Nat.le_refl, Z7, implies_true, Z14, Z26, Bool.true_or, callP, Fs.none, argDs, argD, argC, settle, settle1, settleC, Z25, FsWe, hC1, eq_self, tk39, tsz9, tk9]; rfl) ?_)) ?_
      refine seq_run okWe rfl (by repeat (first | with_reducible exact runf_nil | refine runf_cons (by simp only [xstep, stepf, stepx, evsA, qev, St.ev, St.put, St.with, C.cpy, C.cp, C.dat, Z1, Z2, Z5, Z6, Z15, Z13, Z4, Nat.reduceEqDiff, if_true, if_false, Z3, Z26, Bool.true_or, callP, Fs.none, argDs, argD, argC, settle, settle1, settleC, Z25, FsWe, hC2, eq_self]; rfl) ?_)) ?_
      refine seq_run okWe rfl (by repeat (first | with_reducible exact runf_nil | refine runf_cons (by simp only [xstep, stepf, stepx, evsA, qev, St.ev, St.put, St.with, qload, cellsAt, qmk, C.cpy, TK.agg, C.cp, C.dat, Z1, Z2, Z5, Z6, Z9, Z10, Z15, Z13, Z24, Z16, Z18, Z17, Z20, Z21, Z8, Z4, Nat.reduceAdd, Nat.reduceEqDiff, if_true, if_false, and_self, Z3, Z14, Z26, Bool.true_or, callP, Fs.none, argDs, argD, argC, argCs, settle, settle1, settleC, Z25, FsWe, hV, eq_self, tk39, tsz39]; rfl) ?_)) ?_
      refine seq_in ?_
      refine seq_run okWe rfl (by repeat (first | with_reducible exact runf_nil | refine runf_cons (by simp only [xstep, stepf, stepx, evsA, qev, St.ev, St.put, St.with, qload, cellsAt, qmk, C.cpy, TK.agg, qstr, qbin, C.cp, C.dat, Z1, Z2, Z5, Z6, Z9, Z10, Z15, Z13, Z24, Z16, Z18, Z17, Z20, Z21, Z8, Z4, Nat.reduceAdd, Nat.reduceEqDiff, if_true, if_false, and_self, Bool.not_true, Z3, Z14, Z26, Bool.true_or, callP, Fs.none, argDs, argD, argC, argCs, settle, settle1, settleC, Z25, FsWe, hV, strEq_same, eq_self, tk39, tsz39]; rfl) ?_)) ?_
      refine tri_cond (b := false) rfl (fun h => by cases h) (fun _ => ?_)
      refine then_skip ?_
      refine seq_run okWe rfl (by repeat (first | with_reducible exact runf_nil | refine runf_cons (by simp only [xstep, stepf, stepx, evsA, qev, St.ev, St.put, St.with, C.cpy, qstr, qbin, qext, C.cp, C.dat, constD, constC, Z1, Z2, Z5, Z6, Z15, Z13, Z8, Z4, Nat.reduceEqDiff, if_true, if_false, Z3, Z26, Bool.true_or, callP, Fs.none, argDs, argD, argC, settle, settle1, settleC, settleDs, Z25, FsWe, hT, hA1, hA2, hz2, eq_self]; rfl) ?_)) ?_
      refine seq_in ?_
      by_cases c0 : (k < 0)
      ·
        refine seq_run okWe rfl (by repeat (first | with_reducible exact runf_nil | refine runf_cons (by simp only [xstep, stepf, stepx, qev, St.ev, St.put, qload, cellsAt, qmk, C.cpy, TK.agg, qfieldAddr, qpick, qint, qshift, isEq, isShift, qbin, liveR, C.cp, constD, constC, Z1, Z2, Z5, Z6, Z9, Z10, Z13, Z24, Z16, Z18, Z17, Z20, Z21, Z8, Option.bind_none, Z4, Z11, if_true, if_false, and_self, decide_true, Bool.not_true, cond_true, cond_false, Z22, Z3, reduceCtorEq, Z7, Nat.add_zero, Z14, Z26, eq_self, tk39, tsz3, tk3, eq_true c0]; rfl) ?_)) ?_
        refine tri_cond (b := true) rfl (fun _ => ?_) (fun h => by cases h)
        refine seq_run okWe rfl (by repeat (first | with_reducible exact runf_nil | refine runf_cons (by simp only [xstep, stepf, stepx, evsA, qev, St.ev, St.put, St.with, Z1, Z2, Z5, Z6, Z15, Z13, Z4, Nat.reduceEqDiff, if_true, if_false, Z3, Bool.true_or, callP, Fs.none, argDs, settle, settle1, settleC, Z25, dB, FsWe, pAwake, eq_self]; rfl) ?_)) ?_
        refine tri_ret (ends_ret (by simp only [outRes, resDs, resD, outD, outC, C.dat, Z1, Z2, Z4, if_true, Z3, eq_self]; rfl) rfl (by simp) (by simp) ?_)
        exact hQ
      ·
        refine seq_run okWe rfl (by repeat (first | with_reducible exact runf_nil | refine runf_cons (by simp only [xstep, stepf, stepx, qev, St.ev, St.put, qload, cellsAt, qmk, C.cpy, TK.agg, qfieldAddr, qpick, qint, qshift, isShift, qbin, liveR, C.cp, constD, constC, Z1, Z2, Z5, Z6, Z9, Z10, Z13, Z24, Z16, Z18, Z17, Z20, Z21, Z8, Z4, Z11, if_true, if_false, and_self, decide_true, decide_false, Bool.not_true, cond_false, Z22, Z3, reduceCtorEq, Z7, Nat.add_zero, Z14, Z26, eq_self, tk39, tsz3, tk3, eq_false c0]; rfl) ?_)) ?_
        refine tri_cond rfl (fun c1 => ?_) (fun c1 => ?_)
        ·
          simp only [decide_eq_true_eq] at c1
          refine seq_run okWe rfl (by repeat (first | with_reducible exact runf_nil | refine runf_cons (by simp only [xstep, stepf, stepx, evsA, qev, St.ev, St.put, St.with, Z1, Z2, Z5, Z6, Z15, Z13, Z4, Nat.reduceEqDiff, if_true, if_false, decide_true, Z3, Bool.true_or, callP, Fs.none, argDs, settle, settle1, settleC, Z25, dB, FsWe, pAwake, eq_self, c1]; rfl) ?_)) ?_
          refine tri_ret (ends_ret (by simp only [outRes, resDs, resD, outD, outC, C.dat, Z1, Z2, Z4, if_true, Z3, eq_self]; rfl) rfl (by simp) (by simp) ?_)
          exact hQ
        ·
          simp only [decide_eq_false_iff_not] at c1
          (exfalso; omega)
  · generalize (toksT (x ++ ⟨#[32, 59]⟩ ++ s)) = r at hT he
    obtain ⟨l, a, e⟩ := r
    dsimp only at hT he
    refine seq_run okWe rfl (by repeat (first | with_reducible exact runf_nil | refine runf_cons (by simp only [xstep, stepf, stepx, qev, St.ev, St.put, St.with, D.cells, boxA, C.st, constD, constC, Z1, Z5, Z6, List.replicate, Z9, Z10, Z23, Z12, Z16, Z18, Z8, Z4, Nat.reduceAdd, Nat.reduceSub, if_true, Z3, Z14, Z26, eq_self]; rfl) ?_)) ?_
    refine seq_run okWe rfl (by repeat (first | with_reducible exact runf_nil | refine runf_cons (by simp only [xstep, stepf, stepx, evsA, qev, St.ev, St.put, St.with, D.cells, qload, cellsAt, qmk, C.cpy, TK.agg, qfieldAddr, liveR, C.st, C.cp, C.dat, storeA, putCells, Z1, Z2, Z5, Z6, Z9, Z10, Z23, Z12, Z15, Z13, Z24, Z16, Z18, Z17, Z20, Z19, Z21, Z8, Z4, Nat.reduceAdd, Nat.reduceEqDiff, if_true, if_false, and_self, Z3, ne_eq, not_false_eq_true, reduceCtorEq, Nat.le_refl, Z7, implies_true, Z14, Z26, Bool.true_or, callP, Fs.none, argDs, argD, argC, settle, settle1, settleC, Z25, FsWe, hC1, eq_self, tk39, tsz9, tk9]; rfl) ?_)) ?_
    refine seq_run okWe rfl (by repeat (first | with_reducible exact runf_nil | refine runf_cons (by simp only [xstep, stepf, stepx, evsA, qev, St.ev, St.put, St.with, C.cpy, C.cp, C.dat, Z1, Z2, Z5, Z6, Z15, Z13, Z4, Nat.reduceEqDiff, if_true, if_false, Z3, Z26, Bool.true_or, callP, Fs.none, argDs, argD, argC, settle, settle1, settleC, Z25, FsWe, hC2, eq_self]; rfl) ?_)) ?_
    refine seq_run okWe rfl (by repeat (first | with_reducible exact runf_nil | refine runf_cons (by simp only [xstep, stepf, stepx, evsA, qev, St.ev, St.put, St.with, qload, cellsAt, qmk, C.cpy, TK.agg, C.cp, C.dat, Z1, Z2, Z5, Z6, Z9, Z10, Z15, Z13, Z24, Z16, Z18, Z17, Z20, Z21, Z8, Z4, Nat.reduceAdd, Nat.reduceEqDiff, if_true, if_false, and_self, Z3, Z14, Z26, Bool.true_or, callP, Fs.none, argDs, argD, argC, argCs, settle, settle1, settleC, Z25, FsWe, hV, eq_self, tk39, tsz39]; rfl) ?_)) ?_
    refine seq_in ?_
    refine seq_run okWe rfl (by repeat (first | with_reducible exact runf_nil | refine runf_cons (by simp only [xstep, stepf, stepx, evsA, qev, St.ev, St.put, St.with, qload, cellsAt, qmk, C.cpy, TK.agg, qstr, qbin, C.cp, C.dat, Z1, Z2, Z5, Z6, Z9, Z10, Z15, Z13, Z24, Z16, Z18, Z17, Z20, Z21, Z8, Z4, Nat.reduceAdd, Nat.reduceEqDiff, if_true, if_false, and_self, Bool.not_true, Z3, Z14, Z26, Bool.true_or, callP, Fs.none, argDs, argD, argC, argCs, settle, settle1, settleC, Z25, FsWe, hV, strEq_same, eq_self, tk39, tsz39]; rfl) ?_)) ?_
    refine tri_cond (b := false) rfl (fun h => by cases h) (fun _ => ?_)
    refine then_skip ?_
    refine seq_run okWe rfl (by repeat (first | with_reducible exact runf_nil | refine runf_cons (by simp only [xstep, stepf, stepx, evsA, qev, St.ev, St.put, St.with, C.cpy, qstr, qbin, qext, C.cp, C.dat, constD, constC, Z1, Z2, Z5, Z6, Z15, Z13, Z8, Z4, Nat.reduceEqDiff, if_true, if_false, Z3, Z26, Bool.true_or, callP, Fs.none, argDs, argD, argC, settle, settle1, settleC, settleDs, Z25, FsWe, hT, hA1, hA2, hz2, eq_self]; rfl) ?_)) ?_
    refine seq_in ?_
    refine seq_run okWe rfl (by repeat (first | with_reducible exact runf_nil | refine runf_cons (by simp only [xstep, stepf, stepx, qev, St.ev, St.put, qload, cellsAt, qfieldAddr, qpick, qint, qshift, isEq, isShift, qbin, liveR, constD, constC, Z1, Z2, Z5, Z6, Z8, Option.bind_none, Z4, Z11, if_true, if_false, decide_false, Bool.not_false, cond_true, Z22, Z3, reduceCtorEq, Z7, Nat.add_zero, he, eq_self, tk39]; rfl) ?_)) ?_
    refine tri_cond (b := true) rfl (fun _ => ?_) (fun h => by cases h)
    refine seq_run okWe rfl (by repeat (first | with_reducible exact runf_nil | refine runf_cons (by simp only [xstep, stepf, stepx, evsA, qev, St.ev, St.put, St.with, Z1, Z2, Z5, Z6, Z15, Z13, Z4, Nat.reduceEqDiff, if_true, if_false, Z3, Bool.true_or, callP, Fs.none, argDs, settle, settle1, settleC, Z25, dB, FsWe, pAwake, eq_self]; rfl) ?_)) ?_
    refine tri_ret (ends_ret (by simp only [outRes, resDs, resD, outD, outC, C.dat, Z1, Z2, Z4, if_true, Z3, eq_self]; rfl) rfl (by simp) (by simp) ?_)
    exact hQ
end Go.Dl
