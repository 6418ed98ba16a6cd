/- octet's Reader in plain Lean: what it reads, and that what was laid is read again, and nothing else. -/
import Derived.Test.YtoamlicfbmhajaaRd
namespace Go.Dl
open Go.RowKit
open Go.Proofs
set_option linter.unusedSimpArgs false
set_option linter.unusedVariables false

/-- A text's bytes. -/
def B (s : ByteArray) : List UInt8 := s.data.toList

theorem B_append (a b : ByteArray) : B (a ++ b) = B a ++ B b := by
  show (a ++ b).data.toList = a.data.toList ++ b.data.toList
  rw [ByteArray.data_append, Array.toList_append]

theorem B_inj {a b : ByteArray} (h : B a = B b) : a = b := by
  cases a with
  | mk x => cases b with
    | mk y => exact congrArg ByteArray.mk (Array.toList_inj.1 h)

theorem B_length (s : ByteArray) : (B s).length = s.size := by
  show s.data.toList.length = s.data.size
  rw [Array.length_toList]

theorem B_extract (s : ByteArray) (i j : Nat) : B (s.extract i j) = ((B s).drop i).take (j - i) := by
  simp only [B, ByteArray.data_extract, Array.toList_extract, List.extract_eq_take_drop]

/-- A reader. -/
structure Rdr where
  s : ByteArray
  i : Nat
  e : Int

def Rdr.fail (r : Rdr) (e : Int) : Rdr := if r.e = 0 then ⟨r.s, r.i, e⟩ else r

def rRaw (r : Rdr) (n : Int) : ByteArray × Rdr :=
  if r.e = 0 then
    if n < 0 then (⟨#[]⟩, ⟨r.s, r.i, 1⟩) else if (r.s.size : Int) - r.i < n then (⟨#[]⟩, ⟨r.s, r.i, 2⟩)
    else (r.s.extract r.i (r.i + n.toNat), ⟨r.s, r.i + n.toNat, r.e⟩)
  else (⟨#[]⟩, r)

def valB (l : List UInt8) : Nat := l.foldl (fun n c => n * 256 + c.toNat) 0

def rNum (r : Rdr) (most : Int) : Int × Rdr :=
  match B (rRaw r 1).1 with
  | [] => (0, (rRaw r 1).2)
  | k :: _ => if 7 < k.toNat then (0, (rRaw r 1).2.fail 4) else
    let q := rRaw (rRaw r 1).2 k.toNat
    if (B q.1).head? = some 0 then (0, q.2.fail 4) else
    if q.2.e = 0 then if most < valB (B q.1) then (0, q.2.fail 3) else (valB (B q.1), q.2) else (0, q.2)

def rText (r : Rdr) (most : Int) : ByteArray × Rdr := rRaw (rNum r most).2 (rNum r most).1

def rTextsGo (most : Int) : Nat → Rdr → List ByteArray → List ByteArray × Rdr
  | 0, r, out => (out, r)
  | n + 1, r, out => if (rText r most).2.e = 0 then rTextsGo most n (rText r most).2 (out ++ [(rText r most).1]) else ([], (rText r most).2)

def rTexts (r : Rdr) (many most : Int) : List ByteArray × Rdr := rTextsGo most (rNum r many).1.toNat (rNum r many).2 []

def rEnd (r : Rdr) : Int × Rdr := if r.e = 0 ∧ r.i < r.s.size then (4, ⟨r.s, r.i, 4⟩) else (r.e, r)

/-- What was read. -/
def Took (r r' : Rdr) (l : List UInt8) : Prop := r.e = 0 ∧ r' = ⟨r.s, r.i + l.length, r.e⟩ ∧ ∃ t, (B r.s).drop r.i = l ++ t

theorem Took.app {r r' r'' : Rdr} {l m : List UInt8} (h : Took r r' l) (k : Took r' r'' m) : Took r r'' (l ++ m) := by
  obtain ⟨h1, rfl, t, h2⟩ := h
  obtain ⟨k1, rfl, u, k2⟩ := k
  refine ⟨h1, by simp [Nat.add_assoc], u, ?_⟩
  simp only at k2
  rw [← List.drop_drop, h2, List.drop_left] at k2
  rw [h2, k2, List.append_assoc]

theorem Took.self {r : Rdr} (h : r.e = 0) : Took r r [] := ⟨h, rfl, _, rfl⟩

theorem raw_back {r : Rdr} {n : Int} (h : (rRaw r n).2.e = 0) : Took r (rRaw r n).2 (B (rRaw r n).1) ∧ 0 ≤ n ∧ ((B (rRaw r n).1).length : Int) = n := by
  unfold rRaw at *
  split at h
  · rename_i he
    rw [if_pos he]
    split at h
    · cases h
    · rename_i hn
      rw [if_neg hn]
      split at h
      · cases h
      · rename_i hlen
        rw [if_neg hlen]
        have hl : (B (r.s.extract r.i (r.i + n.toNat))).length = n.toNat := by
          rw [B_length, ByteArray.size_extract]; omega
        refine ⟨⟨he, by rw [hl], ((B r.s).drop r.i).drop n.toNat, ?_⟩, by omega, by rw [hl]; omega⟩
        rw [B_extract, Nat.add_sub_cancel_left, List.take_append_drop]
  · rename_i he; exact absurd h he

theorem raw_fwd {r : Rdr} {x : ByteArray} {t : List UInt8} (he : r.e = 0) (h : (B r.s).drop r.i = B x ++ t) (hi : r.i ≤ r.s.size) : rRaw r x.size = (x, ⟨r.s, r.i + x.size, r.e⟩) := by
  unfold rRaw
  rw [if_pos he, if_neg (by omega)]
  have hl := congrArg List.length h
  rw [List.length_drop, List.length_append, B_length, B_length] at hl
  rw [if_neg (by omega)]
  refine Prod.ext (B_inj ?_) (by simp)
  show B (r.s.extract _ _) = _
  rw [B_extract, h, Nat.add_sub_cancel_left, Int.toNat_natCast, ← B_length, List.take_left]

theorem valB_foldl : ∀ (l : List UInt8) (a : Nat), l.foldl (fun n c => n * 256 + c.toNat) a = a * 256 ^ l.length + valB l
  | [], a => by simp [valB]
  | c :: l, a => by
    simp only [valB, List.foldl_cons]
    rw [valB_foldl l, valB_foldl l (0 * 256 + c.toNat), List.length_cons, Nat.pow_succ]
    rw [Nat.add_mul, Nat.mul_assoc, Nat.mul_comm 256]
    simp only [Nat.zero_mul, Nat.zero_add, Nat.add_assoc]

theorem valB_pos {d : List UInt8} (h : d.head? ≠ some 0) (hd : d ≠ []) : 0 < valB d := by
  cases d with
  | nil => exact absurd rfl hd
  | cons c t =>
    simp only [List.head?_cons, ne_eq, Option.some.injEq] at h
    have hc : 0 < c.toNat := by
      rcases Nat.eq_zero_or_pos c.toNat with h0 | h0
      · exact absurd (UInt8.toNat_inj.1 h0) h
      · exact h0
    show 0 < t.foldl _ (0 * 256 + c.toNat)
    rw [valB_foldl]
    have : 0 < (0 * 256 + c.toNat) * 256 ^ t.length := Nat.mul_pos (by omega) (Nat.pow_pos (by decide))
    omega

theorem valB_snoc (d : List UInt8) (c : UInt8) : valB (d ++ [c]) = valB d * 256 + c.toNat := by
  simp [valB]

theorem valB_lt : ∀ (d : List UInt8), valB d < 256 ^ d.length := by
  intro d
  generalize hk : d.length = k
  induction k generalizing d with
  | zero => rw [List.eq_nil_of_length_eq_zero hk]; decide
  | succ k ih =>
    have hd : d ≠ [] := by intro h; subst h; cases hk
    rw [← List.dropLast_concat_getLast hd, valB_snoc]
    have h1 := ih d.dropLast (by rw [List.length_dropLast]; omega)
    have h2 := (d.getLast hd).toNat_lt
    rw [Nat.pow_succ]
    omega

theorem byteOf_val (v : Nat) (c : UInt8) : byteOf ((v * 256 + c.toNat : Nat) : Int) = ⟨#[c]⟩ := by
  unfold byteOf
  have h : (IntKind.wrap .u8 ((v * 256 + c.toNat : Nat) : Int)).toNat = c.toNat := by
    have := c.toNat_lt
    simp only [IntKind.wrap, IntKind.bits, IntKind.signed, Bool.false_and, Bool.false_eq_true, if_false]
    omega
  rw [h]
  simp

theorem numGo_val : ∀ (k : Nat) (d : List UInt8), d.length = k → d.head? ≠ some 0 → ∀ (f : Nat) (s : ByteArray), valB d < f → B (numGo f (valB d : Nat) s) = d ++ B s := by
  intro k
  induction k with
  | zero =>
    intro d hk _ f s _
    rw [List.eq_nil_of_length_eq_zero hk]
    cases f with
    | zero => rfl
    | succ f => simp [numGo, valB]
  | succ k ih =>
    intro d hk hh f s hf
    have hd : d ≠ [] := by intro h; subst h; cases hk
    obtain ⟨d', c, rfl⟩ : ∃ d' c, d = d' ++ [c] := ⟨d.dropLast, d.getLast hd, (List.dropLast_concat_getLast hd).symm⟩
    have hpos := valB_pos hh hd
    cases f with
    | zero => omega
    | succ f =>
      simp only [numGo]
      rw [if_pos (by omega)]
      rw [valB_snoc] at hf hpos ⊢
      have hq : ((valB d' * 256 + c.toNat : Nat) : Int) / 256 = (valB d' : Nat) := by
        have := c.toNat_lt
        omega
      have hb := byteOf_val (valB d') c
      rw [hq, hb, ih d' (by simpa using hk) (by
        cases d' with
        | nil => simp
        | cons a t => simpa using hh) f _ (by omega), B_append]
      simp [B]

theorem numB_val (d : List UInt8) (hd : d.length ≤ 7) (hh : d.head? ≠ some 0) : B (numB (valB d : Nat)) = UInt8.ofNat d.length :: d := by
  have hlt := valB_lt d
  have h7 : 256 ^ d.length ≤ 256 ^ 7 := Nat.pow_le_pow_right (by decide) hd
  have h56 : (256 : Nat) ^ 7 = 72057594037927936 := by decide
  have hg := numGo_val d.length d rfl hh (valB d + 1) ⟨#[]⟩ (by omega)
  have h0 : B ⟨#[]⟩ = [] := rfl
  rw [h0, List.append_nil] at hg
  unfold numB
  rw [if_neg (by omega), Int.toNat_natCast]
  simp only
  rw [B_append, hg]
  have hsz : (numGo (valB d + 1) (valB d : Nat) ⟨#[]⟩).size = d.length := by rw [← B_length, hg]
  rw [hsz]
  have := byteOf_val 0 (UInt8.ofNat d.length)
  have hl : (UInt8.ofNat d.length).toNat = d.length := by
    rw [UInt8.toNat_ofNat']; omega
  rw [hl, Nat.zero_mul, Nat.zero_add] at this
  rw [this]
  rfl

theorem digits : ∀ (n : Nat), ∃ d : List UInt8, d.head? ≠ some 0 ∧ valB d = n ∧ ∀ k, n < 256 ^ k → d.length ≤ k := by
  intro n
  induction n using Nat.strongRecOn with
  | ind n ih =>
    by_cases h0 : n = 0
    · subst h0; exact ⟨[], by simp, rfl, by simp⟩
    · obtain ⟨d, h1, h2, h3⟩ := ih (n / 256) (by omega)
      refine ⟨d ++ [UInt8.ofNat (n % 256)], ?_, ?_, ?_⟩
      · cases d with
        | nil =>
          have h2 : 0 = n / 256 := h2
          simp only [List.nil_append, List.head?_cons, ne_eq, Option.some.injEq]
          intro h
          have := congrArg UInt8.toNat h
          rw [UInt8.toNat_ofNat'] at this
          have e0 : (0 : UInt8).toNat = 0 := rfl
          rw [e0] at this
          omega
        | cons a t => simpa using h1
      · rw [valB_snoc, h2, UInt8.toNat_ofNat']; omega
      · intro k hk
        cases k with
        | zero => simp at hk; omega
        | succ k =>
          have := h3 k (by rw [Nat.pow_succ] at hk; omega)
          simp; omega

theorem num_back {r : Rdr} {most : Int} (h : (rNum r most).2.e = 0) : Took r (rNum r most).2 (B (numB (rNum r most).1)) ∧ 0 ≤ (rNum r most).1 ∧ (rNum r most).1 ≤ most ∧ (rNum r most).1 < 72057594037927936 := by
  unfold rNum at *
  split at h
  · rename_i hb
    obtain ⟨_, _, h3⟩ := raw_back h
    rw [hb] at h3
    cases h3
  · rename_i k t hb
    simp only at h ⊢
    have fail0 : ∀ (r : Rdr) (e : Int), e ≠ 0 → (r.fail e).e ≠ 0 := by
      intro r e he
      unfold Rdr.fail
      split
      · exact he
      · assumption
    split at h
    · exact absurd h (fail0 _ _ (by decide))
    · rename_i h7
      rw [if_neg h7]
      split at h
      · exact absurd h (fail0 _ _ (by decide))
      · rename_i hh
        rw [if_neg hh]
        split at h
        · rename_i he2
          rw [if_pos he2]
          split at h
          · exact absurd h (fail0 _ _ (by decide))
          · rename_i hm
            rw [if_neg hm]
            simp only
            obtain ⟨q1, q2, q3⟩ := raw_back he2
            have he1 : (rRaw r 1).2.e = 0 := q1.1
            obtain ⟨p1, p2, p3⟩ := raw_back he1
            have hlen : (B (rRaw (rRaw r 1).2 k.toNat).1).length = k.toNat := by omega
            have hlt := valB_lt (B (rRaw (rRaw r 1).2 k.toNat).1)
            have h7' : 256 ^ (B (rRaw (rRaw r 1).2 k.toNat).1).length ≤ 256 ^ 7 := Nat.pow_le_pow_right (by decide) (by omega)
            have h56 : (256 : Nat) ^ 7 = 72057594037927936 := by decide
            refine ⟨?_, by omega, by omega, by omega⟩
            have ht : t = [] := by
              rw [hb] at p3
              simp at p3
              exact List.eq_nil_of_length_eq_zero (by omega)
            subst ht
            rw [numB_val _ (by omega) hh, hlen]
            have : UInt8.ofNat k.toNat = k := by simp
            rw [this]
            rw [hb] at p1
            exact p1.app q1
        · rename_i he2
          exact absurd h he2

theorem num_fwd {r : Rdr} {n most : Int} {t : List UInt8} (he : r.e = 0) (hi : r.i ≤ r.s.size) (h0 : 0 ≤ n) (hn : n < 72057594037927936) (hm : n ≤ most) (h : (B r.s).drop r.i = B (numB n) ++ t) :
    rNum r most = (n, ⟨r.s, r.i + (numB n).size, r.e⟩) := by
  obtain ⟨d, d1, d2, d3⟩ := digits n.toNat
  have h56 : (256 : Nat) ^ 7 = 72057594037927936 := by decide
  have hd7 := d3 7 (by omega)
  have hnd : n = (valB d : Nat) := by omega
  have hB := numB_val d hd7 d1
  rw [← hnd] at hB
  rw [hB] at h
  have hsz : (numB n).size = d.length + 1 := by rw [← B_length, hB]; rfl
  have hl := congrArg List.length h
  rw [List.length_drop, B_length] at hl
  simp at hl
  have hk : (UInt8.ofNat d.length).toNat = d.length := by rw [UInt8.toNat_ofNat']; omega
  have s1 : rRaw r 1 = (⟨#[UInt8.ofNat d.length]⟩, ⟨r.s, r.i + 1, r.e⟩) := by
    have := raw_fwd (x := ⟨#[UInt8.ofNat d.length]⟩) he (t := d ++ t) (by rw [h]; rfl) hi
    exact this
  have s2 : rRaw ⟨r.s, r.i + 1, r.e⟩ (d.length : Nat) = (⟨d.toArray⟩, ⟨r.s, r.i + 1 + d.length, r.e⟩) := by
    have := raw_fwd (r := ⟨r.s, r.i + 1, r.e⟩) (x := ⟨d.toArray⟩) he (t := t) (by
      show (B r.s).drop (r.i + 1) = _
      rw [← List.drop_drop, h]
      simp [B]) (by show r.i + 1 ≤ r.s.size; omega)
    exact this
  unfold rNum
  rw [s1]
  have hb1 : B ⟨#[UInt8.ofNat d.length]⟩ = [UInt8.ofNat d.length] := rfl
  have hb2 : B ⟨d.toArray⟩ = d := by simp [B]
  rw [hb1]
  simp only
  rw [hk, if_neg (by omega), s2]
  simp only
  rw [hb2, if_neg d1, if_pos he, if_neg (by omega), ← hnd, hsz]
  simp only [Prod.mk.injEq, Rdr.mk.injEq, true_and, and_true]
  omega

theorem text_back {r : Rdr} {most : Int} (h : (rText r most).2.e = 0) : Took r (rText r most).2 (B (textB (rText r most).1)) ∧ ((rText r most).1.size : Int) ≤ most := by
  unfold rText at *
  obtain ⟨q1, q2, q3⟩ := raw_back h
  obtain ⟨p1, p2, p3, p4⟩ := num_back q1.1
  rw [B_length] at q3
  refine ⟨?_, by omega⟩
  unfold textB
  rw [B_append, q3]
  exact p1.app q1

theorem text_fwd {r : Rdr} {x : ByteArray} {most : Int} {t : List UInt8} (he : r.e = 0) (hi : r.i ≤ r.s.size) (hn : (x.size : Int) < 72057594037927936) (hm : (x.size : Int) ≤ most) (h : (B r.s).drop r.i = B (textB x) ++ t) :
    rText r most = (x, ⟨r.s, r.i + (textB x).size, r.e⟩) := by
  unfold textB at *
  rw [B_append, List.append_assoc] at h
  unfold rText
  rw [num_fwd he hi (by omega) hn hm h]
  simp only
  have hl := congrArg List.length h
  rw [List.length_drop, B_length] at hl
  simp only [List.length_append, B_length] at hl
  rw [raw_fwd (r := ⟨r.s, r.i + (numB x.size).size, r.e⟩) (x := x) (t := t) he (by
    show (B r.s).drop _ = _
    rw [← List.drop_drop, h, ← B_length, List.drop_left]) (by show r.i + _ ≤ r.s.size; omega)]
  simp only [ByteArray.size_append, Nat.add_assoc]

/-- The texts' bytes. -/
def catB (l : List ByteArray) : List UInt8 := (l.map fun x => B (textB x)).flatten

theorem B_textsB : ∀ (l : List ByteArray) (s : ByteArray), B (textsB s l) = B s ++ catB l
  | [], s => by simp [textsB, catB]
  | x :: l, s => by
    have := B_textsB l (s ++ textB x)
    show B (textsB (s ++ textB x) l) = _
    rw [this, B_append]
    simp [catB]

theorem textsGo_back : ∀ {n : Nat} {r : Rdr} {most : Int} {out : List ByteArray}, (rTextsGo most n r out).2.e = 0 →
    ∃ l : List ByteArray, (rTextsGo most n r out).1 = out ++ l ∧ l.length = n ∧ Took r (rTextsGo most n r out).2 (catB l) ∧ ∀ x ∈ l, (x.size : Int) ≤ most
  | 0, r, most, out, h => ⟨[], by simp [rTextsGo], rfl, Took.self h, by simp⟩
  | n + 1, r, most, out, h => by
    simp only [rTextsGo] at h ⊢
    split at h
    · rename_i he
      rw [if_pos he]
      obtain ⟨l, h1, h2, h3, h4⟩ := textsGo_back h
      obtain ⟨k1, k2⟩ := text_back he
      refine ⟨(rText r most).1 :: l, by rw [h1]; simp, by simp [h2], ?_, ?_⟩
      · have := k1.app h3
        simpa [catB] using this
      · intro x hx
        rcases List.mem_cons.1 hx with e | e
        · rw [e]; exact k2
        · exact h4 x e
    · rename_i he; exact absurd h he

theorem textsGo_fwd : ∀ {l : List ByteArray} {r : Rdr} {most : Int} {out : List ByteArray} {t : List UInt8}, r.e = 0 → r.i ≤ r.s.size → (∀ x ∈ l, (x.size : Int) < 72057594037927936 ∧ (x.size : Int) ≤ most) → (B r.s).drop r.i = catB l ++ t →
    rTextsGo most l.length r out = (out ++ l, ⟨r.s, r.i + (catB l).length, r.e⟩)
  | [], r, most, out, t, he, hi, hx, h => by simp [rTextsGo, catB]
  | x :: l, r, most, out, t, he, hi, hx, h => by
    have hc : catB (x :: l) = B (textB x) ++ catB l := by simp [catB]
    rw [hc, List.append_assoc] at h
    have hl := congrArg List.length h
    rw [List.length_drop, B_length] at hl
    simp only [List.length_append, B_length] at hl
    have h1 := text_fwd he hi (hx x (List.mem_cons_self ..)).1 (hx x (List.mem_cons_self ..)).2 h
    simp only [List.length_cons, rTextsGo]
    rw [h1]
    simp only
    rw [if_pos he, textsGo_fwd (l := l) (r := ⟨r.s, r.i + (textB x).size, r.e⟩) he (by show r.i + _ ≤ r.s.size; omega) (fun y hy => hx y (List.mem_cons_of_mem _ hy)) (t := t) (by
      show (B r.s).drop _ = _
      rw [← List.drop_drop, h, ← B_length, List.drop_left])]
    rw [hc]
    simp only [List.append_assoc, List.singleton_append, List.length_append, B_length, Nat.add_assoc]

theorem texts_back {r : Rdr} {many most : Int} (h : (rTexts r many most).2.e = 0) :
    Took r (rTexts r many most).2 (B (textsB (numB (rTexts r many most).1.length) (rTexts r many most).1)) ∧ ((rTexts r many most).1.length : Int) ≤ many ∧ ∀ x ∈ (rTexts r many most).1, (x.size : Int) ≤ most := by
  unfold rTexts at *
  obtain ⟨l, h1, h2, h3, h4⟩ := textsGo_back h
  obtain ⟨p1, p2, p3, p4⟩ := num_back h3.1
  rw [h1, List.nil_append]
  refine ⟨?_, by omega, h4⟩
  have hl : (l.length : Int) = (rNum r many).1 := by omega
  rw [B_textsB, hl]
  exact p1.app h3

theorem texts_fwd {r : Rdr} {l : List ByteArray} {many most : Int} {t : List UInt8} (he : r.e = 0) (hi : r.i ≤ r.s.size) (hn : (l.length : Int) < 72057594037927936) (hm : (l.length : Int) ≤ many)
    (hx : ∀ x ∈ l, (x.size : Int) < 72057594037927936 ∧ (x.size : Int) ≤ most) (h : (B r.s).drop r.i = B (textsB (numB l.length) l) ++ t) :
    rTexts r many most = (l, ⟨r.s, r.i + (textsB (numB l.length) l).size, r.e⟩) := by
  rw [B_textsB, List.append_assoc] at h
  have hl := congrArg List.length h
  rw [List.length_drop, B_length] at hl
  simp only [List.length_append, B_length] at hl
  unfold rTexts
  rw [num_fwd he hi (by omega) hn hm h]
  simp only [Int.toNat_natCast]
  rw [textsGo_fwd (l := l) (r := ⟨r.s, r.i + (numB l.length).size, r.e⟩) he (by show r.i + _ ≤ r.s.size; omega) hx (t := t) (by
    show (B r.s).drop _ = _
    rw [← List.drop_drop, h, ← B_length, List.drop_left])]
  rw [← B_length (textsB _ _), B_textsB, List.length_append, B_length]
  simp only [List.nil_append, Nat.add_assoc]

/-- bundle.Read. -/
def readB (s : ByteArray) : List ByteArray × List ByteArray × Int :=
  let a := rTexts ⟨s, 0, 0⟩ 200 8192
  let b := rTexts a.2 200 8192
  let z := rEnd b.2
  if z.1 = 0 then (a.1, b.1, 0) else ([], [], z.1)

theorem numB_ne (n : Int) (h0 : 0 ≤ n) (hn : n < 72057594037927936) : strEq (numB n) ⟨#[]⟩ = false := by
  have : (numB n).size ≠ 0 := by
    unfold numB
    rw [if_neg (by omega)]
    simp only
    rw [byteOf_size]; omega
  have e0 : strEq (numB n) ⟨#[]⟩ = (B (numB n) == []) := by
    unfold strEq
    rw [ByteArray.toList_eq, ByteArray.toList_eq]; rfl
  rw [e0]
  cases h : B (numB n) with
  | nil => rw [← B_length, h] at this; exact absurd rfl this
  | cons a l => rfl

/-- What may be is laid and read again. -/
theorem bundle_round {l m : List ByteArray} (hl : rightL l = true) (hm : rightL m = true) :
    bytesB l m = (textsB (numB l.length) l ++ textsB (numB m.length) m, true) ∧ readB (textsB (numB l.length) l ++ textsB (numB m.length) m) = (l, m, 0) := by
  obtain ⟨l1, l2⟩ := rightL_all hl
  obtain ⟨m1, m2⟩ := rightL_all hm
  have el := numB_ne l.length (by omega) (by omega)
  have em := numB_ne m.length (by omega) (by omega)
  constructor
  · unfold bytesB
    rw [if_pos ⟨hl, hm⟩]
    simp only [wtexts, el, em, Bool.or_false, Bool.false_eq_true, if_false, Bool.not_false]
    refine Prod.ext (B_inj ?_) rfl
    simp only [B_textsB, B_append]
    simp [B]
  · unfold readB
    have hx : ∀ {q : List ByteArray}, (∀ x ∈ q, x.size ≤ 8192) → ∀ x ∈ q, (x.size : Int) < 72057594037927936 ∧ (x.size : Int) ≤ 8192 := fun h x hq => by
      have := h x hq
      omega
    rw [texts_fwd (l := l) (t := B (textsB (numB m.length) m)) rfl (Nat.zero_le _) (by omega) (by omega) (hx l1) (by rw [List.drop_zero, B_append])]
    simp only
    rw [texts_fwd (l := m) (t := []) rfl (by simp [ByteArray.size_append]) (by omega) (by omega) (hx m1) (by
      show (B (_ ++ _)).drop _ = _
      rw [B_append, Nat.zero_add, ← B_length, List.drop_left, List.append_nil])]
    have hend : ∀ (S : ByteArray) (i : Nat), i = S.size → rEnd ⟨S, i, 0⟩ = (0, ⟨S, i, 0⟩) := by
      intro S i h
      unfold rEnd
      rw [if_neg (by rintro ⟨_, h2⟩; simp only at h2; omega)]
    rw [hend _ _ (by simp [ByteArray.size_append])]
    rfl

/-- What is read has just these bytes. -/
theorem bundle_back {s : ByteArray} (h : (readB s).2.2 = 0) : rightL (readB s).1 = true ∧ rightL (readB s).2.1 = true ∧
    textsB (numB (readB s).1.length) (readB s).1 ++ textsB (numB (readB s).2.1.length) (readB s).2.1 = s := by
  unfold readB at *
  simp only at h ⊢
  split at h
  · rename_i hz
    rw [if_pos hz]
    simp only
    unfold rEnd at hz
    split at hz
    · cases hz
    · rename_i hend
      obtain ⟨b1, b2, b3⟩ := texts_back hz
      obtain ⟨a1, a2, a3⟩ := texts_back b1.1
      have hr : ∀ {q : List ByteArray}, (q.length : Int) ≤ 200 → (∀ x ∈ q, (x.size : Int) ≤ 8192) → rightL q = true := by
        intro q h1 h2
        unfold rightL
        rw [Bool.and_eq_true, List.all_eq_true]
        exact ⟨fun x hx => by have := h2 x hx; simp; omega, by simp; omega⟩
      refine ⟨hr a2 a3, hr b2 b3, B_inj ?_⟩
      obtain ⟨c1, c2, t, c3⟩ := a1.app b1
      have c2' := congrArg Rdr.i c2
      have c2s := congrArg Rdr.s c2
      have hi : ¬ (rTexts (rTexts ⟨s, 0, 0⟩ 200 8192).2 200 8192).2.i < s.size := fun hlt => hend ⟨hz, by rw [c2s]; exact hlt⟩
      rw [c2'] at hi
      simp only [List.drop_zero, Nat.zero_add] at c3 hi
      have hl := congrArg List.length c3
      rw [List.length_append, B_length] at hl
      have : t = [] := List.eq_nil_of_length_eq_zero (by omega)
      subst this
      rw [B_append, c3, List.append_nil]
  · rename_i hz
    simp only at h
    exact absurd h hz

end Go.Dl
