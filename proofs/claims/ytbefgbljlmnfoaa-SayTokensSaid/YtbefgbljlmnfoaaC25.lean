/- The walk of the reference's Tokens. -/
import Derived.Test.YtbefgbljlmnfoaaC24
namespace Go.Dl
open Go.RowKit
open Go.Proofs
set_option linter.unusedSimpArgs false
set_option linter.unusedVariables false

/-- A text's tokens, for the reference; or where what is none begins. -/
def refN : Nat → ByteArray → Nat → List Tok → Option (List Tok) × Int
  | 0, _, _, acc => (some acc, -1)
  | n + 1, s, i, acc => if (i : Int) < (s.size : Int) then
      (if byt s i = 32 then refN n s (i + 1) acc else if byt s i = 9 then refN n s (i + 1) acc else if byt s i = 10 then refN n s (i + 1) acc
      else if byt s i = 35 then refN n s (runF notNL s i) acc
      else if isLetter (byt s i) = true then refN n s (runF isWordC s i) (acc ++ [((0, s.extract i (runF isWordC s i), (i : Int)) : Tok)])
      else if isDigit (byt s i) = true then (if strEq (s.extract i (runF isDigit s (i + 1))) dash = true then (none, (i : Int)) else refN n s (runF isDigit s (i + 1)) (acc ++ [((1, s.extract i (runF isDigit s (i + 1)), (i : Int)) : Tok)]))
      else if byt s i = 45 then (if strEq (s.extract i (runF isDigit s (i + 1))) dash = true then (none, (i : Int)) else refN n s (runF isDigit s (i + 1)) (acc ++ [((1, s.extract i (runF isDigit s (i + 1)), (i : Int)) : Tok)]))
      else if byt s i = 34 then (if (quoteRF s i).2 < 0 then (none, (i : Int)) else refN n s (quoteRF s i).2.toNat (acc ++ [((2, (quoteRF s i).1, (i : Int)) : Tok)]))
      else if byt s i = 61 then refN n s (i + 1) (acc ++ [((3, s.extract i (i + 1), (i : Int)) : Tok)]) else if byt s i = 44 then refN n s (i + 1) (acc ++ [((3, s.extract i (i + 1), (i : Int)) : Tok)])
      else if byt s i = 40 then refN n s (i + 1) (acc ++ [((3, s.extract i (i + 1), (i : Int)) : Tok)]) else if byt s i = 41 then refN n s (i + 1) (acc ++ [((3, s.extract i (i + 1), (i : Int)) : Tok)])
      else if byt s i = 91 then refN n s (i + 1) (acc ++ [((3, s.extract i (i + 1), (i : Int)) : Tok)]) else if byt s i = 93 then refN n s (i + 1) (acc ++ [((3, s.extract i (i + 1), (i : Int)) : Tok)])
      else if byt s i = 59 then refN n s (i + 1) (acc ++ [((3, s.extract i (i + 1), (i : Int)) : Tok)]) else (none, (i : Int)))
    else (some acc, -1)
def refF (s : ByteArray) : Option (List Tok) × Int := refN (s.size + 1) s 0 []
def knd (t : Tok) : List C := [.v (.int .i64 t.1)]
def txt (t : Tok) : List C := [.v (.string t.2.1)]
def plc (t : Tok) : List C := [.v (.int .i64 t.2.2)]
def colC (f : Tok → List C) (o : Option (List Tok)) : C := .s true (o.elim 0 fun _ => 1) (o.elim [] fun l => l.map f)
theorem knd_nb (l : List Tok) : rowsNB (l.map knd) = true := nb_map (fun _ => rfl)
theorem txt_nb (l : List Tok) : rowsNB (l.map txt) = true := nb_map (fun _ => rfl)
theorem plc_nb (l : List Tok) : rowsNB (l.map plc) = true := nb_map (fun _ => rfl)
theorem notNL_t {c : Int} (h : ¬ c = 10) : notNL c = true := by simp [notNL, h]
theorem notNL_f {c : Int} (h : c = 10) : notNL c = false := by simp [notNL, h]
theorem word_l {c : Int} (h : isLetter c = true) : isWordC c = true := by simp [isWordC, h]
theorem word_d {c : Int} (h : isDigit c = true) : isWordC c = true := by simp [isWordC, h]
theorem word_f {c : Int} (h : isLetter c = false) (h2 : isDigit c = false) : isWordC c = false := by simp [isWordC, h, h2]
theorem letter_at (c : Int) : pU8 isLetter [.c (.v (.int .u8 c))] = some (dB (isLetter c)) := rfl
theorem quoteR_at (s : ByteArray) (p : Nat) (hs : s.size ≤ 1000000) (hp : p < s.size) : pQuoteR [.c (.v (.string s)), .c (.v (.int .i64 p))] = some (.t [.c (.v (.string (quoteRF s p).1)), .c (.v (.int .i64 (quoteRF s p).2))]) :=
  famP_at (fun a b h => by
    obtain ⟨a, a'⟩ := a
    obtain ⟨b, b'⟩ := b
    simp only [List.cons.injEq, D.c.injEq, C.v.injEq, Value.int.injEq, Value.string.injEq, and_true, true_and] at h
    obtain ⟨rfl, h⟩ := h
    obtain rfl : a' = b' := by omega
    rfl) (s, p) ⟨hs, hp⟩ rfl
theorem quoteR_in : ∀ (n : Nat) (s : ByteArray) (i : Nat) (acc : ByteArray), i ≤ s.size → (quoteR n s i acc).2 < 0 ∨ ((i : Int) < (quoteR n s i acc).2 ∧ (quoteR n s i acc).2 ≤ s.size)
  | 0, s, i, acc, h => .inl (show (-1 : Int) < 0 by decide)
  | n + 1, s, i, acc, h => by
    have hno : (noText, (-1 : Int)).2 < 0 := by decide
    simp only [quoteR]
    split
    · rename_i h0
      split
      · exact .inr ⟨by dsimp only; omega, by dsimp only; omega⟩
      split
      · rcases quoteR_in n s (i + 1) (acc ++ s.extract i (i + 1)) (by omega) with h1 | h1
        · exact .inl h1
        · exact .inr ⟨by omega, h1.2⟩
      split
      · split
        · exact .inl hno
        split
        · split
          · exact .inl hno
          split
          · exact .inl hno
          split
          · exact .inl hno
          · rename_i h3 _ _ _ _
            rcases quoteR_in n s (i + 4) (acc ++ ⟨#[UInt8.ofNat (16 * nibR (byU s (i + 2)).toNat + nibR (byU s (i + 3)).toNat).toNat]⟩) (by omega) with h1 | h1
            · exact .inl h1
            · exact .inr ⟨by omega, h1.2⟩
        · exact .inl hno
      · exact .inl hno
    · exact .inl hno
theorem quoteRF_in {s : ByteArray} {p : Nat} (h : p < s.size) : (quoteRF s p).2 < 0 ∨ ((p : Int) < (quoteRF s p).2 ∧ (quoteRF s p).2 ≤ s.size) := by
  rcases quoteR_in (s.size + 1) s (p + 1) noText h with h1 | h1
  · exact .inl h1
  · exact .inr ⟨by have := h1.1; show (p : Int) < (quoteR (s.size + 1) s (p + 1) noText).2; omega, h1.2⟩
theorem quoteR_size : ∀ (n : Nat) (s : ByteArray) (i : Nat) (acc : ByteArray), i ≤ s.size → acc.size ≤ i → (quoteR n s i acc).1.size ≤ s.size
  | 0, s, i, acc, h, ha => Nat.zero_le _
  | n + 1, s, i, acc, h, ha => by
    have hno : (noText, (-1 : Int)).1.size ≤ s.size := Nat.zero_le _
    simp only [quoteR]
    split
    · rename_i h0
      split
      · exact Nat.le_trans ha h
      split
      · exact quoteR_size n s (i + 1) _ (by omega) (by rw [ByteArray.size_append, ByteArray.size_extract]; omega)
      split
      · split
        · exact hno
        split
        · split
          · exact hno
          split
          · exact hno
          split
          · exact hno
          · exact quoteR_size n s (i + 4) _ (by omega) (by rw [ByteArray.size_append]; show acc.size + 1 ≤ i + 4; omega)
        · exact hno
      · exact hno
    · exact hno
noncomputable def FsT3 : Fs := { Fs.none with pure := fun k => if k = 29 then some (pU8 isLetter) else if k = 30 then some (pU8 isDigit) else if k = 31 then some pQuoteR else none }
theorem okT3 : FsOK Try.prog FsT3 := by
  refine ⟨fun k f h => ?_, fun _ _ h => (by cases h)⟩
  simp only [FsT3] at h
  split at h
  · rename_i hk; subst hk; cases h; exact ⟨by kernel_rfl, meets29⟩
  split at h
  · rename_i hk; subst hk; cases h; exact ⟨by kernel_rfl, meets30⟩
  split at h
  · rename_i hk; subst hk; cases h; exact ⟨by kernel_rfl, meets31⟩
  · cases h
noncomputable def pRefT : List D → Option D := famP (fun s : ByteArray => s.size ≤ 1000000) (fun s => [.c (.v (.string s))]) (fun s => .t [.c (colC knd (refF s).1), .c (colC txt (refF s).1), .c (colC plc (refF s).1), .c (.v (.int .i64 (refF s).2))])
set_option maxRecDepth 100000 in
set_option maxHeartbeats 4000000 in
theorem meets12 : Meets Try.prog 12 (pureS pRefT) := by
  refine meets_famP (show Try.prog.funcs[12]? = some Try.f12 by kernel_rfl) rfl (n := 166) rfl (rs := [ResultVar.tmp 2, ResultVar.tmp 3, ResultVar.tmp 4, ResultVar.tmp 5]) rfl ?_
  intro s hs Q hQ
  have hsm : s.size ≤ maxStr := by unfold maxStr; omega
  obtain ⟨res, hres⟩ : ∃ res, refF s = res := ⟨_, rfl⟩
  rw [hres] at hQ
  have hQ1 : ∀ a, (none, a) = res → Q (.t [.c (colC knd none), .c (colC txt none), .c (colC plc none), .c (.v (.int .i64 a))]) [] := by
    intro a h; subst h; exact hQ
  have hQ2 : ∀ a, (some a, (-1 : Int)) = res → Q (.t [.c (colC knd (some a)), .c (colC txt (some a)), .c (colC plc (some a)), .c (.v (.int .i64 (-1)))]) [] := by
    intro a h; subst h; exact hQ
  clear hQ
  unfold refF at hres
  have hc0 : ((0 : Nat) : Int) = 0 := rfl
  refine seq_run okT3 rfl (by repeat (first | with_reducible exact runf_nil | refine runf_cons (by simp only [xstep, stepf, stepx, qev, St.ev, St.put, constD, constC, List.set_cons_zero, List.set_cons_succ, List.replicate, List.length_cons, List.length_nil, List.cons_append, List.nil_append, Option.map_some, Nat.reduceSub, Option.some.injEq, Nat.zero_add]; rfl) ?_)) ?_
  refine seq_run okT3 rfl (by repeat (first | with_reducible exact runf_nil | refine runf_cons (by simp only [xstep, stepf, stepx, qev, St.ev, St.put, constD, constC, List.set_cons_zero, List.set_cons_succ, Option.map_some, Option.some.injEq]; rfl) ?_)) ?_
  refine seq_run okT3 rfl (by repeat (first | with_reducible exact runf_nil | refine runf_cons (by simp only [xstep, stepf, stepx, qev, St.ev, St.put, constD, constC, List.set_cons_zero, List.set_cons_succ, Option.map_some, Option.some.injEq]; rfl) ?_)) ?_
  refine seq_run okT3 rfl (by repeat (first | with_reducible exact runf_nil | refine runf_cons (by simp only [xstep, stepf, stepx, qev, St.ev, St.put, constD, constC, List.set_cons_zero, List.set_cons_succ, Option.map_some, Option.some.injEq]; rfl) ?_)) ?_
  refine seq_in (tri_block ?_)
  refine tri_nil 6 1 rfl ?_
  show Tri _ _ _ _
  refine tri_nil 7 1 rfl ?_
  show Tri _ _ _ _
  refine tri_nil 8 1 rfl ?_
  show Tri _ _ _ _
  refine tri_loop_le (fun m A => ∃ (f i n : Nat) (acc : List Tok) (rk rp rt : List (List C)) (T : List (Option Root)), i ≤ s.size ∧ acc.length ≤ i ∧ m = s.size - i ∧ m < f ∧ n = acc.length ∧ rk = acc.map knd ∧ rp = acc.map plc ∧ rt = acc.map txt ∧ refN f s i acc = res ∧ A = ⟨[.c (.v (.string s)), .top, .top, .top, .top, .top, .c (.h 0 0 n), .c (.h 1 0 n), .c (.h 2 0 n), .c (.v (.int .i64 (i : Nat))), .top, .top, .top, .top, .top, .top, .top, .top, .top, .top, .top, .top, .top, .top, .top, .top, .top, .top, .top, .top, .top, .top, .top, .top, .top, .top, .top, .top, .top, .top, .top, .top, .top, .top, .top, .top, .top, .top, .top, .top, .top, .top, .top, .top, .top, .top, .top, .top, .top, .top, .top, .top, .top, .top, .top, .top, .top, .top, .top, .top, .top, .top, .top, .top, .top, .top, .top, .top, .top, .top, .top, .top, .top, .top, .top, .top, .top, .top, .top, .top, .top, .top, .top, .top, .top, .top, .top, .top, .top, .top, .top, .top, .top, .top, .top, .top, .top, .top, .top, .top, .top, .top, .top, .top, .top, .top, .top, .top, .top, .top, .top, .top, .top, .top, .top, .top, .top, .top, .top, .top, .top, .top, .top, .top, .top, .top, .top, .top, .top, .top, .top, .top, .top, .top, .top, .top, .top, .top, .top, .top, .top, .top, .top, .top, .top, .top, .top, .top, .top, .top, .top, .top, .top, .top, .top, .top], some ⟨true, 1, rk⟩ :: some ⟨true, 1, rp⟩ :: some ⟨true, 1, rt⟩ :: T⟩) s.size (B := ⟨[.c (.v (.string s)), .top, .top, .top, .top, .top, .c (.h 0 0 0), .c (.h 1 0 0), .c (.h 2 0 0), .c (.v (.int .i64 (0 : Nat))), .top, .top, .top, .top, .top, .top, .top, .top, .top, .top, .top, .top, .top, .top, .top, .top, .top, .top, .top, .top, .top, .top, .top, .top, .top, .top, .top, .top, .top, .top, .top, .top, .top, .top, .top, .top, .top, .top, .top, .top, .top, .top, .top, .top, .top, .top, .top, .top, .top, .top, .top, .top, .top, .top, .top, .top, .top, .top, .top, .top, .top, .top, .top, .top, .top, .top, .top, .top, .top, .top, .top, .top, .top, .top, .top, .top, .top, .top, .top, .top, .top, .top, .top, .top, .top, .top, .top, .top, .top, .top, .top, .top, .top, .top, .top, .top, .top, .top, .top, .top, .top, .top, .top, .top, .top, .top, .top, .top, .top, .top, .top, .top, .top, .top, .top, .top, .top, .top, .top, .top, .top, .top, .top, .top, .top, .top, .top, .top, .top, .top, .top, .top, .top, .top, .top, .top, .top, .top, .top, .top, .top, .top, .top, .top, .top, .top, .top, .top, .top, .top, .top, .top, .top, .top, .top, .top], [some ⟨true, 1, []⟩, some ⟨true, 1, []⟩, some ⟨true, 1, []⟩]⟩) ⟨by repeat (first | exact .nil | refine .same ?_ | refine .top ?_), rfl⟩ ⟨s.size + 1, 0, 0, [], [], [], [], [], Nat.zero_le _, Nat.zero_le _, rfl, by omega, rfl, rfl, rfl, rfl, hres, rfl⟩ ?_
  rintro m A ⟨f, i, n, acc, rk, rp, rt, T, hi, hacc, hm, hf, hn, hrk, hrp, hrt, hk, rfl⟩
  obtain ⟨f, rfl⟩ : ∃ f2, f = f2 + 1 := ⟨f - 1, by omega⟩
  have hb : ∀ j, ((s.data.toList.getD j 0).toNat : Int) = byt s j := fun _ => rfl
  have hq1 : (i : Int) + 1 = ((i + 1 : Nat) : Int) := by omega
  have hQt := fun (h : ((i : Nat) : Int) < ((s.size : Nat) : Int)) => quoteR_at s i hs (by omega)
  have hQi := fun (h : ((i : Nat) : Int) < ((s.size : Nat) : Int)) => quoteRF_in (s := s) (p := i) (by omega)
  have hlk : rk.length = n := (by rw [hrk, hn, List.length_map])
  have hlp : rp.length = n := (by rw [hrp, hn, List.length_map])
  have hlt : rt.length = n := (by rw [hrt, hn, List.length_map])
  have htk : rk.take n = rk := List.take_of_length_le (by omega)
  have htp : rp.take n = rp := List.take_of_length_le (by omega)
  have htt : rt.take n = rt := List.take_of_length_le (by omega)
  have hnk : rowsNB rk = true := (by rw [hrk]; exact knd_nb _)
  have hnp : rowsNB rp = true := (by rw [hrp]; exact plc_nb _)
  have hnt : rowsNB rt = true := (by rw [hrt]; exact txt_nb _)
  have hne0 : ∀ k : Nat, (k + 1 + 1 + 1 != 0) = true := (by intro k; simp)
  have hne1 : ∀ k : Nat, (k + 1 + 1 + 1 != 1) = true := (by intro k; simp)
  have hne2 : ∀ k : Nat, (k + 1 + 1 + 1 != 2) = true := (by intro k; simp)
  have hz8 : (n + 1) * 8 ≤ 140737488355328 := (by omega)
  have hz16 : (n + 1) * 16 ≤ 140737488355328 := (by omega)
  have hd13 : ∀ x y : Nat, IntKind.i64 = IntKind.i64 := fun _ _ => rfl
  refine seq_in ?_
  refine seq_run okT3 rfl (by repeat (first | with_reducible exact runf_nil | refine runf_cons (by simp only [xstep, stepf, stepx, qev, St.ev, St.put, qint, qshift, isShift, qbin, qlen, qbuiltin, List.getElem?_cons_zero, List.getElem?_cons_succ, List.set_cons_zero, List.set_cons_succ, Option.bind_some, Option.map_some, Option.map_none, if_true, if_false, Option.some.injEq, Bool.false_eq_true, tk9]; rfl) ?_)) ?_
  refine tri_cond rfl (fun a0 => ?_) (fun a0 => ?_)
  ·
    simp only [decide_eq_true_eq] at a0
    refine then_skip ?_
    refine tri_block ?_
    refine seq_run okT3 rfl (by repeat (first | with_reducible exact runf_nil | refine runf_cons (by simp only [xstep, stepf, stepx, qev, St.ev, St.put, D.int, qindex, List.getElem?_cons_zero, List.getElem?_cons_succ, List.set_cons_zero, List.set_cons_succ, Option.bind_some, Option.map_some, if_true, and_self, decide_true, Option.some.injEq, Int.toNat_natCast, Int.natCast_nonneg, hb, tk9, a0]; rfl) ?_)) ?_
    refine seq_in ?_
    by_cases a1 : (byt s i = 32)
    ·
      refine seq_run okT3 rfl (by repeat (first | with_reducible exact runf_nil | refine runf_cons (by simp only [xstep, stepf, stepx, qev, St.ev, St.put, qpick, qint, qshift, isEq, qeq, isShift, qbin, constD, constC, List.getElem?_cons_zero, List.getElem?_cons_succ, List.set_cons_zero, List.set_cons_succ, Option.bind_some, Option.map_some, Option.map_none, if_true, if_false, decide_true, cond_true, List.getElem?_toArray, Option.some.injEq, reduceCtorEq, Bool.false_eq_true, eq_true a1]; rfl) ?_)) ?_
      refine tri_cond (b := true) rfl (fun _ => ?_) (fun h => by cases h)
      refine seq_run okT3 rfl (by repeat (first | with_reducible exact runf_nil | refine runf_cons (by simp only [xstep, stepf, stepx, qev, St.ev, St.put, qint, qshift, isShift, qbin, constD, constC, List.getElem?_cons_zero, List.getElem?_cons_succ, List.set_cons_zero, List.set_cons_succ, Option.map_some, Option.map_none, if_true, if_false, Option.some.injEq, Bool.false_eq_true, hq1, show IntKind.i64.wrap (↑(i + 1) : Int) = _ from wrap_i64 _ (by omega) (by omega)]; rfl) ?_)) ?_
      refine tri_exit ?_
      simp only []
      (simp only [refN, reduceIte, ↓reduceIte, a0, eq_true a1] at hk; exact ⟨s.size - (i + 1), by omega, ⟨[.c (.v (.string s)), .top, .top, .top, .top, .top, .c (.h 0 0 n), .c (.h 1 0 n), .c (.h 2 0 n), .c (.v (.int .i64 (i + 1 : Nat))), .top, .top, .top, .top, .top, .top, .top, .top, .top, .top, .top, .top, .top, .top, .top, .top, .top, .top, .top, .top, .top, .top, .top, .top, .top, .top, .top, .top, .top, .top, .top, .top, .top, .top, .top, .top, .top, .top, .top, .top, .top, .top, .top, .top, .top, .top, .top, .top, .top, .top, .top, .top, .top, .top, .top, .top, .top, .top, .top, .top, .top, .top, .top, .top, .top, .top, .top, .top, .top, .top, .top, .top, .top, .top, .top, .top, .top, .top, .top, .top, .top, .top, .top, .top, .top, .top, .top, .top, .top, .top, .top, .top, .top, .top, .top, .top, .top, .top, .top, .top, .top, .top, .top, .top, .top, .top, .top, .top, .top, .top, .top, .top, .top, .top, .top, .top, .top, .top, .top, .top, .top, .top, .top, .top, .top, .top, .top, .top, .top, .top, .top, .top, .top, .top, .top, .top, .top, .top, .top, .top, .top, .top, .top, .top, .top, .top, .top, .top, .top, .top, .top, .top, .top, .top, .top, .top], _⟩, ⟨by repeat (first | exact .nil | refine .same ?_ | refine .top ?_), rfl⟩, f, i + 1, n, acc, _, _, _, _, (by omega), (by omega), rfl, by omega, hn, hrk, hrp, hrt, hk, rfl⟩)
    ·
      by_cases a2 : (byt s i = 9)
      ·
        refine seq_run okT3 rfl (by repeat (first | with_reducible exact runf_nil | refine runf_cons (by simp only [xstep, stepf, stepx, qev, St.ev, St.put, qpick, qint, qshift, isEq, qeq, isShift, qbin, constD, constC, List.getElem?_cons_zero, List.getElem?_cons_succ, List.set_cons_zero, List.set_cons_succ, Option.bind_some, Option.map_some, Option.map_none, if_true, if_false, decide_true, decide_false, cond_true, cond_false, List.getElem?_toArray, Option.some.injEq, reduceCtorEq, Bool.false_eq_true, eq_false a1, eq_true a2]; rfl) ?_)) ?_
        refine tri_cond (b := true) rfl (fun _ => ?_) (fun h => by cases h)
        refine seq_run okT3 rfl (by repeat (first | with_reducible exact runf_nil | refine runf_cons (by simp only [xstep, stepf, stepx, qev, St.ev, St.put, qint, qshift, isShift, qbin, constD, constC, List.getElem?_cons_zero, List.getElem?_cons_succ, List.set_cons_zero, List.set_cons_succ, Option.map_some, Option.map_none, if_true, if_false, Option.some.injEq, Bool.false_eq_true, hq1, show IntKind.i64.wrap (↑(i + 1) : Int) = _ from wrap_i64 _ (by omega) (by omega)]; rfl) ?_)) ?_
        refine tri_exit ?_
        simp only []
        (simp only [refN, reduceIte, ↓reduceIte, a0, eq_false a1, eq_true a2] at hk; exact ⟨s.size - (i + 1), by omega, ⟨[.c (.v (.string s)), .top, .top, .top, .top, .top, .c (.h 0 0 n), .c (.h 1 0 n), .c (.h 2 0 n), .c (.v (.int .i64 (i + 1 : Nat))), .top, .top, .top, .top, .top, .top, .top, .top, .top, .top, .top, .top, .top, .top, .top, .top, .top, .top, .top, .top, .top, .top, .top, .top, .top, .top, .top, .top, .top, .top, .top, .top, .top, .top, .top, .top, .top, .top, .top, .top, .top, .top, .top, .top, .top, .top, .top, .top, .top, .top, .top, .top, .top, .top, .top, .top, .top, .top, .top, .top, .top, .top, .top, .top, .top, .top, .top, .top, .top, .top, .top, .top, .top, .top, .top, .top, .top, .top, .top, .top, .top, .top, .top, .top, .top, .top, .top, .top, .top, .top, .top, .top, .top, .top, .top, .top, .top, .top, .top, .top, .top, .top, .top, .top, .top, .top, .top, .top, .top, .top, .top, .top, .top, .top, .top, .top, .top, .top, .top, .top, .top, .top, .top, .top, .top, .top, .top, .top, .top, .top, .top, .top, .top, .top, .top, .top, .top, .top, .top, .top, .top, .top, .top, .top, .top, .top, .top, .top, .top, .top, .top, .top, .top, .top, .top, .top], _⟩, ⟨by repeat (first | exact .nil | refine .same ?_ | refine .top ?_), rfl⟩, f, i + 1, n, acc, _, _, _, _, (by omega), (by omega), rfl, by omega, hn, hrk, hrp, hrt, hk, rfl⟩)
      ·
        refine seq_run okT3 rfl (by repeat (first | with_reducible exact runf_nil | refine runf_cons (by simp only [xstep, stepf, stepx, qev, St.ev, St.put, qpick, qint, qshift, isShift, qbin, constD, constC, List.getElem?_cons_zero, List.getElem?_cons_succ, List.set_cons_zero, List.set_cons_succ, Option.bind_some, Option.map_some, Option.map_none, if_true, if_false, decide_false, cond_false, List.getElem?_toArray, Option.some.injEq, Bool.false_eq_true, eq_false a1, eq_false a2]; rfl) ?_)) ?_
        refine tri_cond rfl (fun a3 => ?_) (fun a3 => ?_)
        ·
          simp only [decide_eq_true_eq] at a3
          refine seq_run okT3 rfl (by repeat (first | with_reducible exact runf_nil | refine runf_cons (by simp only [xstep, stepf, stepx, qev, St.ev, St.put, qint, qshift, isShift, qbin, constD, constC, List.getElem?_cons_zero, List.getElem?_cons_succ, List.set_cons_zero, List.set_cons_succ, Option.map_some, Option.map_none, if_true, if_false, decide_true, Option.some.injEq, Bool.false_eq_true, hq1, a3, show IntKind.i64.wrap (↑(i + 1) : Int) = _ from wrap_i64 _ (by omega) (by omega)]; rfl) ?_)) ?_
          refine tri_exit ?_
          simp only []
          (simp only [refN, reduceIte, ↓reduceIte, Int.reduceEq, a0, a3] at hk; exact ⟨s.size - (i + 1), by omega, ⟨[.c (.v (.string s)), .top, .top, .top, .top, .top, .c (.h 0 0 n), .c (.h 1 0 n), .c (.h 2 0 n), .c (.v (.int .i64 (i + 1 : Nat))), .top, .top, .top, .top, .top, .top, .top, .top, .top, .top, .top, .top, .top, .top, .top, .top, .top, .top, .top, .top, .top, .top, .top, .top, .top, .top, .top, .top, .top, .top, .top, .top, .top, .top, .top, .top, .top, .top, .top, .top, .top, .top, .top, .top, .top, .top, .top, .top, .top, .top, .top, .top, .top, .top, .top, .top, .top, .top, .top, .top, .top, .top, .top, .top, .top, .top, .top, .top, .top, .top, .top, .top, .top, .top, .top, .top, .top, .top, .top, .top, .top, .top, .top, .top, .top, .top, .top, .top, .top, .top, .top, .top, .top, .top, .top, .top, .top, .top, .top, .top, .top, .top, .top, .top, .top, .top, .top, .top, .top, .top, .top, .top, .top, .top, .top, .top, .top, .top, .top, .top, .top, .top, .top, .top, .top, .top, .top, .top, .top, .top, .top, .top, .top, .top, .top, .top, .top, .top, .top, .top, .top, .top, .top, .top, .top, .top, .top, .top, .top, .top, .top, .top, .top, .top, .top, .top], _⟩, ⟨by repeat (first | exact .nil | refine .same ?_ | refine .top ?_), rfl⟩, f, i + 1, n, acc, _, _, _, _, (by omega), (by omega), rfl, by omega, hn, hrk, hrp, hrt, hk, rfl⟩)
        ·
          simp only [decide_eq_false_iff_not] at a3
          refine then_skip ?_
          refine seq_in ?_
          refine seq_run okT3 rfl (by repeat (first | with_reducible exact runf_nil | refine runf_cons (by simp only [xstep, stepf, stepx, qev, St.ev, St.put, qint, qshift, isShift, qbin, constD, constC, List.getElem?_cons_zero, List.getElem?_cons_succ, List.set_cons_zero, List.set_cons_succ, Option.map_some, Option.map_none, if_true, if_false, decide_false, Option.some.injEq, Bool.false_eq_true, a3]; rfl) ?_)) ?_
          refine tri_cond rfl (fun a4 => ?_) (fun a4 => ?_)
          ·
            simp only [decide_eq_true_eq] at a4
            refine seq_in (tri_block ?_)
            refine tri_loop_le (fun m2 A => ∃ j : Nat, m2 = s.size - j ∧ i ≤ j ∧ j ≤ s.size ∧ runF notNL s j = runF notNL s (i) ∧ A = ⟨[.c (.v (.string s)), .top, .top, .top, .top, .top, .c (.h 0 0 n), .c (.h 1 0 n), .c (.h 2 0 n), .c (.v (.int .i64 (j : Nat))), .top, .top, .top, .top, .top, .top, .top, .top, .top, .top, .top, .top, .top, .top, .top, .top, .top, .top, .top, .top, .top, .top, .top, .top, .top, .top, .top, .top, .top, .top, .top, .top, .top, .top, .top, .top, .top, .top, .top, .top, .top, .top, .top, .top, .top, .top, .top, .top, .top, .top, .top, .top, .top, .top, .top, .top, .top, .top, .top, .top, .top, .top, .top, .top, .top, .top, .top, .top, .top, .top, .top, .top, .top, .top, .top, .top, .top, .top, .top, .top, .top, .top, .top, .top, .top, .top, .top, .top, .top, .top, .top, .top, .top, .top, .top, .top, .top, .top, .top, .top, .top, .top, .top, .top, .top, .top, .top, .top, .top, .top, .top, .top, .top, .top, .top, .top, .top, .top, .top, .top, .top, .top, .top, .top, .top, .top, .top, .top, .top, .top, .top, .top, .top, .top, .top, .top, .top, .top, .top, .top, .top, .top, .top, .top, .top, .top, .top, .top, .top, .top, .top, .top, .top, .top, .top, .top], some ⟨true, 1, rk⟩ :: some ⟨true, 1, rp⟩ :: some ⟨true, 1, rt⟩ :: T⟩) (s.size - (i)) (B := ⟨[.c (.v (.string s)), .top, .top, .top, .top, .top, .c (.h 0 0 n), .c (.h 1 0 n), .c (.h 2 0 n), .c (.v (.int .i64 (i : Nat))), .top, .top, .top, .top, .top, .top, .top, .top, .top, .top, .top, .top, .top, .top, .top, .top, .top, .top, .top, .top, .top, .top, .top, .top, .top, .top, .top, .top, .top, .top, .top, .top, .top, .top, .top, .top, .top, .top, .top, .top, .top, .top, .top, .top, .top, .top, .top, .top, .top, .top, .top, .top, .top, .top, .top, .top, .top, .top, .top, .top, .top, .top, .top, .top, .top, .top, .top, .top, .top, .top, .top, .top, .top, .top, .top, .top, .top, .top, .top, .top, .top, .top, .top, .top, .top, .top, .top, .top, .top, .top, .top, .top, .top, .top, .top, .top, .top, .top, .top, .top, .top, .top, .top, .top, .top, .top, .top, .top, .top, .top, .top, .top, .top, .top, .top, .top, .top, .top, .top, .top, .top, .top, .top, .top, .top, .top, .top, .top, .top, .top, .top, .top, .top, .top, .top, .top, .top, .top, .top, .top, .top, .top, .top, .top, .top, .top, .top, .top, .top, .top, .top, .top, .top, .top, .top, .top], some ⟨true, 1, rk⟩ :: some ⟨true, 1, rp⟩ :: some ⟨true, 1, rt⟩ :: T⟩) ⟨by repeat (first | exact .nil | refine .same ?_ | refine .top ?_), rfl⟩ ⟨i, rfl, by omega, by omega, rfl, rfl⟩ ?_
            rintro m2 A ⟨j, hm2, hij, hj, hrun, rfl⟩
            have hq5 : (j : Int) + 1 = ((j + 1 : Nat) : Int) := by omega
            refine seq_in ?_
            by_cases a5 : ((↑j : Int) < (↑s.size : Int))
            ·
              refine seq_run okT3 rfl (by repeat (first | with_reducible exact runf_nil | refine runf_cons (by simp only [xstep, stepf, stepx, qev, St.ev, St.put, D.int, qindex, qpick, qint, qshift, isShift, qbin, qlen, qbuiltin, constD, constC, List.getElem?_cons_zero, List.getElem?_cons_succ, List.set_cons_zero, List.set_cons_succ, Option.bind_some, Option.map_some, Option.map_none, if_true, if_false, and_self, decide_true, cond_true, List.getElem?_toArray, Option.some.injEq, Bool.false_eq_true, Int.toNat_natCast, Int.natCast_nonneg, hb, tk9, eq_true a5]; rfl) ?_)) ?_
              refine tri_cond rfl (fun a6 => ?_) (fun a6 => ?_)
              ·
                simp only [decide_eq_false_iff_not, Bool.not_eq_true'] at a6
                refine then_skip ?_
                refine tri_block ?_
                refine run_end okT3 rfl (by repeat (first | with_reducible exact runf_nil | refine runf_cons (by simp only [xstep, stepf, stepx, qev, St.ev, St.put, qint, qshift, isShift, qbin, constD, constC, List.getElem?_cons_zero, List.getElem?_cons_succ, List.set_cons_zero, List.set_cons_succ, Option.map_some, Option.map_none, if_true, if_false, decide_false, Bool.not_false, Option.some.injEq, Bool.false_eq_true, hq5, a6, show IntKind.i64.wrap (↑(j + 1) : Int) = _ from wrap_i64 _ (by omega) (by omega)]; rfl) ?_)) ?_
                simp only []
                (exact ⟨s.size - (j + 1), by omega, ⟨[.c (.v (.string s)), .top, .top, .top, .top, .top, .c (.h 0 0 n), .c (.h 1 0 n), .c (.h 2 0 n), .c (.v (.int .i64 (j + 1 : Nat))), .top, .top, .top, .top, .top, .top, .top, .top, .top, .top, .top, .top, .top, .top, .top, .top, .top, .top, .top, .top, .top, .top, .top, .top, .top, .top, .top, .top, .top, .top, .top, .top, .top, .top, .top, .top, .top, .top, .top, .top, .top, .top, .top, .top, .top, .top, .top, .top, .top, .top, .top, .top, .top, .top, .top, .top, .top, .top, .top, .top, .top, .top, .top, .top, .top, .top, .top, .top, .top, .top, .top, .top, .top, .top, .top, .top, .top, .top, .top, .top, .top, .top, .top, .top, .top, .top, .top, .top, .top, .top, .top, .top, .top, .top, .top, .top, .top, .top, .top, .top, .top, .top, .top, .top, .top, .top, .top, .top, .top, .top, .top, .top, .top, .top, .top, .top, .top, .top, .top, .top, .top, .top, .top, .top, .top, .top, .top, .top, .top, .top, .top, .top, .top, .top, .top, .top, .top, .top, .top, .top, .top, .top, .top, .top, .top, .top, .top, .top, .top, .top, .top, .top, .top, .top, .top, .top], some ⟨true, 1, rk⟩ :: some ⟨true, 1, rp⟩ :: some ⟨true, 1, rt⟩ :: T⟩, ⟨by repeat (first | exact .nil | refine .same ?_ | refine .top ?_), rfl⟩, j + 1, rfl, by omega, by omega, (by rw [← hrun]; exact (runF_go (by omega) (notNL_t (by omega))).symm), rfl⟩)
              ·
                simp only [decide_eq_true_eq, Bool.not_eq_false'] at a6
                refine tri_exit ?_
                show Tri _ _ _ _
                refine tri_exit ?_
                simp only []
                (have hr : runF notNL s i = j := (by rw [← hrun]; exact runF_stop (fun h => by first | (exfalso; omega) | exact notNL_f (by omega))); have hgt : i < runF notNL s i := runF_gt (by omega) (notNL_t (by omega)); simp only [refN, hr, reduceIte, ↓reduceIte, Int.reduceEq, a0, a4] at hk; exact ⟨s.size - (j), by omega, ⟨[.c (.v (.string s)), .top, .top, .top, .top, .top, .c (.h 0 0 n), .c (.h 1 0 n), .c (.h 2 0 n), .c (.v (.int .i64 (j : Nat))), .top, .top, .top, .top, .top, .top, .top, .top, .top, .top, .top, .top, .top, .top, .top, .top, .top, .top, .top, .top, .top, .top, .top, .top, .top, .top, .top, .top, .top, .top, .top, .top, .top, .top, .top, .top, .top, .top, .top, .top, .top, .top, .top, .top, .top, .top, .top, .top, .top, .top, .top, .top, .top, .top, .top, .top, .top, .top, .top, .top, .top, .top, .top, .top, .top, .top, .top, .top, .top, .top, .top, .top, .top, .top, .top, .top, .top, .top, .top, .top, .top, .top, .top, .top, .top, .top, .top, .top, .top, .top, .top, .top, .top, .top, .top, .top, .top, .top, .top, .top, .top, .top, .top, .top, .top, .top, .top, .top, .top, .top, .top, .top, .top, .top, .top, .top, .top, .top, .top, .top, .top, .top, .top, .top, .top, .top, .top, .top, .top, .top, .top, .top, .top, .top, .top, .top, .top, .top, .top, .top, .top, .top, .top, .top, .top, .top, .top, .top, .top, .top, .top, .top, .top, .top, .top, .top], _⟩, ⟨by repeat (first | exact .nil | refine .same ?_ | refine .top ?_), rfl⟩, f, j, n, acc, _, _, _, _, hj, (by omega), rfl, by omega, hn, hrk, hrp, hrt, hk, rfl⟩)
            ·
              refine seq_run okT3 rfl (by repeat (first | with_reducible exact runf_nil | refine runf_cons (by simp only [xstep, stepf, stepx, qev, St.ev, St.put, D.int, qpick, qint, qshift, isEq, qeq, isShift, qbin, qlen, qbuiltin, constD, constC, List.getElem?_cons_zero, List.getElem?_cons_succ, List.set_cons_zero, List.set_cons_succ, Option.bind_some, Option.map_some, Option.map_none, if_true, if_false, decide_false, cond_false, List.getElem?_toArray, Option.some.injEq, Bool.false_eq_true, tk9, eq_false a5]; rfl) ?_)) ?_
              refine tri_cond (b := false) rfl (fun h => by cases h) (fun _ => ?_)
              refine tri_exit ?_
              show Tri _ _ _ _
              refine tri_exit ?_
              simp only []
              (have hr : runF notNL s i = j := (by rw [← hrun]; exact runF_stop (fun h => by first | (exfalso; omega) | exact notNL_f (by omega))); have hgt : i < runF notNL s i := runF_gt (by omega) (notNL_t (by omega)); simp only [refN, hr, reduceIte, ↓reduceIte, Int.reduceEq, a0, a4] at hk; exact ⟨s.size - (j), by omega, ⟨[.c (.v (.string s)), .top, .top, .top, .top, .top, .c (.h 0 0 n), .c (.h 1 0 n), .c (.h 2 0 n), .c (.v (.int .i64 (j : Nat))), .top, .top, .top, .top, .top, .top, .top, .top, .top, .top, .top, .top, .top, .top, .top, .top, .top, .top, .top, .top, .top, .top, .top, .top, .top, .top, .top, .top, .top, .top, .top, .top, .top, .top, .top, .top, .top, .top, .top, .top, .top, .top, .top, .top, .top, .top, .top, .top, .top, .top, .top, .top, .top, .top, .top, .top, .top, .top, .top, .top, .top, .top, .top, .top, .top, .top, .top, .top, .top, .top, .top, .top, .top, .top, .top, .top, .top, .top, .top, .top, .top, .top, .top, .top, .top, .top, .top, .top, .top, .top, .top, .top, .top, .top, .top, .top, .top, .top, .top, .top, .top, .top, .top, .top, .top, .top, .top, .top, .top, .top, .top, .top, .top, .top, .top, .top, .top, .top, .top, .top, .top, .top, .top, .top, .top, .top, .top, .top, .top, .top, .top, .top, .top, .top, .top, .top, .top, .top, .top, .top, .top, .top, .top, .top, .top, .top, .top, .top, .top, .top, .top, .top, .top, .top, .top, .top], _⟩, ⟨by repeat (first | exact .nil | refine .same ?_ | refine .top ?_), rfl⟩, f, j, n, acc, _, _, _, _, hj, (by omega), rfl, by omega, hn, hrk, hrp, hrt, hk, rfl⟩)
          ·
            simp only [decide_eq_false_iff_not] at a4
            refine then_skip ?_
            refine seq_run okT3 rfl (by repeat (first | with_reducible exact runf_nil | refine runf_cons (by simp only [xstep, stepf, stepx, qev, St.ev, St.put, List.getElem?_cons_zero, List.getElem?_cons_succ, List.set_cons_zero, List.set_cons_succ, Option.map_some, decide_false, Option.some.injEq, a4]; rfl) ?_)) ?_
            refine seq_run okT3 rfl (by repeat (first | with_reducible exact runf_nil | refine runf_cons (by simp only [xstep, stepf, stepx, qev, St.ev, St.put, constD, constC, List.set_cons_zero, List.set_cons_succ, Option.map_some, Option.some.injEq]; rfl) ?_)) ?_
            refine seq_run okT3 rfl (by repeat (first | with_reducible exact runf_nil | refine runf_cons (by simp only [xstep, stepf, stepx, qev, St.ev, St.put, D.int, qint, qshift, isShift, qbin, qbounds, qslice, omap, constD, constC, List.getElem?_cons_zero, List.getElem?_cons_succ, List.set_cons_zero, List.set_cons_succ, Option.bind_some, Option.map_some, Option.map_none, if_true, if_false, and_self, Option.some.injEq, Bool.false_eq_true, Int.toNat_natCast, Int.natCast_nonneg, hq1, tk9, show IntKind.i64.wrap (↑(i + 1) : Int) = _ from wrap_i64 _ (by omega) (by omega), show ((↑(i + 1) : Int) ≤ (↑s.size : Int)) = True from eq_true (by omega), show ((↑i : Int) ≤ (↑(i + 1) : Int)) = True from eq_true (by omega)]; rfl) ?_)) ?_
            refine seq_cut (fun A' => ∃ (j : Nat) (k : Int) (t : ByteArray) (T2 : List (Option Root)), i < j ∧ j ≤ s.size ∧ refN f s j (acc ++ [(k, t, (i : Int))]) = res ∧ St.Le A' ⟨[.c (.v (.string s)), .top, .top, .top, .top, .top, .c (.h 0 0 n), .c (.h 1 0 n), .c (.h 2 0 n), .c (.v (.int .i64 (j : Nat))), .top, .c (.v (.int .i64 (i : Nat))), .c (.v (.int .i64 k)), .c (.v (.string t)), .top, .top, .top, .top, .top, .top, .top, .top, .top, .top, .top, .top, .top, .top, .top, .top, .top, .top, .top, .top, .top, .top, .top, .top, .top, .top, .top, .top, .top, .top, .top, .top, .top, .top, .top, .top, .top, .top, .top, .top, .top, .top, .top, .top, .top, .top, .top, .top, .top, .top, .top, .top, .top, .top, .top, .top, .top, .top, .top, .top, .top, .top, .top, .top, .top, .top, .top, .top, .top, .top, .top, .top, .top, .top, .top, .top, .top, .top, .top, .top, .top, .top, .top, .top, .top, .top, .top, .top, .top, .top, .top, .top, .top, .top, .top, .top, .top, .top, .top, .top, .top, .top, .top, .top, .top, .top, .top, .top, .top, .top, .top, .top, .top, .top, .top, .top, .top, .top, .top, .top, .top, .top, .top, .top, .top, .top, .top, .top, .top, .top, .top, .top, .top, .top, .top, .top, .top, .top, .top, .top, .top, .top, .top, .top, .top, .top, .top, .top, .top, .top, .top, .top], some ⟨true, 1, rk⟩ :: some ⟨true, 1, rp⟩ :: some ⟨true, 1, rt⟩ :: T2⟩) ?_ ?_
            ·
              rintro A' ⟨j, k, t, T2, hij, hj, hk2, hle⟩
              refine tri_le hle ?_
              refine seq_run okT3 rfl (by repeat (first | with_reducible exact runf_nil | refine runf_cons (by simp only [xstep, stepf, stepx, qev, St.ev, St.put, St.with, D.cells, C.st, C.cp, C.dat, putCells, List.getElem?_cons_zero, List.getElem?_cons_succ, List.set_cons_zero, List.set_cons_succ, List.length_cons, List.length_nil, List.cons_append, List.nil_append, List.append_nil, List.map_nil, List.map_cons, List.all_cons, List.all_nil, List.take_succ_cons, List.take_zero, List.drop_succ_cons, List.drop_zero, Option.bind_some, Option.map_some, Nat.reduceMul, if_true, if_false, and_self, Option.some.injEq, ne_eq, not_false_eq_true, reduceCtorEq, Nat.reduceLeDiff, Nat.le_refl, Nat.reduceBNe, Bool.false_eq_true, Nat.zero_add, bne_self_eq_false, Bool.and_self, htk, hnk, hne0, hz8, last_get, buildSliceA, partsA, fillA, reps, chop, tkApp, appendA, srcRows, srcOther, D.kill, D.no, C.no, killH, Root.kill, tk27, tz3, tsz3, bo3]; rfl) ?_)) ?_
              refine seq_run okT3 rfl (by repeat (first | with_reducible exact runf_nil | refine runf_cons (by simp only [xstep, stepf, stepx, qev, St.ev, St.put, St.with, D.cells, C.st, C.cp, C.dat, putCells, List.getElem?_cons_zero, List.getElem?_cons_succ, List.set_cons_zero, List.set_cons_succ, List.length_cons, List.length_nil, List.cons_append, List.nil_append, List.append_nil, List.map_nil, List.map_cons, List.all_cons, List.all_nil, List.take_succ_cons, List.take_zero, List.drop_succ_cons, List.drop_zero, Option.bind_some, Option.map_some, Nat.reduceMul, if_true, if_false, and_self, Option.some.injEq, ne_eq, not_false_eq_true, reduceCtorEq, Nat.reduceLeDiff, Nat.le_refl, Nat.reduceBNe, Bool.false_eq_true, Nat.zero_add, bne_self_eq_false, Bool.and_self, htt, hnt, hne2, hz16, last_get, buildSliceA, partsA, fillA, reps, chop, tkApp, appendA, srcRows, srcOther, D.kill, D.no, C.no, killH, Root.kill, tk28, tz9, tsz9, bo9]; rfl) ?_)) ?_
              refine run_end okT3 rfl (by repeat (first | with_reducible exact runf_nil | refine runf_cons (by simp only [xstep, stepf, stepx, qev, St.ev, St.put, St.with, D.cells, C.st, C.cp, C.dat, putCells, List.getElem?_cons_zero, List.getElem?_cons_succ, List.set_cons_zero, List.set_cons_succ, List.length_cons, List.length_nil, List.cons_append, List.nil_append, List.append_nil, List.map_nil, List.map_cons, List.all_cons, List.all_nil, List.take_succ_cons, List.take_zero, List.drop_succ_cons, List.drop_zero, Option.bind_some, Option.map_some, Nat.reduceMul, if_true, if_false, and_self, Option.some.injEq, ne_eq, not_false_eq_true, reduceCtorEq, Nat.reduceLeDiff, Nat.le_refl, Nat.reduceBNe, Bool.false_eq_true, Nat.zero_add, bne_self_eq_false, Bool.and_self, htp, hnp, hne1, hz8, last_get, buildSliceA, partsA, fillA, reps, chop, tkApp, appendA, srcRows, srcOther, D.kill, D.no, C.no, killH, Root.kill, tk27, tz3, tsz3, bo3]; rfl) ?_)) ?_
              simp only []
              (exact ⟨s.size - (j), by omega, ⟨[.c (.v (.string s)), .top, .top, .top, .top, .top, .c (.h 0 0 (n + 1)), .c (.h 1 0 (n + 1)), .c (.h 2 0 (n + 1)), .c (.v (.int .i64 (j : Nat))), .top, .top, .top, .top, .top, .top, .top, .top, .top, .top, .top, .top, .top, .top, .top, .top, .top, .top, .top, .top, .top, .top, .top, .top, .top, .top, .top, .top, .top, .top, .top, .top, .top, .top, .top, .top, .top, .top, .top, .top, .top, .top, .top, .top, .top, .top, .top, .top, .top, .top, .top, .top, .top, .top, .top, .top, .top, .top, .top, .top, .top, .top, .top, .top, .top, .top, .top, .top, .top, .top, .top, .top, .top, .top, .top, .top, .top, .top, .top, .top, .top, .top, .top, .top, .top, .top, .top, .top, .top, .top, .top, .top, .top, .top, .top, .top, .top, .top, .top, .top, .top, .top, .top, .top, .top, .top, .top, .top, .top, .top, .top, .top, .top, .top, .top, .top, .top, .top, .top, .top, .top, .top, .top, .top, .top, .top, .top, .top, .top, .top, .top, .top, .top, .top, .top, .top, .top, .top, .top, .top, .top, .top, .top, .top, .top, .top, .top, .top, .top, .top, .top, .top, .top, .top, .top, .top], _⟩, ⟨by repeat (first | exact .nil | refine .same ?_ | refine .top ?_), rfl⟩, f, j, (n + 1), acc ++ [(k, t, (i : Int))], _, _, _, _, hj, (by rw [List.length_append, List.length_singleton]; omega), rfl, by omega, (by rw [List.length_append, List.length_singleton, hn]), (by rw [hrk, List.map_append]; rfl), (by rw [hrp, List.map_append]; rfl), (by rw [hrt, List.map_append]; rfl), hk2, rfl⟩)
            ·
              refine seq_run okT3 rfl (by repeat (first | with_reducible exact runf_nil | refine runf_cons (by simp only [xstep, stepf, stepx, evsA, qev, St.ev, St.put, St.with, C.cpy, C.cp, C.dat, List.getElem?_cons_zero, List.getElem?_cons_succ, List.set_cons_zero, List.set_cons_succ, List.append_nil, List.map_nil, Option.map_some, Nat.reduceEqDiff, if_true, if_false, Option.some.injEq, Bool.and_self, Bool.true_or, callP, Fs.none, argDs, argD, argC, settle, settle1, settleC, List.isEmpty_nil, dB, FsT3, letter_at]; rfl) ?_)) ?_
              refine tri_cond rfl (fun a7 => ?_) (fun a7 => ?_)
              ·
                refine seq_run okT3 rfl (by repeat (first | with_reducible exact runf_nil | refine runf_cons (by simp only [xstep, stepf, stepx, qev, St.ev, St.put, constD, constC, List.set_cons_zero, List.set_cons_succ, Option.map_some, Option.some.injEq, a7]; rfl) ?_)) ?_
                refine seq_in (tri_block ?_)
                refine tri_loop_le (fun m2 A => ∃ j : Nat, m2 = s.size - j ∧ i ≤ j ∧ j ≤ s.size ∧ runF isWordC s j = runF isWordC s (i) ∧ A = ⟨[.c (.v (.string s)), .top, .top, .top, .top, .top, .c (.h 0 0 n), .c (.h 1 0 n), .c (.h 2 0 n), .c (.v (.int .i64 (j : Nat))), .top, .c (.v (.int .i64 (i : Nat))), .c (.v (.int .i64 0)), .top, .top, .top, .top, .top, .top, .top, .top, .top, .top, .top, .top, .top, .top, .top, .top, .top, .top, .top, .top, .top, .top, .top, .top, .top, .top, .top, .top, .top, .top, .top, .top, .top, .top, .top, .top, .top, .top, .top, .top, .top, .top, .top, .top, .top, .top, .top, .top, .top, .top, .top, .top, .top, .top, .top, .top, .top, .top, .top, .top, .top, .top, .top, .top, .top, .top, .top, .top, .top, .top, .top, .top, .top, .top, .top, .top, .top, .top, .top, .top, .top, .top, .top, .top, .top, .top, .top, .top, .top, .top, .top, .top, .top, .top, .top, .top, .top, .top, .top, .top, .top, .top, .top, .top, .top, .top, .top, .top, .top, .top, .top, .top, .top, .top, .top, .top, .top, .top, .top, .top, .top, .top, .top, .top, .top, .top, .top, .top, .top, .top, .top, .top, .top, .top, .top, .top, .top, .top, .top, .top, .top, .top, .top, .top, .top, .top, .top, .top, .top, .top, .top, .top, .top], some ⟨true, 1, rk⟩ :: some ⟨true, 1, rp⟩ :: some ⟨true, 1, rt⟩ :: T⟩) (s.size - (i)) (B := ⟨[.c (.v (.string s)), .top, .top, .top, .top, .top, .c (.h 0 0 n), .c (.h 1 0 n), .c (.h 2 0 n), .c (.v (.int .i64 (i : Nat))), .top, .c (.v (.int .i64 (i : Nat))), .c (.v (.int .i64 0)), .top, .top, .top, .top, .top, .top, .top, .top, .top, .top, .top, .top, .top, .top, .top, .top, .top, .top, .top, .top, .top, .top, .top, .top, .top, .top, .top, .top, .top, .top, .top, .top, .top, .top, .top, .top, .top, .top, .top, .top, .top, .top, .top, .top, .top, .top, .top, .top, .top, .top, .top, .top, .top, .top, .top, .top, .top, .top, .top, .top, .top, .top, .top, .top, .top, .top, .top, .top, .top, .top, .top, .top, .top, .top, .top, .top, .top, .top, .top, .top, .top, .top, .top, .top, .top, .top, .top, .top, .top, .top, .top, .top, .top, .top, .top, .top, .top, .top, .top, .top, .top, .top, .top, .top, .top, .top, .top, .top, .top, .top, .top, .top, .top, .top, .top, .top, .top, .top, .top, .top, .top, .top, .top, .top, .top, .top, .top, .top, .top, .top, .top, .top, .top, .top, .top, .top, .top, .top, .top, .top, .top, .top, .top, .top, .top, .top, .top, .top, .top, .top, .top, .top, .top], some ⟨true, 1, rk⟩ :: some ⟨true, 1, rp⟩ :: some ⟨true, 1, rt⟩ :: T⟩) ⟨by repeat (first | exact .nil | refine .same ?_ | refine .top ?_), rfl⟩ ⟨i, rfl, by omega, by omega, rfl, rfl⟩ ?_
                rintro m2 A ⟨j, hm2, hij, hj, hrun, rfl⟩
                have hq5 : (j : Int) + 1 = ((j + 1 : Nat) : Int) := by omega
                refine seq_in ?_
                by_cases a8 : ((↑j : Int) < (↑s.size : Int))
                ·
                  by_cases a9 : ((isLetter (byt s j)) = true)
                  ·
                    refine seq_run okT3 rfl (by repeat (first | with_reducible exact runf_nil | refine runf_cons (by simp only [xstep, stepf, stepx, evsA, qev, St.ev, St.put, St.with, D.int, C.cpy, qindex, qpick, qint, qshift, isShift, qbin, qlen, qbuiltin, C.cp, C.dat, constD, constC, List.getElem?_cons_zero, List.getElem?_cons_succ, List.set_cons_zero, List.set_cons_succ, List.append_nil, List.map_nil, Option.bind_some, Option.map_some, Option.map_none, Nat.reduceEqDiff, if_true, if_false, and_self, decide_true, cond_true, List.getElem?_toArray, Option.some.injEq, reduceCtorEq, Bool.false_eq_true, Bool.and_self, Bool.true_or, callP, callO, Fs.none, argDs, argD, argC, settle, settle1, settleC, List.isEmpty_nil, dB, FsT3, Int.toNat_natCast, Int.natCast_nonneg, hb, letter_at, tk9, eq_true a8, a9]; rfl) ?_)) ?_
                    refine tri_cond (b := true) rfl (fun _ => ?_) (fun h => by cases h)
                    refine then_skip ?_
                    refine tri_block ?_
                    refine run_end okT3 rfl (by repeat (first | with_reducible exact runf_nil | refine runf_cons (by simp only [xstep, stepf, stepx, qev, St.ev, St.put, qint, qshift, isShift, qbin, constD, constC, List.getElem?_cons_zero, List.getElem?_cons_succ, List.set_cons_zero, List.set_cons_succ, Option.map_some, Option.map_none, if_true, if_false, Option.some.injEq, Bool.false_eq_true, hq5, show IntKind.i64.wrap (↑(j + 1) : Int) = _ from wrap_i64 _ (by omega) (by omega)]; rfl) ?_)) ?_
                    simp only []
                    (exact ⟨s.size - (j + 1), by omega, ⟨[.c (.v (.string s)), .top, .top, .top, .top, .top, .c (.h 0 0 n), .c (.h 1 0 n), .c (.h 2 0 n), .c (.v (.int .i64 (j + 1 : Nat))), .top, .c (.v (.int .i64 (i : Nat))), .c (.v (.int .i64 0)), .top, .top, .top, .top, .top, .top, .top, .top, .top, .top, .top, .top, .top, .top, .top, .top, .top, .top, .top, .top, .top, .top, .top, .top, .top, .top, .top, .top, .top, .top, .top, .top, .top, .top, .top, .top, .top, .top, .top, .top, .top, .top, .top, .top, .top, .top, .top, .top, .top, .top, .top, .top, .top, .top, .top, .top, .top, .top, .top, .top, .top, .top, .top, .top, .top, .top, .top, .top, .top, .top, .top, .top, .top, .top, .top, .top, .top, .top, .top, .top, .top, .top, .top, .top, .top, .top, .top, .top, .top, .top, .top, .top, .top, .top, .top, .top, .top, .top, .top, .top, .top, .top, .top, .top, .top, .top, .top, .top, .top, .top, .top, .top, .top, .top, .top, .top, .top, .top, .top, .top, .top, .top, .top, .top, .top, .top, .top, .top, .top, .top, .top, .top, .top, .top, .top, .top, .top, .top, .top, .top, .top, .top, .top, .top, .top, .top, .top, .top, .top, .top, .top, .top, .top], some ⟨true, 1, rk⟩ :: some ⟨true, 1, rp⟩ :: some ⟨true, 1, rt⟩ :: T⟩, ⟨by repeat (first | exact .nil | refine .same ?_ | refine .top ?_), rfl⟩, j + 1, rfl, by omega, by omega, (by rw [← hrun]; exact (runF_go (by omega) (by first | exact word_l (by assumption) | exact word_d (by assumption))).symm), rfl⟩)
                  ·
                    refine seq_run okT3 rfl (by repeat (first | with_reducible exact runf_nil | refine runf_cons (by simp only [xstep, stepf, stepx, evsA, qev, St.ev, St.put, St.with, D.int, C.cpy, qindex, qpick, qint, qshift, isShift, qbin, qlen, qbuiltin, C.cp, C.dat, constD, constC, List.getElem?_cons_zero, List.getElem?_cons_succ, List.set_cons_zero, List.set_cons_succ, List.append_nil, List.map_nil, Option.bind_some, Option.map_some, Option.map_none, Nat.reduceEqDiff, if_true, if_false, and_self, decide_true, cond_true, cond_false, List.getElem?_toArray, Option.some.injEq, Bool.false_eq_true, Bool.and_self, Bool.true_or, callP, Fs.none, argDs, argD, argC, settle, settle1, settleC, List.isEmpty_nil, dB, FsT3, Int.toNat_natCast, Int.natCast_nonneg, hb, letter_at, digit_at, tk9, eq_true a8, eq_false_of_ne_true a9]; rfl) ?_)) ?_
                    refine tri_cond rfl (fun a10 => ?_) (fun a10 => ?_)
                    ·
                      refine then_skip ?_
                      refine tri_block ?_
                      refine run_end okT3 rfl (by repeat (first | with_reducible exact runf_nil | refine runf_cons (by simp only [xstep, stepf, stepx, qev, St.ev, St.put, qint, qshift, isShift, qbin, constD, constC, List.getElem?_cons_zero, List.getElem?_cons_succ, List.set_cons_zero, List.set_cons_succ, Option.map_some, Option.map_none, if_true, if_false, Option.some.injEq, Bool.false_eq_true, hq5, a10, show IntKind.i64.wrap (↑(j + 1) : Int) = _ from wrap_i64 _ (by omega) (by omega)]; rfl) ?_)) ?_
                      simp only []
                      (exact ⟨s.size - (j + 1), by omega, ⟨[.c (.v (.string s)), .top, .top, .top, .top, .top, .c (.h 0 0 n), .c (.h 1 0 n), .c (.h 2 0 n), .c (.v (.int .i64 (j + 1 : Nat))), .top, .c (.v (.int .i64 (i : Nat))), .c (.v (.int .i64 0)), .top, .top, .top, .top, .top, .top, .top, .top, .top, .top, .top, .top, .top, .top, .top, .top, .top, .top, .top, .top, .top, .top, .top, .top, .top, .top, .top, .top, .top, .top, .top, .top, .top, .top, .top, .top, .top, .top, .top, .top, .top, .top, .top, .top, .top, .top, .top, .top, .top, .top, .top, .top, .top, .top, .top, .top, .top, .top, .top, .top, .top, .top, .top, .top, .top, .top, .top, .top, .top, .top, .top, .top, .top, .top, .top, .top, .top, .top, .top, .top, .top, .top, .top, .top, .top, .top, .top, .top, .top, .top, .top, .top, .top, .top, .top, .top, .top, .top, .top, .top, .top, .top, .top, .top, .top, .top, .top, .top, .top, .top, .top, .top, .top, .top, .top, .top, .top, .top, .top, .top, .top, .top, .top, .top, .top, .top, .top, .top, .top, .top, .top, .top, .top, .top, .top, .top, .top, .top, .top, .top, .top, .top, .top, .top, .top, .top, .top, .top, .top, .top, .top, .top, .top], some ⟨true, 1, rk⟩ :: some ⟨true, 1, rp⟩ :: some ⟨true, 1, rt⟩ :: T⟩, ⟨by repeat (first | exact .nil | refine .same ?_ | refine .top ?_), rfl⟩, j + 1, rfl, by omega, by omega, (by rw [← hrun]; exact (runF_go (by omega) (by first | exact word_l (by assumption) | exact word_d (by assumption))).symm), rfl⟩)
                    ·
                      refine tri_exit ?_
                      show Tri _ _ _ _
                      refine run_end okT3 rfl (by repeat (first | with_reducible exact runf_nil | refine runf_cons (by simp only [xstep, stepf, stepx, qev, St.ev, St.put, D.int, qbounds, qslice, omap, List.getElem?_cons_zero, List.getElem?_cons_succ, List.set_cons_zero, List.set_cons_succ, Option.bind_some, Option.map_some, if_true, and_self, Option.some.injEq, Int.toNat_natCast, Int.natCast_nonneg, tk9, a10, show ((↑j : Int) ≤ (↑s.size : Int)) = True from eq_true (by omega), show ((↑i : Int) ≤ (↑j : Int)) = True from eq_true (by omega)]; rfl) ?_)) ?_
                      simp only []
                      (have hr : runF isWordC s i = j := (by rw [← hrun]; exact runF_stop (fun h => by first | (exfalso; omega) | exact word_f (by first | assumption | exact Bool.eq_false_iff.2 (by assumption)) (by first | assumption | exact Bool.eq_false_iff.2 (by assumption)))); have hgt : i < runF isWordC s i := runF_gt (by omega) (word_l (by assumption)); simp only [refN, hr, reduceIte, ↓reduceIte, a0, eq_false a1, eq_false a2, a3, a4, a7] at hk; exact ⟨j, 0, s.extract i j, T, by omega, by omega, hk, ⟨by repeat (first | exact .nil | refine .same ?_ | refine .top ?_), rfl⟩⟩)
                ·
                  refine seq_run okT3 rfl (by repeat (first | with_reducible exact runf_nil | refine runf_cons (by simp only [xstep, stepf, stepx, evsA, qev, St.ev, St.put, D.int, qpick, qint, qshift, isShift, qbin, qlen, qbuiltin, constD, constC, List.getElem?_cons_zero, List.getElem?_cons_succ, List.set_cons_zero, List.set_cons_succ, List.append_nil, List.map_nil, Option.bind_some, Option.map_some, Option.map_none, Nat.reduceEqDiff, if_true, if_false, decide_false, cond_false, List.getElem?_toArray, Option.some.injEq, Bool.false_eq_true, callP, callO, Fs.none, argDs, argD, FsT3, tk9, eq_false a8]; rfl) ?_)) ?_
                  refine tri_cond (b := false) rfl (fun h => by cases h) (fun _ => ?_)
                  refine tri_exit ?_
                  show Tri _ _ _ _
                  refine run_end okT3 rfl (by repeat (first | with_reducible exact runf_nil | refine runf_cons (by simp only [xstep, stepf, stepx, qev, St.ev, St.put, D.int, qbounds, qslice, omap, List.getElem?_cons_zero, List.getElem?_cons_succ, List.set_cons_zero, List.set_cons_succ, Option.bind_some, Option.map_some, if_true, and_self, Option.some.injEq, Int.toNat_natCast, Int.natCast_nonneg, tk9, show ((↑j : Int) ≤ (↑s.size : Int)) = True from eq_true (by omega), show ((↑i : Int) ≤ (↑j : Int)) = True from eq_true (by omega)]; rfl) ?_)) ?_
                  simp only []
                  (have hr : runF isWordC s i = j := (by rw [← hrun]; exact runF_stop (fun h => by first | (exfalso; omega) | exact word_f (by first | assumption | exact Bool.eq_false_iff.2 (by assumption)) (by first | assumption | exact Bool.eq_false_iff.2 (by assumption)))); have hgt : i < runF isWordC s i := runF_gt (by omega) (word_l (by assumption)); simp only [refN, hr, reduceIte, ↓reduceIte, a0, eq_false a1, eq_false a2, a3, a4, a7] at hk; exact ⟨j, 0, s.extract i j, T, by omega, by omega, hk, ⟨by repeat (first | exact .nil | refine .same ?_ | refine .top ?_), rfl⟩⟩)
              ·
                by_cases a11 : ((isDigit (byt s i)) = true)
                ·
                  refine seq_run okT3 rfl (by repeat (first | with_reducible exact runf_nil | refine runf_cons (by simp only [xstep, stepf, stepx, evsA, qev, St.ev, St.put, St.with, C.cpy, qpick, isEq, qeq, qbin, C.cp, C.dat, constD, constC, List.getElem?_cons_zero, List.getElem?_cons_succ, List.set_cons_zero, List.set_cons_succ, List.append_nil, List.map_nil, Option.bind_some, Option.map_some, Nat.reduceEqDiff, if_true, if_false, cond_true, List.getElem?_toArray, Option.some.injEq, reduceCtorEq, Bool.and_self, Bool.true_or, callP, Fs.none, argDs, argD, argC, settle, settle1, settleC, List.isEmpty_nil, FsT3, digit_at, a7, a11]; rfl) ?_)) ?_
                  refine tri_cond (b := true) rfl (fun _ => ?_) (fun h => by cases h)
                  refine seq_run okT3 rfl (by repeat (first | with_reducible exact runf_nil | refine runf_cons (by simp only [xstep, stepf, stepx, qev, St.ev, St.put, constD, constC, List.set_cons_zero, List.set_cons_succ, Option.map_some, Option.some.injEq]; rfl) ?_)) ?_
                  refine seq_run okT3 rfl (by repeat (first | with_reducible exact runf_nil | refine runf_cons (by simp only [xstep, stepf, stepx, qev, St.ev, St.put, qint, qshift, isShift, qbin, constD, constC, List.getElem?_cons_zero, List.getElem?_cons_succ, List.set_cons_zero, List.set_cons_succ, Option.map_some, Option.map_none, if_true, if_false, Option.some.injEq, Bool.false_eq_true, hq1, show IntKind.i64.wrap (↑(i + 1) : Int) = _ from wrap_i64 _ (by omega) (by omega)]; rfl) ?_)) ?_
                  refine seq_in (tri_block ?_)
                  refine tri_loop_le (fun m2 A => ∃ j : Nat, m2 = s.size - j ∧ i + 1 ≤ j ∧ j ≤ s.size ∧ runF isDigit s j = runF isDigit s (i + 1) ∧ A = ⟨[.c (.v (.string s)), .top, .top, .top, .top, .top, .c (.h 0 0 n), .c (.h 1 0 n), .c (.h 2 0 n), .c (.v (.int .i64 (j : Nat))), .top, .c (.v (.int .i64 (i : Nat))), .c (.v (.int .i64 1)), .top, .top, .top, .top, .top, .top, .top, .top, .top, .top, .top, .top, .top, .top, .top, .top, .top, .top, .top, .top, .top, .top, .top, .top, .top, .top, .top, .top, .top, .top, .top, .top, .top, .top, .top, .top, .top, .top, .top, .top, .top, .top, .top, .top, .top, .top, .top, .top, .top, .top, .top, .top, .top, .top, .top, .top, .top, .top, .top, .top, .top, .top, .top, .top, .top, .top, .top, .top, .top, .top, .top, .top, .top, .top, .top, .top, .top, .top, .top, .top, .top, .top, .top, .top, .top, .top, .top, .top, .top, .top, .top, .top, .top, .top, .top, .top, .top, .top, .top, .top, .top, .top, .top, .top, .top, .top, .top, .top, .top, .top, .top, .top, .top, .top, .top, .top, .top, .top, .top, .top, .top, .top, .top, .top, .top, .top, .top, .top, .top, .top, .top, .top, .top, .top, .top, .top, .top, .top, .top, .top, .top, .top, .top, .top, .top, .top, .top, .top, .top, .top, .top, .top, .top], some ⟨true, 1, rk⟩ :: some ⟨true, 1, rp⟩ :: some ⟨true, 1, rt⟩ :: T⟩) (s.size - (i + 1)) (B := ⟨[.c (.v (.string s)), .top, .top, .top, .top, .top, .c (.h 0 0 n), .c (.h 1 0 n), .c (.h 2 0 n), .c (.v (.int .i64 (i + 1 : Nat))), .top, .c (.v (.int .i64 (i : Nat))), .c (.v (.int .i64 1)), .top, .top, .top, .top, .top, .top, .top, .top, .top, .top, .top, .top, .top, .top, .top, .top, .top, .top, .top, .top, .top, .top, .top, .top, .top, .top, .top, .top, .top, .top, .top, .top, .top, .top, .top, .top, .top, .top, .top, .top, .top, .top, .top, .top, .top, .top, .top, .top, .top, .top, .top, .top, .top, .top, .top, .top, .top, .top, .top, .top, .top, .top, .top, .top, .top, .top, .top, .top, .top, .top, .top, .top, .top, .top, .top, .top, .top, .top, .top, .top, .top, .top, .top, .top, .top, .top, .top, .top, .top, .top, .top, .top, .top, .top, .top, .top, .top, .top, .top, .top, .top, .top, .top, .top, .top, .top, .top, .top, .top, .top, .top, .top, .top, .top, .top, .top, .top, .top, .top, .top, .top, .top, .top, .top, .top, .top, .top, .top, .top, .top, .top, .top, .top, .top, .top, .top, .top, .top, .top, .top, .top, .top, .top, .top, .top, .top, .top, .top, .top, .top, .top, .top, .top], some ⟨true, 1, rk⟩ :: some ⟨true, 1, rp⟩ :: some ⟨true, 1, rt⟩ :: T⟩) ⟨by repeat (first | exact .nil | refine .same ?_ | refine .top ?_), rfl⟩ ⟨i + 1, rfl, by omega, by omega, rfl, rfl⟩ ?_
                  rintro m2 A ⟨j, hm2, hij, hj, hrun, rfl⟩
                  have hq5 : (j : Int) + 1 = ((j + 1 : Nat) : Int) := by omega
                  refine seq_in ?_
                  by_cases a12 : ((↑j : Int) < (↑s.size : Int))
                  ·
                    refine seq_run okT3 rfl (by repeat (first | with_reducible exact runf_nil | refine runf_cons (by simp only [xstep, stepf, stepx, evsA, qev, St.ev, St.put, St.with, D.int, C.cpy, qindex, qpick, qint, qshift, isShift, qbin, qlen, qbuiltin, C.cp, C.dat, constD, constC, List.getElem?_cons_zero, List.getElem?_cons_succ, List.set_cons_zero, List.set_cons_succ, List.append_nil, List.map_nil, Option.bind_some, Option.map_some, Option.map_none, Nat.reduceEqDiff, if_true, if_false, and_self, decide_true, cond_true, List.getElem?_toArray, Option.some.injEq, Bool.false_eq_true, Bool.and_self, Bool.true_or, callP, Fs.none, argDs, argD, argC, settle, settle1, settleC, List.isEmpty_nil, FsT3, Int.toNat_natCast, Int.natCast_nonneg, hb, digit_at, tk9, eq_true a12]; rfl) ?_)) ?_
                    refine tri_cond rfl (fun a13 => ?_) (fun a13 => ?_)
                    ·
                      refine then_skip ?_
                      refine tri_block ?_
                      refine run_end okT3 rfl (by repeat (first | with_reducible exact runf_nil | refine runf_cons (by simp only [xstep, stepf, stepx, qev, St.ev, St.put, qint, qshift, isShift, qbin, constD, constC, List.getElem?_cons_zero, List.getElem?_cons_succ, List.set_cons_zero, List.set_cons_succ, Option.map_some, Option.map_none, if_true, if_false, Option.some.injEq, Bool.false_eq_true, hq5, a13, show IntKind.i64.wrap (↑(j + 1) : Int) = _ from wrap_i64 _ (by omega) (by omega)]; rfl) ?_)) ?_
                      simp only []
                      (exact ⟨s.size - (j + 1), by omega, ⟨[.c (.v (.string s)), .top, .top, .top, .top, .top, .c (.h 0 0 n), .c (.h 1 0 n), .c (.h 2 0 n), .c (.v (.int .i64 (j + 1 : Nat))), .top, .c (.v (.int .i64 (i : Nat))), .c (.v (.int .i64 1)), .top, .top, .top, .top, .top, .top, .top, .top, .top, .top, .top, .top, .top, .top, .top, .top, .top, .top, .top, .top, .top, .top, .top, .top, .top, .top, .top, .top, .top, .top, .top, .top, .top, .top, .top, .top, .top, .top, .top, .top, .top, .top, .top, .top, .top, .top, .top, .top, .top, .top, .top, .top, .top, .top, .top, .top, .top, .top, .top, .top, .top, .top, .top, .top, .top, .top, .top, .top, .top, .top, .top, .top, .top, .top, .top, .top, .top, .top, .top, .top, .top, .top, .top, .top, .top, .top, .top, .top, .top, .top, .top, .top, .top, .top, .top, .top, .top, .top, .top, .top, .top, .top, .top, .top, .top, .top, .top, .top, .top, .top, .top, .top, .top, .top, .top, .top, .top, .top, .top, .top, .top, .top, .top, .top, .top, .top, .top, .top, .top, .top, .top, .top, .top, .top, .top, .top, .top, .top, .top, .top, .top, .top, .top, .top, .top, .top, .top, .top, .top, .top, .top, .top, .top], some ⟨true, 1, rk⟩ :: some ⟨true, 1, rp⟩ :: some ⟨true, 1, rt⟩ :: T⟩, ⟨by repeat (first | exact .nil | refine .same ?_ | refine .top ?_), rfl⟩, j + 1, rfl, by omega, by omega, (by rw [← hrun]; exact (runF_go (by omega) (by assumption)).symm), rfl⟩)
                    ·
                      refine tri_exit ?_
                      show Tri _ _ _ _
                      refine seq_run okT3 rfl (by repeat (first | with_reducible exact runf_nil | refine runf_cons (by simp only [xstep, stepf, stepx, qev, St.ev, St.put, D.int, qbounds, qslice, omap, List.getElem?_cons_zero, List.getElem?_cons_succ, List.set_cons_zero, List.set_cons_succ, Option.bind_some, Option.map_some, if_true, and_self, Option.some.injEq, Int.toNat_natCast, Int.natCast_nonneg, tk9, a13, show ((↑j : Int) ≤ (↑s.size : Int)) = True from eq_true (by omega), show ((↑i : Int) ≤ (↑j : Int)) = True from eq_true (by omega)]; rfl) ?_)) ?_
                      refine seq_run okT3 rfl (by repeat (first | with_reducible exact runf_nil | refine runf_cons (by simp only [xstep, stepf, stepx, qev, St.ev, St.put, qstr, qbin, constD, constC, List.getElem?_cons_zero, List.getElem?_cons_succ, List.set_cons_zero, List.set_cons_succ, Option.map_some, Option.some.injEq]; rfl) ?_)) ?_
                      refine tri_cond rfl (fun a14 => ?_) (fun a14 => ?_)
                      ·
                        refine seq_run okT3 rfl (by repeat (first | with_reducible exact runf_nil | refine runf_cons (by simp only [xstep, stepf, stepx, qev, St.ev, St.put, constD, constC, List.getElem?_cons_zero, List.getElem?_cons_succ, List.set_cons_zero, List.set_cons_succ, Option.map_some, Option.some.injEq, a14]; rfl) ?_)) ?_
                        refine tri_ret (ends_ret (by simp only [outRes, resDs, resD, outDs, outD, outC, C.dat, List.getElem?_cons_zero, List.getElem?_cons_succ, Option.map_some, if_true, Option.some.injEq]; rfl) rfl (by simp) (by simp) ?_)
                        (have hr : runF isDigit s (i + 1) = j := (by rw [← hrun]; exact runF_stop (fun h => by first | (exfalso; omega) | assumption | exact Bool.eq_false_iff.2 (by assumption))); simp only [refN, hr, reduceIte, Bool.false_eq_true, ↓reduceIte, dash, a0, eq_false a1, eq_false a2, a3, a4, a7, a11, a14] at hk; exact hQ1 _ hk)
                      ·
                        refine tri_skip ?_
                        simp only []
                        (have hr : runF isDigit s (i + 1) = j := (by rw [← hrun]; exact runF_stop (fun h => by first | (exfalso; omega) | assumption | exact Bool.eq_false_iff.2 (by assumption))); simp only [refN, hr, reduceIte, Bool.false_eq_true, ↓reduceIte, dash, a0, eq_false a1, eq_false a2, a3, a4, a7, a11, a14] at hk; exact ⟨j, 1, s.extract i j, T, by omega, by omega, hk, ⟨by repeat (first | exact .nil | refine .same ?_ | refine .top ?_), rfl⟩⟩)
                  ·
                    refine seq_run okT3 rfl (by repeat (first | with_reducible exact runf_nil | refine runf_cons (by simp only [xstep, stepf, stepx, evsA, qev, St.ev, St.put, D.int, qpick, qint, qshift, isShift, qbin, qlen, qbuiltin, constD, constC, List.getElem?_cons_zero, List.getElem?_cons_succ, List.set_cons_zero, List.set_cons_succ, List.append_nil, List.map_nil, Option.bind_some, Option.map_some, Option.map_none, Nat.reduceEqDiff, if_true, if_false, decide_false, cond_false, List.getElem?_toArray, Option.some.injEq, Bool.false_eq_true, callP, callO, Fs.none, argDs, argD, FsT3, tk9, eq_false a12]; rfl) ?_)) ?_
                    refine tri_cond (b := false) rfl (fun h => by cases h) (fun _ => ?_)
                    refine tri_exit ?_
                    show Tri _ _ _ _
                    refine seq_run okT3 rfl (by repeat (first | with_reducible exact runf_nil | refine runf_cons (by simp only [xstep, stepf, stepx, qev, St.ev, St.put, D.int, qbounds, qslice, omap, List.getElem?_cons_zero, List.getElem?_cons_succ, List.set_cons_zero, List.set_cons_succ, Option.bind_some, Option.map_some, if_true, and_self, Option.some.injEq, Int.toNat_natCast, Int.natCast_nonneg, tk9, show ((↑j : Int) ≤ (↑s.size : Int)) = True from eq_true (by omega), show ((↑i : Int) ≤ (↑j : Int)) = True from eq_true (by omega)]; rfl) ?_)) ?_
                    refine seq_run okT3 rfl (by repeat (first | with_reducible exact runf_nil | refine runf_cons (by simp only [xstep, stepf, stepx, qev, St.ev, St.put, qstr, qbin, constD, constC, List.getElem?_cons_zero, List.getElem?_cons_succ, List.set_cons_zero, List.set_cons_succ, Option.map_some, Option.some.injEq]; rfl) ?_)) ?_
                    refine tri_cond rfl (fun a15 => ?_) (fun a15 => ?_)
                    ·
                      refine seq_run okT3 rfl (by repeat (first | with_reducible exact runf_nil | refine runf_cons (by simp only [xstep, stepf, stepx, qev, St.ev, St.put, constD, constC, List.getElem?_cons_zero, List.getElem?_cons_succ, List.set_cons_zero, List.set_cons_succ, Option.map_some, Option.some.injEq, a15]; rfl) ?_)) ?_
                      refine tri_ret (ends_ret (by simp only [outRes, resDs, resD, outDs, outD, outC, C.dat, List.getElem?_cons_zero, List.getElem?_cons_succ, Option.map_some, if_true, Option.some.injEq]; rfl) rfl (by simp) (by simp) ?_)
                      (have hr : runF isDigit s (i + 1) = j := (by rw [← hrun]; exact runF_stop (fun h => by first | (exfalso; omega) | assumption | exact Bool.eq_false_iff.2 (by assumption))); simp only [refN, hr, reduceIte, Bool.false_eq_true, ↓reduceIte, dash, a0, eq_false a1, eq_false a2, a3, a4, a7, a11, a15] at hk; exact hQ1 _ hk)
                    ·
                      refine tri_skip ?_
                      simp only []
                      (have hr : runF isDigit s (i + 1) = j := (by rw [← hrun]; exact runF_stop (fun h => by first | (exfalso; omega) | assumption | exact Bool.eq_false_iff.2 (by assumption))); simp only [refN, hr, reduceIte, Bool.false_eq_true, ↓reduceIte, dash, a0, eq_false a1, eq_false a2, a3, a4, a7, a11, a15] at hk; exact ⟨j, 1, s.extract i j, T, by omega, by omega, hk, ⟨by repeat (first | exact .nil | refine .same ?_ | refine .top ?_), rfl⟩⟩)
                ·
                  refine seq_run okT3 rfl (by repeat (first | with_reducible exact runf_nil | refine runf_cons (by simp only [xstep, stepf, stepx, evsA, qev, St.ev, St.put, St.with, C.cpy, qpick, qint, qshift, isShift, qbin, C.cp, C.dat, constD, constC, List.getElem?_cons_zero, List.getElem?_cons_succ, List.set_cons_zero, List.set_cons_succ, List.append_nil, List.map_nil, Option.bind_some, Option.map_some, Option.map_none, Nat.reduceEqDiff, if_true, if_false, cond_false, List.getElem?_toArray, Option.some.injEq, Bool.false_eq_true, Bool.and_self, Bool.true_or, callP, Fs.none, argDs, argD, argC, settle, settle1, settleC, List.isEmpty_nil, FsT3, digit_at, a7, eq_false_of_ne_true a11]; rfl) ?_)) ?_
                  refine tri_cond rfl (fun a16 => ?_) (fun a16 => ?_)
                  ·
                    simp only [decide_eq_true_eq] at a16
                    refine seq_run okT3 rfl (by repeat (first | with_reducible exact runf_nil | refine runf_cons (by simp only [xstep, stepf, stepx, qev, St.ev, St.put, constD, constC, List.set_cons_zero, List.set_cons_succ, Option.map_some, decide_true, Option.some.injEq, a16]; rfl) ?_)) ?_
                    refine seq_run okT3 rfl (by repeat (first | with_reducible exact runf_nil | refine runf_cons (by simp only [xstep, stepf, stepx, qev, St.ev, St.put, qint, qshift, isShift, qbin, constD, constC, List.getElem?_cons_zero, List.getElem?_cons_succ, List.set_cons_zero, List.set_cons_succ, Option.map_some, Option.map_none, if_true, if_false, Option.some.injEq, Bool.false_eq_true, hq1, show IntKind.i64.wrap (↑(i + 1) : Int) = _ from wrap_i64 _ (by omega) (by omega)]; rfl) ?_)) ?_
                    refine seq_in (tri_block ?_)
                    refine tri_loop_le (fun m2 A => ∃ j : Nat, m2 = s.size - j ∧ i + 1 ≤ j ∧ j ≤ s.size ∧ runF isDigit s j = runF isDigit s (i + 1) ∧ A = ⟨[.c (.v (.string s)), .top, .top, .top, .top, .top, .c (.h 0 0 n), .c (.h 1 0 n), .c (.h 2 0 n), .c (.v (.int .i64 (j : Nat))), .top, .c (.v (.int .i64 (i : Nat))), .c (.v (.int .i64 1)), .top, .top, .top, .top, .top, .top, .top, .top, .top, .top, .top, .top, .top, .top, .top, .top, .top, .top, .top, .top, .top, .top, .top, .top, .top, .top, .top, .top, .top, .top, .top, .top, .top, .top, .top, .top, .top, .top, .top, .top, .top, .top, .top, .top, .top, .top, .top, .top, .top, .top, .top, .top, .top, .top, .top, .top, .top, .top, .top, .top, .top, .top, .top, .top, .top, .top, .top, .top, .top, .top, .top, .top, .top, .top, .top, .top, .top, .top, .top, .top, .top, .top, .top, .top, .top, .top, .top, .top, .top, .top, .top, .top, .top, .top, .top, .top, .top, .top, .top, .top, .top, .top, .top, .top, .top, .top, .top, .top, .top, .top, .top, .top, .top, .top, .top, .top, .top, .top, .top, .top, .top, .top, .top, .top, .top, .top, .top, .top, .top, .top, .top, .top, .top, .top, .top, .top, .top, .top, .top, .top, .top, .top, .top, .top, .top, .top, .top, .top, .top, .top, .top, .top, .top], some ⟨true, 1, rk⟩ :: some ⟨true, 1, rp⟩ :: some ⟨true, 1, rt⟩ :: T⟩) (s.size - (i + 1)) (B := ⟨[.c (.v (.string s)), .top, .top, .top, .top, .top, .c (.h 0 0 n), .c (.h 1 0 n), .c (.h 2 0 n), .c (.v (.int .i64 (i + 1 : Nat))), .top, .c (.v (.int .i64 (i : Nat))), .c (.v (.int .i64 1)), .top, .top, .top, .top, .top, .top, .top, .top, .top, .top, .top, .top, .top, .top, .top, .top, .top, .top, .top, .top, .top, .top, .top, .top, .top, .top, .top, .top, .top, .top, .top, .top, .top, .top, .top, .top, .top, .top, .top, .top, .top, .top, .top, .top, .top, .top, .top, .top, .top, .top, .top, .top, .top, .top, .top, .top, .top, .top, .top, .top, .top, .top, .top, .top, .top, .top, .top, .top, .top, .top, .top, .top, .top, .top, .top, .top, .top, .top, .top, .top, .top, .top, .top, .top, .top, .top, .top, .top, .top, .top, .top, .top, .top, .top, .top, .top, .top, .top, .top, .top, .top, .top, .top, .top, .top, .top, .top, .top, .top, .top, .top, .top, .top, .top, .top, .top, .top, .top, .top, .top, .top, .top, .top, .top, .top, .top, .top, .top, .top, .top, .top, .top, .top, .top, .top, .top, .top, .top, .top, .top, .top, .top, .top, .top, .top, .top, .top, .top, .top, .top, .top, .top, .top], some ⟨true, 1, rk⟩ :: some ⟨true, 1, rp⟩ :: some ⟨true, 1, rt⟩ :: T⟩) ⟨by repeat (first | exact .nil | refine .same ?_ | refine .top ?_), rfl⟩ ⟨i + 1, rfl, by omega, by omega, rfl, rfl⟩ ?_
                    rintro m2 A ⟨j, hm2, hij, hj, hrun, rfl⟩
                    have hq5 : (j : Int) + 1 = ((j + 1 : Nat) : Int) := by omega
                    refine seq_in ?_
                    by_cases a17 : ((↑j : Int) < (↑s.size : Int))
                    ·
                      refine seq_run okT3 rfl (by repeat (first | with_reducible exact runf_nil | refine runf_cons (by simp only [xstep, stepf, stepx, evsA, qev, St.ev, St.put, St.with, D.int, C.cpy, qindex, qpick, qint, qshift, isShift, qbin, qlen, qbuiltin, C.cp, C.dat, constD, constC, List.getElem?_cons_zero, List.getElem?_cons_succ, List.set_cons_zero, List.set_cons_succ, List.append_nil, List.map_nil, Option.bind_some, Option.map_some, Option.map_none, Nat.reduceEqDiff, if_true, if_false, and_self, decide_true, cond_true, List.getElem?_toArray, Option.some.injEq, Bool.false_eq_true, Bool.and_self, Bool.true_or, callP, Fs.none, argDs, argD, argC, settle, settle1, settleC, List.isEmpty_nil, FsT3, Int.toNat_natCast, Int.natCast_nonneg, hb, digit_at, tk9, eq_true a17]; rfl) ?_)) ?_
                      refine tri_cond rfl (fun a18 => ?_) (fun a18 => ?_)
                      ·
                        refine then_skip ?_
                        refine tri_block ?_
                        refine run_end okT3 rfl (by repeat (first | with_reducible exact runf_nil | refine runf_cons (by simp only [xstep, stepf, stepx, qev, St.ev, St.put, qint, qshift, isShift, qbin, constD, constC, List.getElem?_cons_zero, List.getElem?_cons_succ, List.set_cons_zero, List.set_cons_succ, Option.map_some, Option.map_none, if_true, if_false, Option.some.injEq, Bool.false_eq_true, hq5, a18, show IntKind.i64.wrap (↑(j + 1) : Int) = _ from wrap_i64 _ (by omega) (by omega)]; rfl) ?_)) ?_
                        simp only []
                        (exact ⟨s.size - (j + 1), by omega, ⟨[.c (.v (.string s)), .top, .top, .top, .top, .top, .c (.h 0 0 n), .c (.h 1 0 n), .c (.h 2 0 n), .c (.v (.int .i64 (j + 1 : Nat))), .top, .c (.v (.int .i64 (i : Nat))), .c (.v (.int .i64 1)), .top, .top, .top, .top, .top, .top, .top, .top, .top, .top, .top, .top, .top, .top, .top, .top, .top, .top, .top, .top, .top, .top, .top, .top, .top, .top, .top, .top, .top, .top, .top, .top, .top, .top, .top, .top, .top, .top, .top, .top, .top, .top, .top, .top, .top, .top, .top, .top, .top, .top, .top, .top, .top, .top, .top, .top, .top, .top, .top, .top, .top, .top, .top, .top, .top, .top, .top, .top, .top, .top, .top, .top, .top, .top, .top, .top, .top, .top, .top, .top, .top, .top, .top, .top, .top, .top, .top, .top, .top, .top, .top, .top, .top, .top, .top, .top, .top, .top, .top, .top, .top, .top, .top, .top, .top, .top, .top, .top, .top, .top, .top, .top, .top, .top, .top, .top, .top, .top, .top, .top, .top, .top, .top, .top, .top, .top, .top, .top, .top, .top, .top, .top, .top, .top, .top, .top, .top, .top, .top, .top, .top, .top, .top, .top, .top, .top, .top, .top, .top, .top, .top, .top, .top], some ⟨true, 1, rk⟩ :: some ⟨true, 1, rp⟩ :: some ⟨true, 1, rt⟩ :: T⟩, ⟨by repeat (first | exact .nil | refine .same ?_ | refine .top ?_), rfl⟩, j + 1, rfl, by omega, by omega, (by rw [← hrun]; exact (runF_go (by omega) (by assumption)).symm), rfl⟩)
                      ·
                        refine tri_exit ?_
                        show Tri _ _ _ _
                        refine seq_run okT3 rfl (by repeat (first | with_reducible exact runf_nil | refine runf_cons (by simp only [xstep, stepf, stepx, qev, St.ev, St.put, D.int, qbounds, qslice, omap, List.getElem?_cons_zero, List.getElem?_cons_succ, List.set_cons_zero, List.set_cons_succ, Option.bind_some, Option.map_some, if_true, and_self, Option.some.injEq, Int.toNat_natCast, Int.natCast_nonneg, tk9, a18, show ((↑j : Int) ≤ (↑s.size : Int)) = True from eq_true (by omega), show ((↑i : Int) ≤ (↑j : Int)) = True from eq_true (by omega)]; rfl) ?_)) ?_
                        refine seq_run okT3 rfl (by repeat (first | with_reducible exact runf_nil | refine runf_cons (by simp only [xstep, stepf, stepx, qev, St.ev, St.put, qstr, qbin, constD, constC, List.getElem?_cons_zero, List.getElem?_cons_succ, List.set_cons_zero, List.set_cons_succ, Option.map_some, Option.some.injEq]; rfl) ?_)) ?_
                        refine tri_cond rfl (fun a19 => ?_) (fun a19 => ?_)
                        ·
                          refine seq_run okT3 rfl (by repeat (first | with_reducible exact runf_nil | refine runf_cons (by simp only [xstep, stepf, stepx, qev, St.ev, St.put, constD, constC, List.getElem?_cons_zero, List.getElem?_cons_succ, List.set_cons_zero, List.set_cons_succ, Option.map_some, Option.some.injEq, a19]; rfl) ?_)) ?_
                          refine tri_ret (ends_ret (by simp only [outRes, resDs, resD, outDs, outD, outC, C.dat, List.getElem?_cons_zero, List.getElem?_cons_succ, Option.map_some, if_true, Option.some.injEq]; rfl) rfl (by simp) (by simp) ?_)
                          (have hr : runF isDigit s (i + 1) = j := (by rw [← hrun]; exact runF_stop (fun h => by first | (exfalso; omega) | assumption | exact Bool.eq_false_iff.2 (by assumption))); simp only [refN, hr, reduceIte, ↓reduceIte, Int.reduceEq, dash, a0, a16, a19] at hk; exact hQ1 _ hk)
                        ·
                          refine tri_skip ?_
                          simp only []
                          (have hr : runF isDigit s (i + 1) = j := (by rw [← hrun]; exact runF_stop (fun h => by first | (exfalso; omega) | assumption | exact Bool.eq_false_iff.2 (by assumption))); simp only [refN, hr, reduceIte, Bool.false_eq_true, ↓reduceIte, Int.reduceEq, dash, a0, a16, a19] at hk; exact ⟨j, 1, s.extract i j, T, by omega, by omega, hk, ⟨by repeat (first | exact .nil | refine .same ?_ | refine .top ?_), rfl⟩⟩)
                    ·
                      refine seq_run okT3 rfl (by repeat (first | with_reducible exact runf_nil | refine runf_cons (by simp only [xstep, stepf, stepx, evsA, qev, St.ev, St.put, D.int, qpick, qint, qshift, isShift, qbin, qlen, qbuiltin, constD, constC, List.getElem?_cons_zero, List.getElem?_cons_succ, List.set_cons_zero, List.set_cons_succ, List.append_nil, List.map_nil, Option.bind_some, Option.map_some, Option.map_none, Nat.reduceEqDiff, if_true, if_false, decide_false, cond_false, List.getElem?_toArray, Option.some.injEq, Bool.false_eq_true, callP, callO, Fs.none, argDs, argD, FsT3, tk9, eq_false a17]; rfl) ?_)) ?_
                      refine tri_cond (b := false) rfl (fun h => by cases h) (fun _ => ?_)
                      refine tri_exit ?_
                      show Tri _ _ _ _
                      refine seq_run okT3 rfl (by repeat (first | with_reducible exact runf_nil | refine runf_cons (by simp only [xstep, stepf, stepx, qev, St.ev, St.put, D.int, qbounds, qslice, omap, List.getElem?_cons_zero, List.getElem?_cons_succ, List.set_cons_zero, List.set_cons_succ, Option.bind_some, Option.map_some, if_true, and_self, Option.some.injEq, Int.toNat_natCast, Int.natCast_nonneg, tk9, show ((↑j : Int) ≤ (↑s.size : Int)) = True from eq_true (by omega), show ((↑i : Int) ≤ (↑j : Int)) = True from eq_true (by omega)]; rfl) ?_)) ?_
                      refine seq_run okT3 rfl (by repeat (first | with_reducible exact runf_nil | refine runf_cons (by simp only [xstep, stepf, stepx, qev, St.ev, St.put, qstr, qbin, constD, constC, List.getElem?_cons_zero, List.getElem?_cons_succ, List.set_cons_zero, List.set_cons_succ, Option.map_some, Option.some.injEq]; rfl) ?_)) ?_
                      refine tri_cond rfl (fun a20 => ?_) (fun a20 => ?_)
                      ·
                        refine seq_run okT3 rfl (by repeat (first | with_reducible exact runf_nil | refine runf_cons (by simp only [xstep, stepf, stepx, qev, St.ev, St.put, constD, constC, List.getElem?_cons_zero, List.getElem?_cons_succ, List.set_cons_zero, List.set_cons_succ, Option.map_some, Option.some.injEq, a20]; rfl) ?_)) ?_
                        refine tri_ret (ends_ret (by simp only [outRes, resDs, resD, outDs, outD, outC, C.dat, List.getElem?_cons_zero, List.getElem?_cons_succ, Option.map_some, if_true, Option.some.injEq]; rfl) rfl (by simp) (by simp) ?_)
                        (have hr : runF isDigit s (i + 1) = j := (by rw [← hrun]; exact runF_stop (fun h => by first | (exfalso; omega) | assumption | exact Bool.eq_false_iff.2 (by assumption))); simp only [refN, hr, reduceIte, ↓reduceIte, Int.reduceEq, dash, a0, a16, a20] at hk; exact hQ1 _ hk)
                      ·
                        refine tri_skip ?_
                        simp only []
                        (have hr : runF isDigit s (i + 1) = j := (by rw [← hrun]; exact runF_stop (fun h => by first | (exfalso; omega) | assumption | exact Bool.eq_false_iff.2 (by assumption))); simp only [refN, hr, reduceIte, Bool.false_eq_true, ↓reduceIte, Int.reduceEq, dash, a0, a16, a20] at hk; exact ⟨j, 1, s.extract i j, T, by omega, by omega, hk, ⟨by repeat (first | exact .nil | refine .same ?_ | refine .top ?_), rfl⟩⟩)
                  ·
                    simp only [decide_eq_false_iff_not] at a16
                    refine seq_run okT3 rfl (by repeat (first | with_reducible exact runf_nil | refine runf_cons (by simp only [xstep, stepf, stepx, qev, St.ev, St.put, qint, qshift, isShift, qbin, constD, constC, List.getElem?_cons_zero, List.getElem?_cons_succ, List.set_cons_zero, List.set_cons_succ, Option.map_some, Option.map_none, if_true, if_false, decide_false, Option.some.injEq, Bool.false_eq_true, a16]; rfl) ?_)) ?_
                    refine tri_cond rfl (fun a21 => ?_) (fun a21 => ?_)
                    ·
                      simp only [decide_eq_true_eq] at a21
                      refine seq_run okT3 rfl (by repeat (first | with_reducible exact runf_nil | refine runf_cons (by simp only [xstep, stepf, stepx, qev, St.ev, St.put, constD, constC, List.set_cons_zero, List.set_cons_succ, Option.map_some, decide_true, Option.some.injEq, a21]; rfl) ?_)) ?_
                      refine seq_run okT3 rfl (by repeat (first | with_reducible exact runf_nil | refine runf_cons (by simp only [xstep, stepf, stepx, evsA, qev, St.ev, St.put, St.with, C.cpy, qext, C.cp, C.dat, List.getElem?_cons_zero, List.getElem?_cons_succ, List.set_cons_zero, List.set_cons_succ, List.append_nil, List.map_nil, Option.bind_some, Option.map_some, Nat.reduceEqDiff, if_true, if_false, Option.some.injEq, Bool.and_self, Bool.true_or, callP, Fs.none, argDs, argD, argC, settle, settle1, settleC, settleDs, List.isEmpty_nil, FsT3, hQt, a0]; rfl) ?_)) ?_
                      refine seq_in ?_
                      refine seq_run okT3 rfl (by repeat (first | with_reducible exact runf_nil | refine runf_cons (by simp only [xstep, stepf, stepx, qev, St.ev, St.put, qint, qshift, isShift, qbin, constD, constC, List.getElem?_cons_zero, List.getElem?_cons_succ, List.set_cons_zero, List.set_cons_succ, Option.map_some, Option.map_none, if_true, if_false, Option.some.injEq, Bool.false_eq_true]; rfl) ?_)) ?_
                      refine tri_cond rfl (fun a22 => ?_) (fun a22 => ?_)
                      ·
                        simp only [decide_eq_true_eq] at a22
                        refine seq_run okT3 rfl (by repeat (first | with_reducible exact runf_nil | refine runf_cons (by simp only [xstep, stepf, stepx, qev, St.ev, St.put, constD, constC, List.getElem?_cons_zero, List.getElem?_cons_succ, List.set_cons_zero, List.set_cons_succ, Option.map_some, decide_true, Option.some.injEq, a22]; rfl) ?_)) ?_
                        refine tri_ret (ends_ret (by simp only [outRes, resDs, resD, outDs, outD, outC, C.dat, List.getElem?_cons_zero, List.getElem?_cons_succ, Option.map_some, if_true, Option.some.injEq]; rfl) rfl (by simp) (by simp) ?_)
                        (simp only [refN, reduceIte, ↓reduceIte, Int.reduceEq, dash, a0, a21, a22] at hk; exact hQ1 _ hk)
                      ·
                        simp only [decide_eq_false_iff_not] at a22
                        refine then_skip ?_
                        refine seq_run okT3 rfl (by repeat (first | with_reducible exact runf_nil | refine runf_cons (by simp only [xstep, stepf, stepx, qev, St.ev, St.put, List.getElem?_cons_zero, List.getElem?_cons_succ, List.set_cons_zero, List.set_cons_succ, Option.map_some, decide_false, Option.some.injEq, a22]; rfl) ?_)) ?_
                        refine run_end okT3 rfl (by repeat (first | with_reducible exact runf_nil | refine runf_cons (by simp only [xstep, stepf, stepx, qev, St.ev, St.put, List.getElem?_cons_zero, List.getElem?_cons_succ, List.set_cons_zero, List.set_cons_succ, Option.map_some, Option.some.injEq]; rfl) ?_)) ?_
                        simp only []
                        (obtain ⟨je, hje⟩ : ∃ je : Nat, (quoteRF s i).2 = (je : Int) := ⟨(quoteRF s i).2.toNat, by omega⟩; have hqi := hQi (by omega); simp only [refN, reduceIte, ↓reduceIte, Int.reduceEq, dash, a0, a21, a22] at hk; rw [hje] at hk hqi ⊢; simp only [Int.toNat_natCast] at hk; exact ⟨je, 2, (quoteRF s i).1, T, by omega, by omega, hk, ⟨by repeat (first | exact .nil | refine .same ?_ | refine .top ?_), rfl⟩⟩)
                    ·
                      simp only [decide_eq_false_iff_not] at a21
                      by_cases a23 : (byt s i = 61)
                      ·
                        refine seq_run okT3 rfl (by repeat (first | with_reducible exact runf_nil | refine runf_cons (by simp only [xstep, stepf, stepx, qev, St.ev, St.put, qpick, qint, qshift, isEq, qeq, isShift, qbin, constD, constC, List.getElem?_cons_zero, List.getElem?_cons_succ, List.set_cons_zero, List.set_cons_succ, Option.bind_some, Option.map_some, Option.map_none, if_true, if_false, decide_true, decide_false, cond_true, List.getElem?_toArray, Option.some.injEq, reduceCtorEq, Bool.false_eq_true, a21, eq_true a23]; rfl) ?_)) ?_
                        refine seq_in ?_
                        refine seq_run okT3 rfl (by repeat (first | with_reducible exact runf_nil | refine runf_cons (by simp only [xstep, stepf, stepx, qev, St.ev, St.put, qun, List.getElem?_cons_zero, List.getElem?_cons_succ, List.set_cons_zero, List.set_cons_succ, Option.bind_some, Option.map_some, Bool.not_true, Option.some.injEq]; rfl) ?_)) ?_
                        refine tri_cond (b := false) rfl (fun h => by cases h) (fun _ => ?_)
                        refine then_skip ?_
                        refine run_end okT3 rfl (by repeat (first | with_reducible exact runf_nil | refine runf_cons (by simp only [xstep, stepf, stepx, qev, St.ev, St.put, qint, qshift, isShift, qbin, constD, constC, List.getElem?_cons_zero, List.getElem?_cons_succ, List.set_cons_zero, List.set_cons_succ, Option.map_some, Option.map_none, if_true, if_false, Option.some.injEq, Bool.false_eq_true, hq1, show IntKind.i64.wrap (↑(i + 1) : Int) = _ from wrap_i64 _ (by omega) (by omega)]; rfl) ?_)) ?_
                        simp only []
                        (simp only [refN, reduceIte, Bool.false_eq_true, ↓reduceIte, a0, eq_false a1, eq_false a2, a3, a4, a7, eq_false_of_ne_true a11, a16, a21, eq_true a23] at hk; exact ⟨i + 1, 3, s.extract i (i + 1), T, by omega, by omega, hk, ⟨by repeat (first | exact .nil | refine .same ?_ | refine .top ?_), rfl⟩⟩)
                      ·
                        by_cases a24 : (byt s i = 44)
                        ·
                          refine seq_run okT3 rfl (by repeat (first | with_reducible exact runf_nil | refine runf_cons (by simp only [xstep, stepf, stepx, qev, St.ev, St.put, qpick, qint, qshift, isEq, qeq, isShift, qbin, constD, constC, List.getElem?_cons_zero, List.getElem?_cons_succ, List.set_cons_zero, List.set_cons_succ, Option.bind_some, Option.map_some, Option.map_none, if_true, if_false, decide_true, decide_false, cond_true, cond_false, List.getElem?_toArray, Option.some.injEq, reduceCtorEq, Bool.false_eq_true, a21, eq_false a23, eq_true a24]; rfl) ?_)) ?_
                          refine seq_in ?_
                          refine seq_run okT3 rfl (by repeat (first | with_reducible exact runf_nil | refine runf_cons (by simp only [xstep, stepf, stepx, qev, St.ev, St.put, qun, List.getElem?_cons_zero, List.getElem?_cons_succ, List.set_cons_zero, List.set_cons_succ, Option.bind_some, Option.map_some, Bool.not_true, Option.some.injEq]; rfl) ?_)) ?_
                          refine tri_cond (b := false) rfl (fun h => by cases h) (fun _ => ?_)
                          refine then_skip ?_
                          refine run_end okT3 rfl (by repeat (first | with_reducible exact runf_nil | refine runf_cons (by simp only [xstep, stepf, stepx, qev, St.ev, St.put, qint, qshift, isShift, qbin, constD, constC, List.getElem?_cons_zero, List.getElem?_cons_succ, List.set_cons_zero, List.set_cons_succ, Option.map_some, Option.map_none, if_true, if_false, Option.some.injEq, Bool.false_eq_true, hq1, show IntKind.i64.wrap (↑(i + 1) : Int) = _ from wrap_i64 _ (by omega) (by omega)]; rfl) ?_)) ?_
                          simp only []
                          (simp only [refN, reduceIte, Bool.false_eq_true, ↓reduceIte, a0, eq_false a1, eq_false a2, a3, a4, a7, eq_false_of_ne_true a11, a16, a21, eq_false a23, eq_true a24] at hk; exact ⟨i + 1, 3, s.extract i (i + 1), T, by omega, by omega, hk, ⟨by repeat (first | exact .nil | refine .same ?_ | refine .top ?_), rfl⟩⟩)
                        ·
                          by_cases a25 : (byt s i = 40)
                          ·
                            refine seq_run okT3 rfl (by repeat (first | with_reducible exact runf_nil | refine runf_cons (by simp only [xstep, stepf, stepx, qev, St.ev, St.put, qpick, qint, qshift, isEq, qeq, isShift, qbin, constD, constC, List.getElem?_cons_zero, List.getElem?_cons_succ, List.set_cons_zero, List.set_cons_succ, Option.bind_some, Option.map_some, Option.map_none, if_true, if_false, decide_true, decide_false, cond_true, cond_false, List.getElem?_toArray, Option.some.injEq, reduceCtorEq, Bool.false_eq_true, a21, eq_false a23, eq_false a24, eq_true a25]; rfl) ?_)) ?_
                            refine seq_in ?_
                            refine seq_run okT3 rfl (by repeat (first | with_reducible exact runf_nil | refine runf_cons (by simp only [xstep, stepf, stepx, qev, St.ev, St.put, qun, List.getElem?_cons_zero, List.getElem?_cons_succ, List.set_cons_zero, List.set_cons_succ, Option.bind_some, Option.map_some, Bool.not_true, Option.some.injEq]; rfl) ?_)) ?_
                            refine tri_cond (b := false) rfl (fun h => by cases h) (fun _ => ?_)
                            refine then_skip ?_
                            refine run_end okT3 rfl (by repeat (first | with_reducible exact runf_nil | refine runf_cons (by simp only [xstep, stepf, stepx, qev, St.ev, St.put, qint, qshift, isShift, qbin, constD, constC, List.getElem?_cons_zero, List.getElem?_cons_succ, List.set_cons_zero, List.set_cons_succ, Option.map_some, Option.map_none, if_true, if_false, Option.some.injEq, Bool.false_eq_true, hq1, show IntKind.i64.wrap (↑(i + 1) : Int) = _ from wrap_i64 _ (by omega) (by omega)]; rfl) ?_)) ?_
                            simp only []
                            (simp only [refN, reduceIte, Bool.false_eq_true, ↓reduceIte, a0, eq_false a1, eq_false a2, a3, a4, a7, eq_false_of_ne_true a11, a16, a21, eq_false a23, eq_false a24, eq_true a25] at hk; exact ⟨i + 1, 3, s.extract i (i + 1), T, by omega, by omega, hk, ⟨by repeat (first | exact .nil | refine .same ?_ | refine .top ?_), rfl⟩⟩)
                          ·
                            by_cases a26 : (byt s i = 41)
                            ·
                              refine seq_run okT3 rfl (by repeat (first | with_reducible exact runf_nil | refine runf_cons (by simp only [xstep, stepf, stepx, qev, St.ev, St.put, qpick, qint, qshift, isEq, qeq, isShift, qbin, constD, constC, List.getElem?_cons_zero, List.getElem?_cons_succ, List.set_cons_zero, List.set_cons_succ, Option.bind_some, Option.map_some, Option.map_none, if_true, if_false, decide_true, decide_false, cond_true, cond_false, List.getElem?_toArray, Option.some.injEq, reduceCtorEq, Bool.false_eq_true, a21, eq_false a23, eq_false a24, eq_false a25, eq_true a26]; rfl) ?_)) ?_
                              refine seq_in ?_
                              refine seq_run okT3 rfl (by repeat (first | with_reducible exact runf_nil | refine runf_cons (by simp only [xstep, stepf, stepx, qev, St.ev, St.put, qun, List.getElem?_cons_zero, List.getElem?_cons_succ, List.set_cons_zero, List.set_cons_succ, Option.bind_some, Option.map_some, Bool.not_true, Option.some.injEq]; rfl) ?_)) ?_
                              refine tri_cond (b := false) rfl (fun h => by cases h) (fun _ => ?_)
                              refine then_skip ?_
                              refine run_end okT3 rfl (by repeat (first | with_reducible exact runf_nil | refine runf_cons (by simp only [xstep, stepf, stepx, qev, St.ev, St.put, qint, qshift, isShift, qbin, constD, constC, List.getElem?_cons_zero, List.getElem?_cons_succ, List.set_cons_zero, List.set_cons_succ, Option.map_some, Option.map_none, if_true, if_false, Option.some.injEq, Bool.false_eq_true, hq1, show IntKind.i64.wrap (↑(i + 1) : Int) = _ from wrap_i64 _ (by omega) (by omega)]; rfl) ?_)) ?_
                              simp only []
                              (simp only [refN, reduceIte, Bool.false_eq_true, ↓reduceIte, a0, eq_false a1, eq_false a2, a3, a4, a7, eq_false_of_ne_true a11, a16, a21, eq_false a23, eq_false a24, eq_false a25, eq_true a26] at hk; exact ⟨i + 1, 3, s.extract i (i + 1), T, by omega, by omega, hk, ⟨by repeat (first | exact .nil | refine .same ?_ | refine .top ?_), rfl⟩⟩)
                            ·
                              by_cases a27 : (byt s i = 91)
                              ·
                                refine seq_run okT3 rfl (by repeat (first | with_reducible exact runf_nil | refine runf_cons (by simp only [xstep, stepf, stepx, qev, St.ev, St.put, qpick, qint, qshift, isEq, qeq, isShift, qbin, constD, constC, List.getElem?_cons_zero, List.getElem?_cons_succ, List.set_cons_zero, List.set_cons_succ, Option.bind_some, Option.map_some, Option.map_none, if_true, if_false, decide_true, decide_false, cond_true, cond_false, List.getElem?_toArray, Option.some.injEq, reduceCtorEq, Bool.false_eq_true, a21, eq_false a23, eq_false a24, eq_false a25, eq_false a26, eq_true a27]; rfl) ?_)) ?_
                                refine seq_in ?_
                                refine seq_run okT3 rfl (by repeat (first | with_reducible exact runf_nil | refine runf_cons (by simp only [xstep, stepf, stepx, qev, St.ev, St.put, qun, List.getElem?_cons_zero, List.getElem?_cons_succ, List.set_cons_zero, List.set_cons_succ, Option.bind_some, Option.map_some, Bool.not_true, Option.some.injEq]; rfl) ?_)) ?_
                                refine tri_cond (b := false) rfl (fun h => by cases h) (fun _ => ?_)
                                refine then_skip ?_
                                refine run_end okT3 rfl (by repeat (first | with_reducible exact runf_nil | refine runf_cons (by simp only [xstep, stepf, stepx, qev, St.ev, St.put, qint, qshift, isShift, qbin, constD, constC, List.getElem?_cons_zero, List.getElem?_cons_succ, List.set_cons_zero, List.set_cons_succ, Option.map_some, Option.map_none, if_true, if_false, Option.some.injEq, Bool.false_eq_true, hq1, show IntKind.i64.wrap (↑(i + 1) : Int) = _ from wrap_i64 _ (by omega) (by omega)]; rfl) ?_)) ?_
                                simp only []
                                (simp only [refN, reduceIte, Bool.false_eq_true, ↓reduceIte, a0, eq_false a1, eq_false a2, a3, a4, a7, eq_false_of_ne_true a11, a16, a21, eq_false a23, eq_false a24, eq_false a25, eq_false a26, eq_true a27] at hk; exact ⟨i + 1, 3, s.extract i (i + 1), T, by omega, by omega, hk, ⟨by repeat (first | exact .nil | refine .same ?_ | refine .top ?_), rfl⟩⟩)
                              ·
                                by_cases a28 : (byt s i = 93)
                                ·
                                  refine seq_run okT3 rfl (by repeat (first | with_reducible exact runf_nil | refine runf_cons (by simp only [xstep, stepf, stepx, qev, St.ev, St.put, qpick, qint, qshift, isEq, qeq, isShift, qbin, constD, constC, List.getElem?_cons_zero, List.getElem?_cons_succ, List.set_cons_zero, List.set_cons_succ, Option.bind_some, Option.map_some, Option.map_none, if_true, if_false, decide_true, decide_false, cond_true, cond_false, List.getElem?_toArray, Option.some.injEq, reduceCtorEq, Bool.false_eq_true, a21, eq_false a23, eq_false a24, eq_false a25, eq_false a26, eq_false a27, eq_true a28]; rfl) ?_)) ?_
                                  refine seq_in ?_
                                  refine seq_run okT3 rfl (by repeat (first | with_reducible exact runf_nil | refine runf_cons (by simp only [xstep, stepf, stepx, qev, St.ev, St.put, qun, List.getElem?_cons_zero, List.getElem?_cons_succ, List.set_cons_zero, List.set_cons_succ, Option.bind_some, Option.map_some, Bool.not_true, Option.some.injEq]; rfl) ?_)) ?_
                                  refine tri_cond (b := false) rfl (fun h => by cases h) (fun _ => ?_)
                                  refine then_skip ?_
                                  refine run_end okT3 rfl (by repeat (first | with_reducible exact runf_nil | refine runf_cons (by simp only [xstep, stepf, stepx, qev, St.ev, St.put, qint, qshift, isShift, qbin, constD, constC, List.getElem?_cons_zero, List.getElem?_cons_succ, List.set_cons_zero, List.set_cons_succ, Option.map_some, Option.map_none, if_true, if_false, Option.some.injEq, Bool.false_eq_true, hq1, show IntKind.i64.wrap (↑(i + 1) : Int) = _ from wrap_i64 _ (by omega) (by omega)]; rfl) ?_)) ?_
                                  simp only []
                                  (simp only [refN, reduceIte, Bool.false_eq_true, ↓reduceIte, a0, eq_false a1, eq_false a2, a3, a4, a7, eq_false_of_ne_true a11, a16, a21, eq_false a23, eq_false a24, eq_false a25, eq_false a26, eq_false a27, eq_true a28] at hk; exact ⟨i + 1, 3, s.extract i (i + 1), T, by omega, by omega, hk, ⟨by repeat (first | exact .nil | refine .same ?_ | refine .top ?_), rfl⟩⟩)
                                ·
                                  refine seq_run okT3 rfl (by repeat (first | with_reducible exact runf_nil | refine runf_cons (by simp only [xstep, stepf, stepx, qev, St.ev, St.put, qpick, qint, qshift, isShift, qbin, constD, constC, List.getElem?_cons_zero, List.getElem?_cons_succ, List.set_cons_zero, List.set_cons_succ, Option.bind_some, Option.map_some, Option.map_none, if_true, if_false, decide_false, cond_false, List.getElem?_toArray, Option.some.injEq, Bool.false_eq_true, a21, eq_false a23, eq_false a24, eq_false a25, eq_false a26, eq_false a27, eq_false a28]; rfl) ?_)) ?_
                                  refine seq_in ?_
                                  refine seq_run okT3 rfl (by repeat (first | with_reducible exact runf_nil | refine runf_cons (by simp only [xstep, stepf, stepx, qev, St.ev, St.put, qun, List.getElem?_cons_zero, List.getElem?_cons_succ, List.set_cons_zero, List.set_cons_succ, Option.bind_some, Option.map_some, Option.some.injEq]; rfl) ?_)) ?_
                                  refine tri_cond rfl (fun a29 => ?_) (fun a29 => ?_)
                                  ·
                                    simp only [decide_eq_false_iff_not, Bool.not_eq_true'] at a29
                                    refine seq_run okT3 rfl (by repeat (first | with_reducible exact runf_nil | refine runf_cons (by simp only [xstep, stepf, stepx, qev, St.ev, St.put, constD, constC, List.getElem?_cons_zero, List.getElem?_cons_succ, List.set_cons_zero, List.set_cons_succ, Option.map_some, decide_false, Bool.not_false, Option.some.injEq, a29]; rfl) ?_)) ?_
                                    refine tri_ret (ends_ret (by simp only [outRes, resDs, resD, outDs, outD, outC, C.dat, List.getElem?_cons_zero, List.getElem?_cons_succ, Option.map_some, if_true, Option.some.injEq]; rfl) rfl (by simp) (by simp) ?_)
                                    (simp only [refN, reduceIte, Bool.false_eq_true, ↓reduceIte, a0, eq_false a1, eq_false a2, a3, a4, a7, eq_false_of_ne_true a11, a16, a21, eq_false a23, eq_false a24, eq_false a25, eq_false a26, eq_false a27, eq_false a28, a29] at hk; exact hQ1 _ hk)
                                  ·
                                    simp only [decide_eq_true_eq, Bool.not_eq_false'] at a29
                                    refine then_skip ?_
                                    refine run_end okT3 rfl (by repeat (first | with_reducible exact runf_nil | refine runf_cons (by simp only [xstep, stepf, stepx, qev, St.ev, St.put, qint, qshift, isShift, qbin, constD, constC, List.getElem?_cons_zero, List.getElem?_cons_succ, List.set_cons_zero, List.set_cons_succ, Option.map_some, Option.map_none, if_true, if_false, decide_true, Bool.not_true, Option.some.injEq, Bool.false_eq_true, hq1, a29, show IntKind.i64.wrap (↑(i + 1) : Int) = _ from wrap_i64 _ (by omega) (by omega)]; rfl) ?_)) ?_
                                    simp only []
                                    (simp only [refN, reduceIte, ↓reduceIte, Int.reduceEq, dash, a0, a29] at hk; exact ⟨i + 1, 3, s.extract i (i + 1), T, by omega, by omega, hk, ⟨by repeat (first | exact .nil | refine .same ?_ | refine .top ?_), rfl⟩⟩)
  ·
    simp only [decide_eq_false_iff_not] at a0
    refine tri_exit ?_
    show Tri _ _ _ _
    refine seq_run okT3 rfl (by repeat (first | with_reducible exact runf_nil | refine runf_cons (by simp only [xstep, stepf, stepx, qev, St.ev, St.put, constD, constC, List.getElem?_cons_zero, List.getElem?_cons_succ, List.set_cons_zero, List.set_cons_succ, Option.map_some, decide_false, Option.some.injEq, a0]; rfl) ?_)) ?_
    refine tri_ret (ends_ret (by simp only [outRes, resDs, resD, outDs, outD, outC, C.dat, List.getElem?_cons_zero, List.getElem?_cons_succ, Option.map_some, if_true, and_self, Option.some.injEq, ne_eq, not_false_eq_true, reduceCtorEq, hlk, hlp, hlt]; rfl) rfl (by simp) (by simp) ?_)
    (simp only [refN, reduceIte, ↓reduceIte, Int.reduceNeg, a0] at hk; rw [hrk, hrp, hrt]; exact hQ2 _ hk)
end Go.Dl
