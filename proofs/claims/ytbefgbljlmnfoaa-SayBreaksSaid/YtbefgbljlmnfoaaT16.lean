/- Plain law: the tokens of a step, as it is said, are read as the step; Plain law: the tokens of a paper, and of a step, are read as they are; The walk of PrintAll; Plain law: scripts of steps as they are said are read as these steps; The walk of the law's few: a step of few fields, few names, short texts; The walk of the law's plain: what a script can say; The walk of the law's same: are two steps one?. -/
import Derived.Test.YtbefgbljlmnfoaaT15
set_option linter.all false
namespace Go.Dl
open Go.RowKit
open Go.Proofs
set_option linter.unusedVariables false
set_option linter.unusedSectionVars false
/-- From a place on a list of tokens has these. -/
def hasK (l : List Tok) (i : Nat) (ks : List Tk) : Prop := ∃ r, (l.map tkT).drop i = ks ++ r
theorem hasK_l {l : List Tok} {i : Nat} {a b : List Tk} (h : hasK l i (a ++ b)) : hasK l i a := by
  obtain ⟨r, hr⟩ := h
  exact ⟨b ++ r, by rw [hr, List.append_assoc]⟩
theorem hasK_r {l : List Tok} {i : Nat} {a b : List Tk} (h : hasK l i (a ++ b)) : hasK l (i + a.length) b := by
  obtain ⟨r, hr⟩ := h
  refine ⟨r, ?_⟩
  rw [← List.drop_drop, hr, List.append_assoc, List.drop_left]
theorem hasK_at {l : List Tok} {i : Nat} {k : Tk} {ks : List Tk} (h : hasK l i (k :: ks)) : ∃ p, l[i]? = some (k.1, k.2, p) := by
  obtain ⟨r, hr⟩ := h
  have h1 : ((l.map tkT).drop i)[0]? = some k := by rw [hr]; rfl
  rw [List.getElem?_drop, Nat.add_zero, List.getElem?_map] at h1
  cases hl : l[i]? with
  | none => rw [hl] at h1; cases h1
  | some t =>
    rw [hl] at h1
    obtain ⟨a, b, p⟩ := t
    simp only [Z4, tkT, Z3] at h1
    subst h1
    exact ⟨p, rfl⟩
theorem hasK_s {l : List Tok} {i : Nat} {k : Tk} {ks : List Tk} (h : hasK l i (k :: ks)) : hasK l (i + 1) ks := hasK_r (a := [k]) h
theorem hasK_le {l : List Tok} {i : Nat} {ks : List Tk} (h : hasK l i ks) (hi : i ≤ l.length) : i + ks.length ≤ l.length := by
  obtain ⟨r, hr⟩ := h
  have := congrArg List.length hr
  rw [List.length_drop, List.length_map, List.length_append] at this
  omega
theorem joinK_cons {α : Type} (s : List Tk) (K : α → List Tk) (x : α) (r : List α) : joinK s ((x :: r).map K) = K x ++ r.flatMap (fun y => s ++ K y) := by
  rw [List.map_cons, joinK, List.flatMap_map]
section
variable {l : List Tok} {e bad : Int} (hb : bad < 0)
include hb
theorem takeK {i : Nat} {k : Int} {w : ByteArray} {ks : List Tk} (h : hasK l i ((k, w) :: ks)) : takeF l i e bad k = (w, i + 1, bad) := by
  obtain ⟨p, hp⟩ := hasK_at h
  exact take_hit hb hp rfl
theorem markK {i : Nat} {m : ByteArray} {ks : List Tk} (h : hasK l i ((3, m) :: ks)) : markF l i e bad m = (i + 1, bad) := by
  obtain ⟨p, hp⟩ := hasK_at h
  exact mark_hit hb hp
theorem peekK {i : Nat} {m : ByteArray} {ks : List Tk} (h : hasK l i ((3, m) :: ks)) : peekF l i bad m = true := by
  obtain ⟨p, hp⟩ := hasK_at h
  exact peek_hit hb hp
theorem peekK_no {i : Nat} {m : ByteArray} {k : Tk} {ks : List Tk} (h : hasK l i (k :: ks)) (hk : k.1 ≠ 3 ∨ strEq k.2 m = false) : peekF l i bad m = false := by
  obtain ⟨p, hp⟩ := hasK_at h
  unfold peekF
  rw [hp]
  dsimp only
  rcases hk with hk | hk
  · rw [decide_eq_false hk]; simp
  · rw [hk]; simp
theorem numK {i : Nat} {n : Int} {ks : List Tk} (hn : inR .i64 n = true) (h : hasK l i ((1, wholeB n) :: ks)) : numT l i e bad = (n, i + 1, bad) := by
  obtain ⟨p, hp⟩ := hasK_at h
  obtain ⟨h1, h2⟩ := i64_rng hn
  unfold numT
  rw [number_read h1 h2 hb hp]; rfl
theorem countK {i m : Nat} {ks : List Tk} (hm : m < 18446744073709551616) (h : hasK l i ((1, decB m) :: ks)) : countF l i e bad = ((m : Int), i + 1, bad) := by
  unfold countF
  rw [takeK hb h]
  dsimp only
  rw [if_pos hb, digits_dec hm, if_pos rfl]
theorem valK {i : Nat} {v : Val} {ks : List Tk} (h0 : 0 ≤ v.1) (h4 : v.1 ≤ 4) (hp : valPre v) (h : hasK l i (tkV v ++ ks)) : valueF l i e bad = (wantV v, i + (tkV v).length, bad) := by
  obtain ⟨hn1, hn2⟩ := i64_rng hp.1
  obtain ⟨hb1, hb2⟩ := u64_rng hp.2.1
  obtain ⟨k, fl, n, b, t⟩ := v
  dsimp only at h0 h4 hn1 hn2 hb1 hb2
  unfold tkV at h ⊢
  unfold wantV
  dsimp only at h ⊢
  by_cases k0 : k = 0
  · subst k0
    obtain ⟨p, hg⟩ := hasK_at h
    unfold valueF
    rw [if_neg (by omega), hg]
    show wordF l i e bad nullW = (val0, i + 1, bad)
    rw [wordF, if_pos (by decide +kernel)]
  by_cases k1 : k = 1
  · subst k1
    cases fl with
    | false =>
      obtain ⟨p, hg⟩ := hasK_at h
      unfold valueF
      rw [if_neg (by omega), hg]
      show wordF l i e bad falseW = ((1, false, 0, 0, noText), i + 1, bad)
      rw [wordF, if_neg (by decide +kernel), if_neg (by decide +kernel), if_pos (by decide +kernel)]
    | true =>
      obtain ⟨p, hg⟩ := hasK_at h
      unfold valueF
      rw [if_neg (by omega), hg]
      show wordF l i e bad trueW = ((1, true, 0, 0, noText), i + 1, bad)
      rw [wordF, if_neg (by decide +kernel), if_pos (by decide +kernel)]
  by_cases k2 : k = 2
  · subst k2
    rw [if_neg (by decide), if_neg (by decide), if_pos rfl] at h
    obtain ⟨p, hg⟩ := hasK_at h
    have hN := number_read (e := e) hn1 hn2 hb hg
    have hlen : (if (2 : Int) = 0 then [((0 : Int), nullW)] else if (2 : Int) = 1 then if fl = true then [(0, trueW)] else [(0, falseW)] else if (2 : Int) = 2 then [(1, wholeB n)] else if (2 : Int) = 3 then [(0, floatW), (3, lpar), (2, hexB b.toNat), (3, rpar)] else if (2 : Int) = 4 then [(2, t)] else [(0, noneW)]).length = 1 := by
      rw [if_neg (by decide), if_neg (by decide), if_pos rfl]; rfl
    rw [hlen]
    unfold valueF
    rw [if_neg (by omega), hg]
    dsimp only
    rw [if_pos rfl, hN]
    rfl
  by_cases k3 : k = 3
  · subst k3
    obtain ⟨c, rfl⟩ : ∃ c : Nat, b = (c : Int) := ⟨b.toNat, by omega⟩
    rw [if_neg (by decide), if_neg (by decide), if_neg (by decide), if_pos rfl, Int.toNat_natCast] at h
    have hlen : (if (3 : Int) = 0 then [((0 : Int), nullW)] else if (3 : Int) = 1 then if fl = true then [(0, trueW)] else [(0, falseW)] else if (3 : Int) = 2 then [(1, wholeB n)] else if (3 : Int) = 3 then [(0, floatW), (3, lpar), (2, hexB ((c : Nat) : Int).toNat), (3, rpar)] else if (3 : Int) = 4 then [(2, t)] else [(0, noneW)]).length = 4 := by
      rw [if_neg (by decide), if_neg (by decide), if_neg (by decide), if_pos rfl]; rfl
    rw [hlen]
    obtain ⟨p, g0⟩ := hasK_at h
    have a1 : flA l (i + 1) e bad = (i + 1 + 1, bad) := markK hb (hasK_s h)
    have a2 : flB l (i + 1) e bad = (hexB c, i + 1 + 1 + 1, bad) := by unfold flB; rw [a1]; exact takeK hb (hasK_s (hasK_s h))
    have a3 : markF l (i + 1 + 1 + 1) e bad rpar = (i + 1 + 1 + 1 + 1, bad) := markK hb (hasK_s (hasK_s (hasK_s h)))
    have hF : floatF l (i + 1) e bad = ((3, false, 0, (c : Int), noText), i + 1 + 1 + 1 + 1, bad) := by
      unfold floatF
      rw [a2]
      dsimp only
      rw [if_neg (by omega), bits_hex (by omega)]
      dsimp only
      rw [strEq_ne (show (hexB c).size ≠ noText.size from by show ((hexN 16 c).toArray).size ≠ 0; rw [List.size_toArray, hexN_len]; decide), if_neg (by simp), a3]
    unfold valueF
    rw [if_neg (by omega), g0]
    dsimp only
    rw [if_neg (by decide), if_neg (by decide), if_pos rfl]
    unfold wordF
    rw [if_neg (by decide +kernel), if_neg (by decide +kernel), if_neg (by decide +kernel), if_pos (by decide +kernel), hF]
    rfl
  · obtain rfl : k = 4 := by omega
    rw [if_neg (by decide), if_neg (by decide), if_neg (by decide), if_neg (by decide), if_pos rfl] at h
    obtain ⟨p, hg⟩ := hasK_at h
    unfold valueF
    rw [if_neg (by omega), hg]
    rfl
theorem namesGoK : ∀ (r : List ByteArray) (f c i : Nat) (acc : List ByteArray) {ks : List Tk}, hasK l i (r.flatMap (fun s => [((3 : Int), comma), (2, s)]) ++ (3, rbr) :: ks) → 0 < c → c + r.length ≤ 100 → r.length < f →
    namesGo l e f c i bad acc = (acc ++ r, i + (r.flatMap (fun s => [((3 : Int), comma), (2, s)])).length, bad)
  | [], f, c, i, acc, ks, h, hc, hl, hf => by
    obtain ⟨f, rfl⟩ : ∃ k, f = k + 1 := ⟨f - 1, by simp at hf; omega⟩
    rw [namesGo, if_pos hb, if_pos (peekK hb h)]
    simp
  | x :: r, f, c, i, acc, ks, h, hc, hl, hf => by
    obtain ⟨f, rfl⟩ : ∃ k, f = k + 1 := ⟨f - 1, by simp at hf; omega⟩
    rw [List.length_cons] at hl hf
    rw [List.flatMap_cons] at h ⊢
    have h2 := hasK_s h
    rw [namesGo, if_pos hb, peekK_no hb h (.inr (by decide +kernel)), if_neg (by simp), if_pos (by omega), if_neg (by omega), markK hb h]
    dsimp only
    rw [takeK hb h2]
    dsimp only
    rw [namesGoK r f (c + 1) (i + 1 + 1) (acc ++ [x]) (hasK_s h2) (by omega) (by omega) (by omega), List.append_assoc, List.length_append]
    simp only [Z9, Z10, List.singleton_append]
    rw [show i + 1 + 1 = i + (0 + 1 + 1) by omega, Nat.add_assoc]
theorem namesFK {i : Nat} {ns : List ByteArray} {ks : List Tk} (hn : ns.length ≤ 100) (h : hasK l i (namesK ns ++ ks)) : namesF l i e bad = (ns, i + (namesK ns).length, bad) := by
  have e0 : namesK ns ++ ks = (3, lbr) :: (joinK [(3, comma)] (ns.map fun s => [(2, s)]) ++ (3, rbr) :: ks) := by simp [namesK]
  have e1 : (namesK ns).length = (joinK [(3, comma)] (ns.map fun s => [((2 : Int), s)])).length + 2 := by simp [namesK]
  rw [e0] at h
  have h1 := hasK_s h
  have hR : namesR l i e bad = (ns, i + 1 + (joinK [(3, comma)] (ns.map fun s => [((2 : Int), s)])).length, bad) := by
    unfold namesR
    rw [markK hb h]
    dsimp only
    cases ns with
    | nil => exact (by rw [namesGo, if_pos hb, if_pos (peekK hb h1)]; rfl)
    | cons x r =>
      rw [List.length_cons] at hn
      rw [joinK_cons] at h1 ⊢
      rw [List.append_assoc] at h1
      rw [namesGo, if_pos hb, peekK_no hb h1 (.inl (show (2 : Int) ≠ 3 by decide)), if_neg (by simp), if_neg (by decide), takeK hb h1]
      dsimp only
      rw [namesGoK hb r 101 (0 + 1) (i + 1 + 1) ([] ++ [x]) (hasK_s h1) (by omega) (by omega) (by omega)]
      simp only [Z12, List.singleton_append, List.length_append, Z9, Z10]
      rw [show i + 1 + 1 = i + 1 + (0 + 1) by omega, Nat.add_assoc (i + 1), Nat.add_comm (0 + 1)]
  rw [names_eq hR]
  dsimp only
  rw [markK hb (hasK_r h1), e1]
  rw [show i + 1 + (joinK [(3, comma)] (ns.map fun s => [((2 : Int), s)])).length + 1 = i + ((joinK [(3, comma)] (ns.map fun s => [((2 : Int), s)])).length + 2) by omega]
end
end Go.Dl

namespace Go.Dl
open Go.RowKit
open Go.Proofs
set_option linter.unusedVariables false
set_option linter.unusedSectionVars false
def kindOk (f : Fld) : Prop := 0 ≤ f.2.1 ∧ f.2.1 ≤ 4
instance (f : Fld) : Decidable (kindOk f) := inferInstanceAs (Decidable (_ ∧ _))
/-- What is read of a field. -/
def wantFl (f : Fld) : Fld := (f.1, wantV f.2)
theorem paperGo_bad (l : List Tok) (e : Int) : ∀ (f c i : Nat) (bad : Int) (acc : List Fld), 0 ≤ bad → paperGo l e f c i bad acc = (acc, i, bad)
  | 0, c, i, bad, acc, h => rfl
  | f + 1, c, i, bad, acc, h => by rw [paperGo, if_neg (by omega)]
section
variable {l : List Tok} {e bad : Int} (hb : bad < 0)
include hb
theorem fldQ {i : Nat} {x : Fld} {ks : List Tk} (h : hasK l i (fldK x ++ ks)) : (takeF l i e bad 2).1 = x.1 ∧ paQ l e i bad = (i + 2, bad) ∧ hasK l (i + 2) (tkV x.2 ++ ks) := by
  have h' : hasK l i ((2, x.1) :: (3, eqm) :: (tkV x.2 ++ ks)) := h
  have h2 := hasK_s h'
  refine ⟨by rw [takeK hb h'], ?_, hasK_s h2⟩
  unfold paQ
  rw [takeK hb h']
  exact markK hb h2
theorem fldRead {i : Nat} {x : Fld} {ks : List Tk} (hp : valPre x.2) (hk : kindOk x) (h : hasK l i (fldK x ++ ks)) : paFld l e i bad = wantFl x ∧ (paV l e i bad).2 = (i + (fldK x).length, bad) ∧ hasK l (i + (fldK x).length) ks := by
  obtain ⟨h1, h2, h3⟩ := fldQ (e := e) hb h
  have hv : paV l e i bad = (wantV x.2, i + 2 + (tkV x.2).length, bad) := by
    unfold paV
    rw [h2]
    exact valK hb hk.1 hk.2 hp h3
  have hl : (fldK x).length = (tkV x.2).length + 2 := rfl
  refine ⟨?_, ?_, hasK_r h⟩
  · unfold paFld
    rw [h1, hv]; rfl
  · rw [hv, hl]
    show (_, _) = _
    rw [show i + 2 + (tkV x.2).length = i + ((tkV x.2).length + 2) by omega]
theorem paGoK : ∀ (r : List Fld) (f c i : Nat) (acc : List Fld) {ks : List Tk}, (∀ x ∈ r, valPre x.2 ∧ kindOk x) → hasK l i (r.flatMap (fun x => [((3 : Int), comma)] ++ fldK x) ++ (3, rpar) :: ks) → 0 < c → c + r.length ≤ 100 → r.length < f →
    paperGo l e f c i bad acc = (acc ++ r.map wantFl, i + (r.flatMap (fun x => [((3 : Int), comma)] ++ fldK x)).length, bad)
  | [], f, c, i, acc, ks, hx, h, hc, hl, hf => by
    obtain ⟨f, rfl⟩ : ∃ k, f = k + 1 := ⟨f - 1, by simp at hf; omega⟩
    rw [paperGo, if_pos hb, if_pos (peekK hb h)]
    simp
  | x :: r, f, c, i, acc, ks, hx, h, hc, hl, hf => by
    obtain ⟨f, rfl⟩ : ∃ k, f = k + 1 := ⟨f - 1, by simp at hf; omega⟩
    rw [List.length_cons] at hl hf
    rw [List.flatMap_cons, List.append_assoc, List.append_assoc] at h
    rw [List.flatMap_cons]
    have h2 := hasK_r h
    obtain ⟨g1, g2, g3⟩ := fldRead (e := e) hb (hx x (List.mem_cons_self ..)).1 (hx x (List.mem_cons_self ..)).2 h2
    rw [paperGo, if_pos hb, peekK_no hb h (.inr (by decide +kernel)), if_neg (by simp), if_pos (by omega), if_neg (by omega), markK hb h]
    dsimp only
    rw [show [((3 : Int), comma)].length = 1 from rfl] at g1 g2 g3
    rw [g1, g2]
    dsimp only
    rw [paGoK r f (c + 1) _ (acc ++ [wantFl x]) (fun y hy => hx y (List.mem_cons_of_mem _ hy)) g3 (by omega) (by omega) (by omega), List.append_assoc, List.length_append, List.length_append, List.map_cons]
    simp only [Z9, Z10, List.singleton_append]
    rw [show i + 1 + (fldK x).length + (List.flatMap (fun x => ((3 : Int), comma) :: fldK x) r).length = i + (0 + 1 + (fldK x).length + (List.flatMap (fun x => ((3 : Int), comma) :: fldK x) r).length) by omega]
theorem paperRK {i : Nat} {fs : List Fld} {ks : List Tk} (hn : fs.length ≤ 100) (hx : ∀ x ∈ fs, valPre x.2 ∧ kindOk x) (h : hasK l i (joinK [(3, comma)] (fs.map fldK) ++ (3, rpar) :: ks)) :
    paperGo l e 102 0 i bad [] = (fs.map wantFl, i + (joinK [(3, comma)] (fs.map fldK)).length, bad) := by
  cases fs with
  | nil => exact (by rw [paperGo, if_pos hb, if_pos (peekK hb h)]; rfl)
  | cons x r =>
    rw [List.length_cons] at hn
    rw [joinK_cons] at h ⊢
    rw [List.append_assoc] at h
    have h' : hasK l i ((2, x.1) :: ((3, eqm) :: (tkV x.2 ++ (r.flatMap (fun x => [((3 : Int), comma)] ++ fldK x) ++ (3, rpar) :: ks)))) := h
    obtain ⟨g1, g2, g3⟩ := fldRead (e := e) hb (hx x (List.mem_cons_self ..)).1 (hx x (List.mem_cons_self ..)).2 h
    rw [paperGo, if_pos hb, peekK_no hb h' (.inl (show (2 : Int) ≠ 3 by decide)), if_neg (by simp), if_neg (by decide), g1, g2]
    dsimp only
    rw [paGoK hb r 101 (0 + 1) _ ([] ++ [wantFl x]) (fun y hy => hx y (List.mem_cons_of_mem _ hy)) g3 (by omega) (by omega) (by omega), List.length_append, Nat.add_assoc]
    rfl
omit hb in
theorem paper_split {p : Paper} {ks : List Tk} : paperK p ++ ks = (2, p.1) :: (1, wholeB p.2.1) :: (3, lpar) :: (joinK [(3, comma)] (p.2.2.map fldK) ++ (3, rpar) :: ks) := by simp [paperK]
theorem paperM {i : Nat} {p : Paper} {ks : List Tk} (hc : inR .i64 p.2.1 = true) (h : hasK l i (paperK p ++ ks)) :
    (takeF l i e bad 2).1 = p.1 ∧ (paI l i e bad).1 = p.2.1 ∧ paM l i e bad = (i + 3, bad) ∧ hasK l (i + 3) (joinK [(3, comma)] (p.2.2.map fldK) ++ (3, rpar) :: ks) := by
  rw [paper_split] at h
  have h1 := hasK_s h
  have h2 := hasK_s h1
  have t1 := takeK (e := e) hb h
  have t2 : paI l i e bad = (p.2.1, i + 1 + 1, bad) := by unfold paI; rw [t1]; exact numK hb hc h1
  refine ⟨by rw [t1], by rw [t2], ?_, hasK_s h2⟩
  unfold paM
  rw [t2]
  exact markK hb h2
theorem paperFK {i : Nat} {p : Paper} {ks : List Tk} (hc : inR .i64 p.2.1 = true) (hn : p.2.2.length ≤ 100) (hx : ∀ x ∈ p.2.2, valPre x.2 ∧ kindOk x) (h : hasK l i (paperK p ++ ks)) :
    paperF l i e bad = ((p.1, p.2.1, p.2.2.map wantFl), i + (paperK p).length, bad) := by
  obtain ⟨m1, m2, m3, m4⟩ := paperM (e := e) hb hc h
  have hR : paperR l i e bad = (p.2.2.map wantFl, i + 3 + (joinK [(3, comma)] (p.2.2.map fldK)).length, bad) := by
    unfold paperR
    rw [m3]
    exact paperRK hb hn hx m4
  have e1 : (paperK p).length = (joinK [(3, comma)] (p.2.2.map fldK)).length + 4 := by simp [paperK]
  rw [paper_eq hR, m1, m2]
  dsimp only
  rw [markK hb (hasK_r m4), e1]
  rw [show i + 3 + (joinK [(3, comma)] (p.2.2.map fldK)).length + 1 = i + ((joinK [(3, comma)] (p.2.2.map fldK)).length + 4) by omega]
end
/-- One argument of a step, as it is read. -/
def setA (a : ActM) (b : ActM) (k : Int) : ActM :=
  if k = 0 then { b with id := a.id } else if k = 1 then { b with name := a.name } else if k = 2 then { b with names := some (a.names.getD []) }
  else if k = 3 then { b with n := a.n } else if k = 4 then { b with m := a.m } else if k = 5 then { b with keep := a.keep } else if k = 6 then { b with tear := a.tear }
  else if k = 7 then { b with draw := a.draw } else if k = 8 then { b with pid := a.pid, cls := a.cls, flds := some ((a.flds.getD []).map wantFl) } else b
/-- What a script can hold. -/
structure sayOk (a : ActM) : Prop where
  pre : actPre a
  fl : (a.flds.getD []).length ≤ 100
  nm : (a.names.getD []).length ≤ 100
def kindsOk (a : ActM) : Prop := ∀ x ∈ a.flds.getD [], kindOk x
theorem argK {l : List Tok} {e bad : Int} (hb : bad < 0) {a : ActM} (ha : sayOk a) {k : Int} (hk0 : 0 ≤ k) (hk8 : k ≤ 8) (hko : k = 8 → kindsOk a) (b : ActM) {i : Nat} {ks : List Tk} (h : hasK l i (argKs a k ++ ks)) : argT l e k b i bad = (setA a b k, i + (argKs a k).length, bad) := by
  have hp := ha.pre
  obtain ⟨k1, k2⟩ := u64_rng hp.keep
  unfold argKs at h ⊢
  unfold argT setA
  by_cases h0 : k = 0
  · rw [if_pos h0] at h; rw [if_pos h0, if_pos h0, if_pos h0, takeK hb h]; rfl
  rw [if_neg h0] at h; rw [if_neg h0, if_neg h0, if_neg h0]
  by_cases h1 : k = 1
  · rw [if_pos h1] at h; rw [if_pos h1, if_pos h1, if_pos h1, takeK hb h]; rfl
  rw [if_neg h1] at h; rw [if_neg h1, if_neg h1, if_neg h1]
  by_cases h2 : k = 2
  · rw [if_pos h2] at h; rw [if_pos h2, if_pos h2, if_pos h2, namesFK hb ha.nm h]
  rw [if_neg h2] at h; rw [if_neg h2, if_neg h2, if_neg h2]
  by_cases h3 : k = 3
  · rw [if_pos h3] at h; rw [if_pos h3, if_pos h3, if_pos h3, numK hb hp.n h]; rfl
  rw [if_neg h3] at h; rw [if_neg h3, if_neg h3, if_neg h3]
  by_cases h4 : k = 4
  · rw [if_pos h4] at h; rw [if_pos h4, if_pos h4, if_pos h4, numK hb hp.m h]; rfl
  rw [if_neg h4] at h; rw [if_neg h4, if_neg h4, if_neg h4]
  by_cases h5 : k = 5
  · rw [if_pos h5] at h; rw [if_pos h5, if_pos h5, if_pos h5, countK hb (by omega) h]
    rw [show ((a.keep.toNat : Nat) : Int) = a.keep by omega]; rfl
  rw [if_neg h5] at h; rw [if_neg h5, if_neg h5, if_neg h5]
  by_cases h6 : k = 6
  · rw [if_pos h6] at h; rw [if_pos h6, if_pos h6, if_pos h6, numK hb hp.tear h]; rfl
  rw [if_neg h6] at h; rw [if_neg h6, if_neg h6, if_neg h6]
  by_cases h7 : k = 7
  · rw [if_pos h7] at h; rw [if_pos h7, if_pos h7, if_pos h7, takeK hb h]; rfl
  rw [if_neg h7] at h; rw [if_neg h7, if_neg h7, if_neg h7]
  have h8 : k = 8 := by omega
  rw [if_pos h8, if_pos h8, paperFK hb hp.pap.2.1 ha.fl (fun x hx => ⟨(hp.pap.2.2.2 x hx).2, hko h8 x hx⟩) h]
theorem argsGoK {l : List Tok} {e bad : Int} (hb : bad < 0) {a : ActM} (ha : sayOk a) : ∀ (xs : List Int) (b : ActM) (i : Nat) {ks : List Tk}, (∀ k ∈ xs, 0 ≤ k ∧ k ≤ 8 ∧ (k = 8 → kindsOk a)) → hasK l i (xs.flatMap (argKs a) ++ ks) →
    argsGo l e xs b i bad = (xs.foldl (setA a) b, i + (xs.flatMap (argKs a)).length, bad)
  | [], b, i, ks, hx, h => rfl
  | k :: xs, b, i, ks, hx, h => by
    rw [List.flatMap_cons, List.append_assoc] at h
    obtain ⟨h1, h2, h3⟩ := hx k (List.mem_cons_self ..)
    rw [argsGo, argK hb ha h1 h2 h3 b h]
    dsimp only
    rw [argsGoK hb ha xs _ _ (fun y hy => hx y (List.mem_cons_of_mem _ hy)) (hasK_r h), List.flatMap_cons, List.length_append, Nat.add_assoc]
    rfl
theorem form_ix : ∀ k : Fin 16, 1 ≤ k.val → formIx (formB k.val) 16 0 = some k.val := by decide +kernel
/-- What is read of a step as it is said. -/
def readA (a : ActM) : ActM := (argsK a.kind).foldl (setA a) (act0 a.kind)
theorem argsK_in {k x : Int} (h : x ∈ argsK k) : 0 ≤ x ∧ x ≤ 8 ∧ (x = 8 → k = 1) := by
  unfold argsK at h
  (repeat' split at h) <;> simp at h <;> omega
theorem argsGo_bad {l : List Tok} {e : Int} : ∀ (xs : List Int) (a : ActM) (i : Nat) (bad : Int), 0 ≤ bad → 0 ≤ (argsGo l e xs a i bad).2.2
  | [], a, i, bad, h => h
  | k :: xs, a, i, bad, h => by
    rw [argsGo]
    refine argsGo_bad xs _ _ _ ?_
    have hT : ∀ j, (takeF l j e bad 2).2 = (j, bad) := fun j => take_bad2 h
    have hT1 : ∀ j, (takeF l j e bad 1).2 = (j, bad) := fun j => take_bad2 h
    have hN : (numT l i e bad).2.2 = bad := by
      unfold numT numberF
      rw [hT1, if_pos h]; rfl
    have hN0 : ∀ j, (numT l j e bad).2.2 = bad := fun j => by
      unfold numT numberF
      rw [hT1, if_pos h]; rfl
    unfold argT
    split
    · dsimp only; rw [hT]; exact h
    split
    · dsimp only; rw [hT]; exact h
    split
    · dsimp only
      have hr : namesR l i e bad = ([], i, bad) := by
        unfold namesR
        rw [mark_bad h, namesGo, if_neg (by omega)]
      rw [names_eq hr]
      dsimp only
      rw [mark_bad h]; exact h
    split
    · dsimp only; rw [hN]; exact h
    split
    · dsimp only; rw [hN]; exact h
    split
    · dsimp only
      unfold countF
      rw [hT1]
      dsimp only
      rw [if_neg (by omega)]
      split <;> exact h
    split
    · dsimp only; rw [hN]; exact h
    split
    · dsimp only; rw [hT]; exact h
    split
    · dsimp only
      have hI : (paI l i e bad).2.2 = bad := by unfold paI; rw [hT]; exact hN0 _
      have hM : (paM l i e bad).2 = bad := by unfold paM; rw [hI, mark_bad h]
      have hr : paperR l i e bad = ([], (paM l i e bad).1, bad) := by
        unfold paperR
        rw [hM, paperGo_bad _ _ _ _ _ _ _ h]
      rw [paper_eq hr]
      dsimp only
      rw [mark_bad h]; exact h
    · exact h
theorem stepFK {l : List Tok} {e bad : Int} (hb : bad < 0) {a : ActM} (ha : sayOk a) (hk1 : 1 ≤ a.kind) (hk2 : a.kind ≤ 15) (hko : a.kind = 1 → kindsOk a) {i : Nat} {ks : List Tk} (h : hasK l i (stepK a ++ ks)) :
    stepF l i e bad = (readA a, i + (stepK a).length, bad) := by
  have e0 : stepK a ++ ks = (0, formB a.kind.toNat) :: ((argsK a.kind).flatMap (argKs a) ++ (3, semi) :: ks) := by simp [stepK]
  have e1 : (stepK a).length = ((argsK a.kind).flatMap (argKs a)).length + 2 := by simp [stepK]
  rw [e0] at h
  have h1 := hasK_s h
  have hW : stepW l i e bad = (formB a.kind.toNat, i + 1, bad) := takeK hb h
  have hix := form_ix ⟨a.kind.toNat, by omega⟩ (by show 1 ≤ a.kind.toNat; omega)
  dsimp only at hix
  have hkk : ((a.kind.toNat : Nat) : Int) = a.kind := by omega
  have hA : stepA l i e bad a.kind.toNat = (readA a, i + 1 + ((argsK a.kind).flatMap (argKs a)).length, bad) := by
    unfold stepA readA
    rw [hW, hkk]
    exact argsGoK hb ha _ _ _ (fun k hk => by
      obtain ⟨x1, x2, x3⟩ := argsK_in hk
      exact ⟨x1, x2, fun h8 => hko (x3 h8)⟩) h1
  rw [stepF_some (by rw [hW]; exact hix) hA]
  dsimp only
  rw [markK hb (hasK_r h1), e1]
  rw [show i + 1 + ((argsK a.kind).flatMap (argKs a)).length + 1 = i + (((argsK a.kind).flatMap (argKs a)).length + 2) by omega]
end Go.Dl

namespace Go.Dl
open Go.RowKit
open Go.Proofs
set_option linter.unusedSimpArgs false
set_option linter.unusedVariables false
theorem act_arg (H : List (Option Root)) (ρ : List Nat) (a : ActM) : argCs H ρ (actC false a) = some (actC false a, []) := by
  obtain ⟨a1, a2, a3, a4, a5, a6, a7, a8, a9, a10, a11, a12⟩ := a
  cases a4 <;> cases a7 <;> rfl
end Go.Dl

namespace Go.Dl
open Go.RowKit
open Go.Proofs
set_option linter.unusedVariables false
/-- A step that a script can say, and that is read again. -/
structure goodA (a : ActM) : Prop where
  say : sayOk a
  k1 : 1 ≤ a.kind
  k2 : a.kind ≤ 15
  kinds : a.kind = 1 → kindsOk a
theorem stepK_pos (a : ActM) : 0 < (stepK a).length := by simp [stepK]
theorem scriptNK {l : List Tok} {e : Int} : ∀ (ss : List ActM) (f i : Nat) (acc : List ActM) {ks : List Tk}, (∀ a ∈ ss, goodA a) → i ≤ l.length → hasK l i (ss.flatMap stepK ++ ks) →
    scriptN l e (f + ss.length) i (-1) acc = scriptN l e f (i + (ss.flatMap stepK).length) (-1) (acc ++ ss.map readA)
  | [], f, i, acc, ks, hg, hi, h => by simp
  | a :: ss, f, i, acc, ks, hg, hi, h => by
    rw [List.flatMap_cons, List.append_assoc] at h
    obtain ⟨h1, h2, h3, h4⟩ := hg a (List.mem_cons_self ..)
    have hs := stepK_pos a
    have hle := hasK_le (hasK_l h) hi
    rw [List.length_cons, ← Nat.add_assoc, scriptN, if_pos (by decide), if_pos (by omega), stepFK (by decide) h1 h2 h3 h4 h]
    dsimp only
    rw [scriptNK ss f _ _ (fun x hx => hg x (List.mem_cons_of_mem _ hx)) hle (hasK_r h), List.flatMap_cons, List.length_append, List.map_cons, List.append_assoc, Nat.add_assoc]
    rfl
theorem steps_len (ss : List ActM) : ss.length ≤ (ss.flatMap stepK).length := by
  induction ss with
  | nil => exact Nat.le_refl _
  | cons a ss ih =>
    have := stepK_pos a
    rw [List.flatMap_cons, List.length_append, List.length_cons]; omega
theorem scriptN_end {l : List Tok} {e : Int} (f : Nat) (acc : List ActM) (bad : Int) : scriptN l e f l.length bad acc = (acc, l.length, bad) := by
  cases f with
  | zero => rfl
  | succ f =>
    rw [scriptN]
    split
    · rw [if_neg (by omega)]
    · rfl
theorem toks_of {T : ByteArray} {ks : List Tk} (hT : T.size ≤ 65536) (h : lexK T 0 ks T.size) : ∃ l, l.map tkT = ks ∧ toksT T = (l, 0, 0) := by
  obtain ⟨l, hl, hx⟩ := h
  exact ⟨l, hl, toks_whole hT hx⟩
theorem hasK_0 {l : List Tok} {ks : List Tk} (h : l.map tkT = ks) : hasK l 0 ks := ⟨[], by rw [List.drop_zero, h, List.append_nil]⟩
/-- A text of steps is read as these steps. -/
theorem scriptK {T : ByteArray} (hT : T.size ≤ 65536) {ss : List ActM} (hg : ∀ a ∈ ss, goodA a) (h : lexK T 0 (ss.flatMap stepK) T.size) : scriptF T = (some (ss.map readA), 0, 0) := by
  obtain ⟨l, hl, ht⟩ := toks_of hT h
  have hlen : l.length = (ss.flatMap stepK).length := by rw [← hl, List.length_map]
  have hle := steps_len ss
  have hP : scriptP l T.size = (ss.map readA, l.length, -1) := by
    unfold scriptP
    have hh : hasK l 0 (ss.flatMap stepK ++ []) := by rw [List.append_nil]; exact hasK_0 hl
    have := scriptNK (e := (T.size : Int)) ss (l.length + 2 - ss.length) 0 [] hg (Nat.zero_le _) hh
    rw [show l.length + 2 - ss.length + ss.length = l.length + 2 by omega, Nat.zero_add, ← hlen, List.nil_append] at this
    rw [this, scriptN_end]
  have hr : scriptP (toksT T).1 T.size = (ss.map readA, l.length, -1) := by rw [ht]; exact hP
  exact script_ok (by rw [ht]) hr (show ¬ (0 : Int) ≤ -1 by decide)
theorem lexK_parts {α : Type} {T : ByteArray} (B : α → ByteArray) (K : α → List Tk) : ∀ (l : List α) (o : Nat), (∀ x ∈ l, ∀ o, inT T o (B x) → lexK T o (K x) (o + (B x).size)) → inT T o (catB (l.map B)) →
    lexK T o (l.flatMap K) (o + (catB (l.map B)).size)
  | [], o, hx, hi => lexK_nil T o
  | x :: r, o, hx, hi => by
    rw [List.map_cons, catB] at hi ⊢
    rw [ByteArray.size_append, ← Nat.add_assoc, List.flatMap_cons]
    exact lexK_app (hx x (List.mem_cons_self ..) o (inT_l hi)) (lexK_parts B K r _ (fun y hy => hx y (List.mem_cons_of_mem _ hy)) (inT_r hi))
theorem inT_whole (T : ByteArray) : inT T 0 T := ⟨by omega, fun j hj => by rw [Nat.zero_add]⟩
theorem lexK_print {T : ByteArray} {o : Nat} {a : ActM} (ha : goodA a) (hi : inT T o (printB a)) : lexK T o (stepK a) (o + (printB a).size) := lexK_step ha.k1 ha.k2 ha.say.pre hi
end Go.Dl

namespace Go.Dl
open Go.RowKit
open Go.Proofs
set_option linter.unusedSimpArgs false
set_option linter.unusedVariables false
def cutA (s : ByteArray) : ByteArray := if 500 < (s.size : Int) then s.extract 0 500 else s
theorem cutA_at (s : ByteArray) (h : s.size ≤ maxStr) : pCut [.c (.v (.string s))] = some (.c (.v (.string (cutA s)))) := if_pos h
end Go.Dl

namespace Go.Dl
open Go.RowKit
open Go.Proofs
set_option linter.unusedSimpArgs false
set_option linter.unusedVariables false
theorem strEq_dec (s t : ByteArray) : strEq s t = decide (s = t) := by
  by_cases h : s = t
  · subst h; rw [decide_eq_true rfl]; exact strEq_same s
  · rw [decide_eq_false h]
    cases hx : strEq s t with
    | false => rfl
    | true =>
      rw [strEq_iff, ByteArray.toList_eq, ByteArray.toList_eq] at hx
      exact absurd (ByteArray.ext (Array.ext' hx)) h
end Go.Dl

namespace Go.Dl
open Go.RowKit
open Go.Proofs
set_option linter.unusedSimpArgs false
set_option linter.unusedVariables false
theorem ft91B : flatT Try.prog 91 = some [.str, (.int .i64), .bool, (.int .i64), (.int .u64), .str] := by kernel_rfl
theorem eqF (a0 b0 : ByteArray) (a1 b1 : Int) (a2 b2 : Bool) (a3 b3 a4 b4 : Int) (a5 b5 : ByteArray) : eqCs [.str, (.int .i64), .bool, (.int .i64), (.int .u64), .str] [.v (.string a0), .v (.int .i64 a1), .v (.bool a2), .v (.int .i64 a3), .v (.int .u64 a4), .v (.string a5)] [.v (.string b0), .v (.int .i64 b1), .v (.bool b2), .v (.int .i64 b3), .v (.int .u64 b4), .v (.string b5)] = some (decide (((a0, a1, a2, a3, a4, a5) : Fld) = (b0, b1, b2, b3, b4, b5))) := by
  simp only [eqCs, eqC, if_true, strEq_dec, Z3]
  rw [Bool.eq_iff_iff]
  simp
theorem dec_cons {α : Type} [DecidableEq α] (x y : α) (r s : List α) : decide (x :: r = y :: s) = if x = y then decide (r = s) else false := by
  by_cases h : x = y
  · rw [if_pos h, h]; simp
  · rw [if_neg h]; simp [h]
theorem if_cons {α : Type} [DecidableEq α] (x y : α) (r s : List α) (z : Bool) : (if x :: r = y :: s then z else false) = if x = y then (if r = s then z else false) else false := by
  by_cases h : x = y
  · rw [if_pos h, h]; simp
  · rw [if_neg h]; simp [h]
/-- Are two steps one? -/
def sameA (a b : ActM) : Bool :=
  if a.kind = b.kind then (if a.id = b.id then (if a.name = b.name then (if a.draw = b.draw then (if a.n = b.n then (if a.m = b.m then (if a.keep = b.keep then (if a.tear = b.tear then (if a.pid = b.pid then (if a.cls = b.cls then
  (if (((a.names.getD []).length : Nat) : Int) = (((b.names.getD []).length : Nat) : Int) then (if (((a.flds.getD []).length : Nat) : Int) = (((b.flds.getD []).length : Nat) : Int) then
  (if a.names.getD [] = b.names.getD [] then decide (a.flds.getD [] = b.flds.getD []) else false) else false) else false) else false) else false) else false) else false) else false) else false) else false) else false) else false) else false
def sameOk (x : ActM × ActM) : Prop := ((x.1.flds.getD []).length ≤ maxStr ∧ (x.1.names.getD []).length ≤ maxStr) ∧ ((x.2.flds.getD []).length ≤ maxStr ∧ (x.2.names.getD []).length ≤ maxStr)
noncomputable def pSame : List D → Option D := famP sameOk (fun x => [.agg (actC false x.1), .agg (actC false x.2)]) (fun x => dB (sameA x.1 x.2))
theorem same_at (a b : ActM) (h : sameOk (a, b)) : pSame [.agg (actC false a), .agg (actC false b)] = some (dB (sameA a b)) := Ym (fun x y h => by
  simp only [List.cons.injEq, D.agg.injEq, and_true] at h
  rw [actC_inj0 h.1, actC_inj0 h.2]) (a, b) h rfl
theorem act_gen (a : ActM) : ∃ (l : List Fld) (es : Nat) (ns : List ByteArray) (en : Nat), fldsC false a.flds = .s false es (l.map fldC) ∧ a.flds.getD [] = l ∧ (0 < l.length → es = 6) ∧ namesC false a.names = .s false en (ns.map strC) ∧ a.names.getD [] = ns ∧ (0 < ns.length → en = 1) := by
  cases hf : a.flds with
  | none =>
    cases hn : a.names with
    | none => exact ⟨[], 0, [], 0, rfl, rfl, fun h => absurd h (by simp), rfl, rfl, fun h => absurd h (by simp)⟩
    | some ns => exact ⟨[], 0, ns, 1, rfl, rfl, fun h => absurd h (by simp), rfl, rfl, fun _ => rfl⟩
  | some l =>
    cases hn : a.names with
    | none => exact ⟨l, 6, [], 0, rfl, rfl, fun _ => rfl, rfl, rfl, fun h => absurd h (by simp)⟩
    | some ns => exact ⟨l, 6, ns, 1, rfl, rfl, fun _ => rfl, rfl, rfl, fun _ => rfl⟩
set_option maxRecDepth 100000 in
set_option maxHeartbeats 4000000 in
theorem meets23 : Meets Try.prog 23 (pureS pSame) := by
  refine Yn (show Try.prog.funcs[23]? = some Try.f23 by kernel_rfl) rfl (n := 138) rfl (rs := [ResultVar.tmp 4]) rfl ?_
  rintro ⟨a, b⟩ ⟨⟨hla, hma⟩, hlb, hmb⟩ Q hQ
  have hc0 : ((0 : Nat) : Int) = 0 := rfl
  dsimp only at hla hma hlb hmb hQ
  obtain ⟨fa, ea, na, ka, hf1, hf2, hf3, hf4, hf5, hf6⟩ := act_gen a
  obtain ⟨fb, eb, nb, kb, hg1, hg2, hg3, hg4, hg5, hg6⟩ := act_gen b
  unfold sameA at hQ
  rw [hf2] at hla hQ
  rw [hg2] at hlb hQ
  rw [hf5] at hma hQ
  rw [hg5] at hmb hQ
  have hlx : fa.length ≤ 9223372036854775807 := hla
  have hmx : na.length ≤ 9223372036854775807 := hma
  simp only [actC, hf1, hf4, hg1, hg4]
  clear hf1 hf2 hf4 hf5 hg1 hg2 hg4 hg5
  obtain ⟨k1, p1, c1, fl1, i1, w1, nn1, d1, n1, m1, u1, t1⟩ := a
  obtain ⟨k2, p2, c2, fl2, i2, w2, nn2, d2, n2, m2, u2, t2⟩ := b
  dsimp only
  dsimp only at hQ
  obtain ⟨res, hres⟩ : ∃ res, (if k1 = k2 then (if i1 = i2 then (if w1 = w2 then (if d1 = d2 then (if n1 = n2 then (if m1 = m2 then (if u1 = u2 then (if t1 = t2 then (if p1 = p2 then (if c1 = c2 then
    (if ((na.length : Nat) : Int) = ((nb.length : Nat) : Int) then (if ((fa.length : Nat) : Int) = ((fb.length : Nat) : Int) then
    (if na = nb then decide (fa = fb) else false) else false) else false) else false) else false) else false) else false) else false) else false) else false) else false) else false) else false) = res := ⟨_, rfl⟩
  rw [hres] at hQ
  have hH : k1 = k2 → i1 = i2 → w1 = w2 → d1 = d2 → n1 = n2 → m1 = m2 → u1 = u2 → t1 = t2 → p1 = p2 → c1 = c2 → ((na.length : Nat) : Int) = ((nb.length : Nat) : Int) → ((fa.length : Nat) : Int) = ((fb.length : Nat) : Int) → (if na = nb then decide (fa = fb) else false) = res := by
    intro h1 h2 h3 h4 h5 h6 h7 h8 h9 h10 h11 h12
    rw [← hres, if_pos h1, if_pos h2, if_pos h3, if_pos h4, if_pos h5, if_pos h6, if_pos h7, if_pos h8, if_pos h9, if_pos h10, if_pos h11, if_pos h12]
  have hQ2 : ∀ r : Bool, r = res → Q (.c (.v (.bool r))) [] := by
    rintro r rfl
    exact hQ
  clear hQ
  simp only [List.append_eq, Z23, Z12]
  refine Y3 ok0 rfl (by repeat first | with_reducible exact Y2 | refine Y1 (by simp only [Y5, Y4, Y6, qev, St.ev, St.put, St.with, D.cells, boxA, C.st, Y8, Y7, List.replicate, Nat.reduceAdd, Nat.reduceSub, if_true, ZA]; rfl) ?_) ?_
  refine seq_in ?_
  by_cases a0 : (k1 = k2)
  ·
    by_cases a1 : (i1 = i2)
    ·
      by_cases a2 : (w1 = w2)
      ·
        by_cases a3 : (d1 = d2)
        ·
          by_cases a4 : (n1 = n2)
          ·
            by_cases a5 : (m1 = m2)
            ·
              by_cases a6 : (u1 = u2)
              ·
                by_cases a7 : (t1 = t2)
                ·
                  by_cases a8 : (p1 = p2)
                  ·
                    by_cases a9 : (c1 = c2)
                    ·
                      by_cases a10 : ((↑na.length : Int) = (↑nb.length : Int))
                      ·
                        refine Y3 ok0 rfl (by repeat first | with_reducible exact Y2 | refine Y1 (by simp only [Y5, Y4, Y6, qev, St.ev, St.put, qload, Y9, qmk, C.cpy, TK.agg, Yb, qpick, qint, Yc, qstr, Ya, qbin, qlen, qbuiltin, liveR, C.cp, Y8, Y7, Nat.reduceAdd, if_true, if_false, decide_true, Bool.not_true, cond_false, reduceCtorEq, Nat.add_zero, strEq_dec, tk48, tsz48, tk50, tk37, tk28, tk46, List.length_map, tsz3, tk3, tsz9, eq_true a0, tk9, eq_true a1, eq_true a2, eq_true a3, eq_true a4, tsz37, eq_true a5, eq_true a6, eq_true a7, eq_true a8, tsz28, eq_true a9, show (na.length ≤ maxStr) = True from eq_true (by omega), show (nb.length ≤ maxStr) = True from eq_true (by omega), eq_true a10, tsz46, show (fa.length ≤ maxStr) = True from eq_true (by omega), show (fb.length ≤ maxStr) = True from eq_true (by omega), ZA]; rfl) ?_) ?_
                        refine Yf rfl (fun a11 => ?_) (fun a11 => ?_)
                        ·
                          simp only [decide_eq_false_iff_not, Bool.not_eq_true'] at a11
                          refine Y3 ok0 rfl (by repeat first | with_reducible exact Y2 | refine Y1 (by simp only [Y5, Y4, Y6, qev, St.ev, St.put, Y8, Y7, decide_false, Bool.not_false, a11, ZA]; rfl) ?_) ?_
                          refine Yo (Yp (by simp only [outRes, Yi, resD, outD, outC, C.dat, if_true, ZA]; rfl) rfl (by simp) (by simp) ?_)
                          (simp only [reduceIte, ↓reduceIte, eq_true a0, eq_true a1, eq_true a2, eq_true a3, eq_true a4, eq_true a5, eq_true a6, eq_true a7, eq_true a8, eq_true a9, eq_true a10, a11] at hres; with_reducible exact hQ2 _ hres)
                        ·
                          simp only [decide_eq_true_eq, Bool.not_eq_false'] at a11
                          refine Ye ?_
                          refine seq_in ?_
                          refine Y3 ok0 rfl (by repeat first | with_reducible exact Y2 | refine Y1 (by simp only [Y5, Y4, Y6, qev, St.ev, St.put, Y8, Y7, decide_true, Bool.not_true, a11, ZA]; rfl) ?_) ?_
                          refine tri_block ?_
                          have hk0 := hH (by assumption) (by assumption) (by assumption) (by assumption) (by assumption) (by assumption) (by assumption) (by assumption) (by assumption) (by assumption) (by assumption) (by assumption)
                          have ln : ((na.length : Nat) : Int) = ((nb.length : Nat) : Int) := by assumption
                          have lf : ((fa.length : Nat) : Int) = ((fb.length : Nat) : Int) := by assumption
                          clear hres hH
                          obtain rfl : k1 = k2 := by assumption
                          obtain rfl : i1 = i2 := by assumption
                          obtain rfl : w1 = w2 := by assumption
                          obtain rfl : d1 = d2 := by assumption
                          obtain rfl : n1 = n2 := by assumption
                          obtain rfl : m1 = m2 := by assumption
                          obtain rfl : u1 = u2 := by assumption
                          obtain rfl : t1 = t2 := by assumption
                          obtain rfl : p1 = p2 := by assumption
                          obtain rfl : c1 = c2 := by assumption
                          refine tri_loop_le (fun m A => ∃ (j : Nat), m + j = na.length ∧ (if na.drop j = nb.drop j then decide (fa = fb) else false) = res ∧ A = ⟨[.top, .top, .c (.p 0 0 0), .c (.p 1 0 0), .c (.v (.bool false)), .c (.v (.int .i64 (j : Nat))), .top, .top, .top, .top, .top, .top, .top, .top, .top, .top, .top, .top, .top, .top, .top, .top, .top, .top, .top, .top, .top, .top, .top, .top, .top, .top, .top, .top, .top, .top, .top, .top, .top, .top, .top, .top, .top, .top, .top, .top, .top, .top, .top, .top, .top, .top, .top, .top, .top, .top, .top, .top, .top, .top, .top, .top, .top, .top, .top, .top, .top, .top, .top, .top, .top, .top, .top, .top, .top, .top, .top, .top, .top, .top, .top, .top, .top, .top, .top, .top, .top, .top, .top, .top, .top, .top, .top, .top, .top, .top, .top, .top, .top, .top, .top, .top, .top, .top, .top, .top, .top, .top, .top, .top, .top, .top, .top, .top, .top, .top, .top, .top, .top, .top, .top, .top, .top, .top, .top, .top, .top, .top, .top, .top, .top, .top, .top, .top, .top, .top, .top, .top], [some ⟨false, 12, [[.v (.int .i64 k1), .v (.string p1), .v (.int .i64 c1), .s false ea (fa.map fldC), .v (.string i1), .v (.string w1), .s false ka (na.map strC), .v (.string d1), .v (.int .i64 n1), .v (.int .i64 m1), .v (.int .u64 u1), .v (.int .i64 t1)]]⟩, some ⟨false, 12, [[.v (.int .i64 k1), .v (.string p1), .v (.int .i64 c1), .s false eb (fb.map fldC), .v (.string i1), .v (.string w1), .s false kb (nb.map strC), .v (.string d1), .v (.int .i64 n1), .v (.int .i64 m1), .v (.int .u64 u1), .v (.int .i64 t1)]]⟩]⟩) na.length (B := ⟨[.top, .top, .c (.p 0 0 0), .c (.p 1 0 0), .c (.v (.bool false)), .c (.v (.int .i64 (0 : Nat))), .top, .top, .top, .top, .top, .top, .top, .top, .top, .top, .top, .top, .top, .top, .top, .top, .top, .top, .top, .top, .top, .top, .top, .top, .top, .top, .top, .top, .top, .top, .top, .top, .top, .top, .top, .top, .top, .top, .top, .top, .top, .top, .top, .top, .top, .top, .top, .top, .top, .top, .top, .top, .top, .top, .top, .top, .top, .top, .top, .top, .top, .top, .top, .top, .top, .top, .top, .top, .top, .top, .top, .top, .top, .top, .top, .top, .top, .top, .top, .top, .top, .top, .top, .top, .top, .top, .top, .top, .top, .top, .top, .top, .top, .top, .top, .top, .top, .top, .top, .top, .top, .top, .top, .top, .top, .top, .top, .top, .top, .top, .top, .top, .top, .top, .top, .top, .top, .top, .top, .top, .top, .top, .top, .top, .top, .top, .top, .top, .top, .top, .top, .top], [some ⟨false, 12, [[.v (.int .i64 k1), .v (.string p1), .v (.int .i64 c1), .s false ea (fa.map fldC), .v (.string i1), .v (.string w1), .s false ka (na.map strC), .v (.string d1), .v (.int .i64 n1), .v (.int .i64 m1), .v (.int .u64 u1), .v (.int .i64 t1)]]⟩, some ⟨false, 12, [[.v (.int .i64 k1), .v (.string p1), .v (.int .i64 c1), .s false eb (fb.map fldC), .v (.string i1), .v (.string w1), .s false kb (nb.map strC), .v (.string d1), .v (.int .i64 n1), .v (.int .i64 m1), .v (.int .u64 u1), .v (.int .i64 t1)]]⟩]⟩) ⟨by repeat (first | exact .nil | refine .same ?_ | refine .top ?_), rfl⟩ ⟨0, rfl, hk0, rfl⟩ ?_
                          rintro m A ⟨j, hm, hk, rfl⟩
                          have hj1 : (j : Int) + 1 = ((j + 1 : Nat) : Int) := by omega
                          obtain ⟨x, hx⟩ : ∃ x, na.getD j noText = x := ⟨_, rfl⟩
                          obtain ⟨y, hy⟩ : ∃ y, nb.getD j noText = y := ⟨_, rfl⟩
                          have hgx : ((j : Nat) : Int) < ((na.length : Nat) : Int) → na[j]? = some x := (by intro h; rw [← hx]; exact get_at _ (by omega))
                          have hgy : ((j : Nat) : Int) < ((na.length : Nat) : Int) → nb[j]? = some y := (by intro h; rw [← hy]; exact get_at _ (by omega))
                          have hEa : ((j : Nat) : Int) < ((na.length : Nat) : Int) → ka = 1 := fun h => hf6 (by omega)
                          have hEb : ((j : Nat) : Int) < ((na.length : Nat) : Int) → kb = 1 := fun h => hg6 (by omega)
                          refine seq_in ?_
                          refine Y3 ok0 rfl (by repeat first | with_reducible exact Y2 | refine Y1 (by simp only [Y5, Y4, Y6, qev, St.ev, St.put, qload, Y9, qmk, C.cpy, TK.agg, Yb, qint, Yc, Ya, qbin, qlen, qbuiltin, liveR, C.cp, if_true, if_false, reduceCtorEq, tk50, tk28, List.length_map, List.length_map, tk28, tsz28, show (na.length ≤ maxStr) = True from eq_true (by omega), ZA]; rfl) ?_) ?_
                          refine Yf rfl (fun a12 => ?_) (fun a12 => ?_)
                          ·
                            simp only [decide_eq_true_eq] at a12
                            refine Ye ?_
                            refine seq_in (tri_block ?_)
                            refine Yj mixed ok0 rfl (by kernel_rfl) ?_
                            refine ⟨_, (by repeat first | with_reducible exact Y2 | refine Y1 (by simp only [Y5, Y4, Y6, qev, St.ev, St.put, D.int, qload, Y9, qmk, C.cpy, TK.agg, Yb, qindexAddr, qstr, qbin, liveR, C.cp, if_true, if_false, decide_true, ne_eq, reduceCtorEq, strEq_dec, tk50, tk28, Int.toNat_natCast, Int.natCast_nonneg, List.length_map, hgx, hgy, hEa, hEb, List.length_map, strC, List.getElem?_map, tk28, tsz9, tk9, tsz28, a12, show ((↑j : Int) < (↑nb.length : Int)) = True from eq_true (by omega), ZA]; rfl) ?_), ?_⟩
                            refine Yf rfl (fun a13 => ?_) (fun a13 => ?_)
                            ·
                              simp only [decide_eq_false_iff_not, Bool.not_eq_true'] at a13
                              refine Y3 ok0 rfl (by repeat first | with_reducible exact Y2 | refine Y1 (by simp only [Y5, Y4, Y6, qev, St.ev, St.put, Y8, Y7, decide_false, Bool.not_false, a13, ZA]; rfl) ?_) ?_
                              refine Yo (Yp (by simp only [outRes, Yi, resD, outD, outC, C.dat, if_true, ZA]; rfl) rfl (by simp) (by simp) ?_)
                              (rw [drop_at noText (show j < na.length by omega), drop_at noText (show j < nb.length by omega), hx, hy, if_cons] at hk; simp only [reduceIte, ↓reduceIte, a13] at hk; with_reducible exact hQ2 _ hk)
                            ·
                              simp only [decide_eq_true_eq, Bool.not_eq_false'] at a13
                              refine tri_skip ?_
                              show Tri _ _ _ _
                              refine Yk ok0 rfl (by repeat first | with_reducible exact Y2 | refine Y1 (by simp only [Y5, Y4, Y6, qev, St.ev, St.put, qint, Yc, Ya, qbin, Y8, Y7, if_true, if_false, decide_true, Bool.not_true, hj1, a13, show IntKind.i64.wrap (↑(j + 1) : Int) = _ from wrap_i64 _ (by omega) (by omega), ZA]; rfl) ?_) ?_
                              simp only []
                              (rw [drop_at noText (show j < na.length by omega), drop_at noText (show j < nb.length by omega), hx, hy, if_cons] at hk; simp only [reduceIte, ↓reduceIte, a13, eq_self] at hk; exact ⟨m - 1, by omega, ⟨[.top, .top, .c (.p 0 0 0), .c (.p 1 0 0), .c (.v (.bool false)), .c (.v (.int .i64 (j + 1 : Nat))), .top, .top, .top, .top, .top, .top, .top, .top, .top, .top, .top, .top, .top, .top, .top, .top, .top, .top, .top, .top, .top, .top, .top, .top, .top, .top, .top, .top, .top, .top, .top, .top, .top, .top, .top, .top, .top, .top, .top, .top, .top, .top, .top, .top, .top, .top, .top, .top, .top, .top, .top, .top, .top, .top, .top, .top, .top, .top, .top, .top, .top, .top, .top, .top, .top, .top, .top, .top, .top, .top, .top, .top, .top, .top, .top, .top, .top, .top, .top, .top, .top, .top, .top, .top, .top, .top, .top, .top, .top, .top, .top, .top, .top, .top, .top, .top, .top, .top, .top, .top, .top, .top, .top, .top, .top, .top, .top, .top, .top, .top, .top, .top, .top, .top, .top, .top, .top, .top, .top, .top, .top, .top, .top, .top, .top, .top, .top, .top, .top, .top, .top, .top], [some ⟨false, 12, [[.v (.int .i64 k1), .v (.string p1), .v (.int .i64 c1), .s false ea (fa.map fldC), .v (.string i1), .v (.string w1), .s false ka (na.map strC), .v (.string d1), .v (.int .i64 n1), .v (.int .i64 m1), .v (.int .u64 u1), .v (.int .i64 t1)]]⟩, some ⟨false, 12, [[.v (.int .i64 k1), .v (.string p1), .v (.int .i64 c1), .s false eb (fb.map fldC), .v (.string i1), .v (.string w1), .s false kb (nb.map strC), .v (.string d1), .v (.int .i64 n1), .v (.int .i64 m1), .v (.int .u64 u1), .v (.int .i64 t1)]]⟩]⟩, ⟨(by (try rw [hEa (by omega), hEb (by omega)]); repeat (first | exact .nil | refine .same ?_ | refine .top ?_)), (by (try rw [hEa (by omega), hEb (by omega)]); try rfl)⟩, j + 1, by omega, hk, rfl⟩)
                          ·
                            simp only [decide_eq_false_iff_not] at a12
                            refine tri_exit ?_
                            show Tri _ _ _ _
                            refine seq_in ?_
                            refine Y3 ok0 rfl (by repeat first | with_reducible exact Y2 | refine Y1 (by simp only [Y5, Y4, Y6, qev, St.ev, St.put, Y8, Y7, decide_false, a12, ZA]; rfl) ?_) ?_
                            refine tri_block ?_
                            rw [List.drop_of_length_le (by omega), List.drop_of_length_le (by omega), if_pos rfl] at hk
                            refine tri_loop_le (fun m A => ∃ (j : Nat), m + j = fa.length ∧ decide (fa.drop j = fb.drop j) = res ∧ A = ⟨[.top, .top, .c (.p 0 0 0), .c (.p 1 0 0), .c (.v (.bool false)), .top, .c (.v (.int .i64 (j : Nat))), .top, .top, .top, .top, .top, .top, .top, .top, .top, .top, .top, .top, .top, .top, .top, .top, .top, .top, .top, .top, .top, .top, .top, .top, .top, .top, .top, .top, .top, .top, .top, .top, .top, .top, .top, .top, .top, .top, .top, .top, .top, .top, .top, .top, .top, .top, .top, .top, .top, .top, .top, .top, .top, .top, .top, .top, .top, .top, .top, .top, .top, .top, .top, .top, .top, .top, .top, .top, .top, .top, .top, .top, .top, .top, .top, .top, .top, .top, .top, .top, .top, .top, .top, .top, .top, .top, .top, .top, .top, .top, .top, .top, .top, .top, .top, .top, .top, .top, .top, .top, .top, .top, .top, .top, .top, .top, .top, .top, .top, .top, .top, .top, .top, .top, .top, .top, .top, .top, .top, .top, .top, .top, .top, .top, .top, .top, .top, .top, .top, .top, .top], [some ⟨false, 12, [[.v (.int .i64 k1), .v (.string p1), .v (.int .i64 c1), .s false ea (fa.map fldC), .v (.string i1), .v (.string w1), .s false ka (na.map strC), .v (.string d1), .v (.int .i64 n1), .v (.int .i64 m1), .v (.int .u64 u1), .v (.int .i64 t1)]]⟩, some ⟨false, 12, [[.v (.int .i64 k1), .v (.string p1), .v (.int .i64 c1), .s false eb (fb.map fldC), .v (.string i1), .v (.string w1), .s false kb (nb.map strC), .v (.string d1), .v (.int .i64 n1), .v (.int .i64 m1), .v (.int .u64 u1), .v (.int .i64 t1)]]⟩]⟩) fa.length (B := ⟨[.top, .top, .c (.p 0 0 0), .c (.p 1 0 0), .c (.v (.bool false)), .top, .c (.v (.int .i64 (0 : Nat))), .top, .top, .top, .top, .top, .top, .top, .top, .top, .top, .top, .top, .top, .top, .top, .top, .top, .top, .top, .top, .top, .top, .top, .top, .top, .top, .top, .top, .top, .top, .top, .top, .top, .top, .top, .top, .top, .top, .top, .top, .top, .top, .top, .top, .top, .top, .top, .top, .top, .top, .top, .top, .top, .top, .top, .top, .top, .top, .top, .top, .top, .top, .top, .top, .top, .top, .top, .top, .top, .top, .top, .top, .top, .top, .top, .top, .top, .top, .top, .top, .top, .top, .top, .top, .top, .top, .top, .top, .top, .top, .top, .top, .top, .top, .top, .top, .top, .top, .top, .top, .top, .top, .top, .top, .top, .top, .top, .top, .top, .top, .top, .top, .top, .top, .top, .top, .top, .top, .top, .top, .top, .top, .top, .top, .top, .top, .top, .top, .top, .top, .top], [some ⟨false, 12, [[.v (.int .i64 k1), .v (.string p1), .v (.int .i64 c1), .s false ea (fa.map fldC), .v (.string i1), .v (.string w1), .s false ka (na.map strC), .v (.string d1), .v (.int .i64 n1), .v (.int .i64 m1), .v (.int .u64 u1), .v (.int .i64 t1)]]⟩, some ⟨false, 12, [[.v (.int .i64 k1), .v (.string p1), .v (.int .i64 c1), .s false eb (fb.map fldC), .v (.string i1), .v (.string w1), .s false kb (nb.map strC), .v (.string d1), .v (.int .i64 n1), .v (.int .i64 m1), .v (.int .u64 u1), .v (.int .i64 t1)]]⟩]⟩) ⟨by repeat (first | exact .nil | refine .same ?_ | refine .top ?_), rfl⟩ ⟨0, rfl, hk, rfl⟩ ?_
                            clear hj1 hgx hgy hEa hEb hx hy hk hm
                            rintro m3 A3 ⟨j3, hm, hk, rfl⟩
                            have hj1 : (j3 : Int) + 1 = ((j3 + 1 : Nat) : Int) := by omega
                            obtain ⟨x3, hx⟩ : ∃ x, fa.getD j3 (noText, val0) = x := ⟨_, rfl⟩
                            obtain ⟨y3, hy⟩ : ∃ y, fb.getD j3 (noText, val0) = y := ⟨_, rfl⟩
                            have hgx : ((j3 : Nat) : Int) < ((fa.length : Nat) : Int) → fa[j3]? = some x3 := (by intro h; rw [← hx]; exact get_at _ (by omega))
                            have hgy : ((j3 : Nat) : Int) < ((fa.length : Nat) : Int) → fb[j3]? = some y3 := (by intro h; rw [← hy]; exact get_at _ (by omega))
                            have hEa : ((j3 : Nat) : Int) < ((fa.length : Nat) : Int) → ea = 6 := fun h => hf3 (by omega)
                            have hEb : ((j3 : Nat) : Int) < ((fa.length : Nat) : Int) → eb = 6 := fun h => hg3 (by omega)
                            obtain ⟨x0, x1, x2, x4, x5, x6⟩ := x3
                            obtain ⟨y0, y1, y2, y4, y5, y6⟩ := y3
                            refine seq_in ?_
                            refine Y3 ok0 rfl (by repeat first | with_reducible exact Y2 | refine Y1 (by simp only [Y5, Y4, Y6, qev, St.ev, St.put, qload, Y9, qmk, C.cpy, TK.agg, Yb, qint, Yc, Ya, qbin, qlen, qbuiltin, liveR, C.cp, Nat.reduceAdd, if_true, if_false, reduceCtorEq, tk48, tsz48, tk50, tk46, List.length_map, List.length_map, tk46, List.length_map, tk46, tsz46, a11, show (fa.length ≤ maxStr) = True from eq_true (by omega), ZA]; rfl) ?_) ?_
                            refine Yf rfl (fun a14 => ?_) (fun a14 => ?_)
                            ·
                              simp only [decide_eq_true_eq] at a14
                              refine Ye ?_
                              refine seq_in (tri_block ?_)
                              refine Yj mixed ok0 rfl (by kernel_rfl) ?_
                              refine ⟨_, (by repeat first | with_reducible exact Y2 | refine Y1 (by simp only [Y5, Y4, Y6, qev, St.ev, St.put, D.int, qload, Y9, qmk, C.cpy, TK.agg, Yb, qindexAddr, isEq, qbin, liveR, C.cp, Nat.reduceAdd, if_true, if_false, decide_true, ne_eq, reduceCtorEq, eqF, tk48, tsz48, tk50, tk91, tsz91, tk46, Int.toNat_natCast, Int.natCast_nonneg, List.length_map, List.length_map, fldC, List.getElem?_map, tk91, tsz91, tk46, ft91B, eqF, hgx, hgy, hEa, hEb, List.length_map, fldC, List.getElem?_map, tk91, tsz91, tk46, ft91B, eqF, tsz46, a11, a14, ZA]; rfl) ?_), ?_⟩
                              refine Yf rfl (fun a15 => ?_) (fun a15 => ?_)
                              ·
                                simp only [decide_eq_false_iff_not, Bool.not_eq_true'] at a15
                                refine Y3 ok0 rfl (by repeat first | with_reducible exact Y2 | refine Y1 (by simp only [Y5, Y4, Y6, qev, St.ev, St.put, Y8, Y7, decide_false, Bool.not_false, a15, ZA]; rfl) ?_) ?_
                                refine Yo (Yp (by simp only [outRes, Yi, resD, outD, outC, C.dat, if_true, ZA]; rfl) rfl (by simp) (by simp) ?_)
                                (rw [drop_at (noText, val0) (show j3 < fa.length by omega), drop_at (noText, val0) (show j3 < fb.length by omega), hx, hy, dec_cons] at hk; simp only [reduceIte, ↓reduceIte, a15] at hk; with_reducible exact hQ2 _ hk)
                              ·
                                simp only [decide_eq_true_eq, Bool.not_eq_false'] at a15
                                refine tri_skip ?_
                                show Tri _ _ _ _
                                refine Yk ok0 rfl (by repeat first | with_reducible exact Y2 | refine Y1 (by simp only [Y5, Y4, Y6, qev, St.ev, St.put, qint, Yc, Ya, qbin, Y8, Y7, if_true, if_false, decide_true, Bool.not_true, hj1, a15, show IntKind.i64.wrap (↑(j3 + 1) : Int) = _ from wrap_i64 _ (by omega) (by omega), ZA]; rfl) ?_) ?_
                                simp only []
                                (rw [drop_at (noText, val0) (show j3 < fa.length by omega), drop_at (noText, val0) (show j3 < fb.length by omega), hx, hy, dec_cons] at hk; simp only [reduceIte, ↓reduceIte, a15, eq_self] at hk; exact ⟨m3 - 1, by omega, ⟨[.top, .top, .c (.p 0 0 0), .c (.p 1 0 0), .c (.v (.bool false)), .top, .c (.v (.int .i64 (j3 + 1 : Nat))), .top, .top, .top, .top, .top, .top, .top, .top, .top, .top, .top, .top, .top, .top, .top, .top, .top, .top, .top, .top, .top, .top, .top, .top, .top, .top, .top, .top, .top, .top, .top, .top, .top, .top, .top, .top, .top, .top, .top, .top, .top, .top, .top, .top, .top, .top, .top, .top, .top, .top, .top, .top, .top, .top, .top, .top, .top, .top, .top, .top, .top, .top, .top, .top, .top, .top, .top, .top, .top, .top, .top, .top, .top, .top, .top, .top, .top, .top, .top, .top, .top, .top, .top, .top, .top, .top, .top, .top, .top, .top, .top, .top, .top, .top, .top, .top, .top, .top, .top, .top, .top, .top, .top, .top, .top, .top, .top, .top, .top, .top, .top, .top, .top, .top, .top, .top, .top, .top, .top, .top, .top, .top, .top, .top, .top, .top, .top, .top, .top, .top, .top], [some ⟨false, 12, [[.v (.int .i64 k1), .v (.string p1), .v (.int .i64 c1), .s false ea (fa.map fldC), .v (.string i1), .v (.string w1), .s false ka (na.map strC), .v (.string d1), .v (.int .i64 n1), .v (.int .i64 m1), .v (.int .u64 u1), .v (.int .i64 t1)]]⟩, some ⟨false, 12, [[.v (.int .i64 k1), .v (.string p1), .v (.int .i64 c1), .s false eb (fb.map fldC), .v (.string i1), .v (.string w1), .s false kb (nb.map strC), .v (.string d1), .v (.int .i64 n1), .v (.int .i64 m1), .v (.int .u64 u1), .v (.int .i64 t1)]]⟩]⟩, ⟨(by (try rw [hEa (by omega), hEb (by omega)]); repeat (first | exact .nil | refine .same ?_ | refine .top ?_)), (by (try rw [hEa (by omega), hEb (by omega)]); try rfl)⟩, j3 + 1, by omega, hk, rfl⟩)
                            ·
                              simp only [decide_eq_false_iff_not] at a14
                              refine tri_exit ?_
                              show Tri _ _ _ _
                              refine Y3 ok0 rfl (by repeat first | with_reducible exact Y2 | refine Y1 (by simp only [Y5, Y4, Y6, qev, St.ev, St.put, Y8, Y7, decide_false, a14, ZA]; rfl) ?_) ?_
                              refine Yo (Yp (by simp only [outRes, Yi, resD, outD, outC, C.dat, if_true, ZA]; rfl) rfl (by simp) (by simp) ?_)
                              (rw [List.drop_of_length_le (by omega), List.drop_of_length_le (by omega)] at hk; simp only [decide_true] at hk; with_reducible exact hQ2 _ hk)
                      ·
                        refine Y3 ok0 rfl (by repeat first | with_reducible exact Y2 | refine Y1 (by simp only [Y5, Y4, Y6, qev, St.ev, St.put, qload, Y9, qmk, C.cpy, TK.agg, Yb, qpick, qint, Yc, qstr, isEq, qeq, Ya, qbin, qlen, qbuiltin, liveR, C.cp, Y8, Y7, Option.bind_none, Nat.reduceAdd, if_true, if_false, decide_true, decide_false, Bool.not_true, Bool.not_false, cond_true, cond_false, reduceCtorEq, Nat.add_zero, strEq_dec, tk48, tsz48, tk50, tk37, tk28, List.length_map, tsz3, tk3, tsz9, eq_true a0, tk9, eq_true a1, eq_true a2, eq_true a3, eq_true a4, tsz37, eq_true a5, eq_true a6, eq_true a7, eq_true a8, tsz28, eq_true a9, show (na.length ≤ maxStr) = True from eq_true (by omega), show (nb.length ≤ maxStr) = True from eq_true (by omega), eq_false a10, ZA]; rfl) ?_) ?_
                        refine Yf (b := true) rfl (fun _ => ?_) (fun h => by cases h)
                        refine Y3 ok0 rfl (by repeat first | with_reducible exact Y2 | refine Y1 (by simp only [Y5, Y4, Y6, qev, St.ev, St.put, Y8, Y7, ZA]; rfl) ?_) ?_
                        refine Yo (Yp (by simp only [outRes, Yi, resD, outD, outC, C.dat, if_true, ZA]; rfl) rfl (by simp) (by simp) ?_)
                        (simp only [reduceIte, ↓reduceIte, eq_true a0, eq_true a1, eq_true a2, eq_true a3, eq_true a4, eq_true a5, eq_true a6, eq_true a7, eq_true a8, eq_true a9, eq_false a10] at hres; with_reducible exact hQ2 _ hres)
                    ·
                      refine Y3 ok0 rfl (by repeat first | with_reducible exact Y2 | refine Y1 (by simp only [Y5, Y4, Y6, qev, St.ev, St.put, qload, Y9, qmk, C.cpy, TK.agg, Yb, qpick, qint, Yc, qstr, isEq, qeq, Ya, qbin, qlen, qbuiltin, liveR, C.cp, Y8, Y7, Option.bind_none, Nat.reduceAdd, if_true, if_false, decide_true, decide_false, Bool.not_true, Bool.not_false, cond_true, cond_false, reduceCtorEq, Nat.add_zero, strEq_dec, tk48, tsz48, tk50, tk37, tsz3, tk3, tsz9, eq_true a0, tk9, eq_true a1, eq_true a2, eq_true a3, eq_true a4, tsz37, eq_true a5, eq_true a6, eq_true a7, eq_true a8, tsz28, eq_false a9, ZA]; rfl) ?_) ?_
                      refine Yf (b := true) rfl (fun _ => ?_) (fun h => by cases h)
                      refine Y3 ok0 rfl (by repeat first | with_reducible exact Y2 | refine Y1 (by simp only [Y5, Y4, Y6, qev, St.ev, St.put, Y8, Y7, ZA]; rfl) ?_) ?_
                      refine Yo (Yp (by simp only [outRes, Yi, resD, outD, outC, C.dat, if_true, ZA]; rfl) rfl (by simp) (by simp) ?_)
                      (simp only [reduceIte, ↓reduceIte, eq_true a0, eq_true a1, eq_true a2, eq_true a3, eq_true a4, eq_true a5, eq_true a6, eq_true a7, eq_true a8, eq_false a9] at hres; with_reducible exact hQ2 _ hres)
                  ·
                    refine Y3 ok0 rfl (by repeat first | with_reducible exact Y2 | refine Y1 (by simp only [Y5, Y4, Y6, qev, St.ev, St.put, qload, Y9, qmk, C.cpy, TK.agg, Yb, qpick, qint, Yc, qstr, isEq, qeq, Ya, qbin, qlen, qbuiltin, liveR, C.cp, Y8, Y7, Option.bind_none, if_true, if_false, decide_true, decide_false, Bool.not_true, Bool.not_false, cond_true, cond_false, reduceCtorEq, Nat.add_zero, strEq_dec, tk48, tsz48, tk50, tk37, tsz3, tk3, tsz9, eq_true a0, tk9, eq_true a1, eq_true a2, eq_true a3, eq_true a4, tsz37, eq_true a5, eq_true a6, eq_true a7, eq_false a8, ZA]; rfl) ?_) ?_
                    refine Yf (b := true) rfl (fun _ => ?_) (fun h => by cases h)
                    refine Y3 ok0 rfl (by repeat first | with_reducible exact Y2 | refine Y1 (by simp only [Y5, Y4, Y6, qev, St.ev, St.put, Y8, Y7, ZA]; rfl) ?_) ?_
                    refine Yo (Yp (by simp only [outRes, Yi, resD, outD, outC, C.dat, if_true, ZA]; rfl) rfl (by simp) (by simp) ?_)
                    (simp only [reduceIte, ↓reduceIte, eq_true a0, eq_true a1, eq_true a2, eq_true a3, eq_true a4, eq_true a5, eq_true a6, eq_true a7, eq_false a8] at hres; with_reducible exact hQ2 _ hres)
                ·
                  refine Y3 ok0 rfl (by repeat first | with_reducible exact Y2 | refine Y1 (by simp only [Y5, Y4, Y6, qev, St.ev, St.put, qload, Y9, qmk, C.cpy, TK.agg, Yb, qpick, qint, Yc, qstr, isEq, qeq, Ya, qbin, qlen, qbuiltin, liveR, C.cp, Y8, Y7, Option.bind_none, if_true, if_false, decide_true, decide_false, Bool.not_true, Bool.not_false, cond_true, cond_false, reduceCtorEq, Nat.add_zero, strEq_dec, tk48, tsz48, tk50, tk37, tsz3, tk3, tsz9, eq_true a0, tk9, eq_true a1, eq_true a2, eq_true a3, eq_true a4, tsz37, eq_true a5, eq_true a6, eq_false a7, ZA]; rfl) ?_) ?_
                  refine Yf (b := true) rfl (fun _ => ?_) (fun h => by cases h)
                  refine Y3 ok0 rfl (by repeat first | with_reducible exact Y2 | refine Y1 (by simp only [Y5, Y4, Y6, qev, St.ev, St.put, Y8, Y7, ZA]; rfl) ?_) ?_
                  refine Yo (Yp (by simp only [outRes, Yi, resD, outD, outC, C.dat, if_true, ZA]; rfl) rfl (by simp) (by simp) ?_)
                  (simp only [reduceIte, ↓reduceIte, eq_true a0, eq_true a1, eq_true a2, eq_true a3, eq_true a4, eq_true a5, eq_true a6, eq_false a7] at hres; with_reducible exact hQ2 _ hres)
              ·
                refine Y3 ok0 rfl (by repeat first | with_reducible exact Y2 | refine Y1 (by simp only [Y5, Y4, Y6, qev, St.ev, St.put, qload, Y9, qmk, C.cpy, TK.agg, Yb, qpick, qint, Yc, qstr, isEq, qeq, Ya, qbin, qlen, qbuiltin, liveR, C.cp, Y8, Y7, Option.bind_none, if_true, if_false, decide_true, decide_false, Bool.not_true, Bool.not_false, cond_true, cond_false, reduceCtorEq, Nat.add_zero, strEq_dec, tk48, tsz48, tk50, tk37, tsz3, tk3, tsz9, eq_true a0, tk9, eq_true a1, eq_true a2, eq_true a3, eq_true a4, tsz37, eq_true a5, eq_false a6, ZA]; rfl) ?_) ?_
                refine Yf (b := true) rfl (fun _ => ?_) (fun h => by cases h)
                refine Y3 ok0 rfl (by repeat first | with_reducible exact Y2 | refine Y1 (by simp only [Y5, Y4, Y6, qev, St.ev, St.put, Y8, Y7, ZA]; rfl) ?_) ?_
                refine Yo (Yp (by simp only [outRes, Yi, resD, outD, outC, C.dat, if_true, ZA]; rfl) rfl (by simp) (by simp) ?_)
                (simp only [reduceIte, ↓reduceIte, eq_true a0, eq_true a1, eq_true a2, eq_true a3, eq_true a4, eq_true a5, eq_false a6] at hres; with_reducible exact hQ2 _ hres)
            ·
              refine Y3 ok0 rfl (by repeat first | with_reducible exact Y2 | refine Y1 (by simp only [Y5, Y4, Y6, qev, St.ev, St.put, qload, Y9, qmk, C.cpy, TK.agg, Yb, qpick, qint, Yc, qstr, isEq, qeq, Ya, qbin, qlen, qbuiltin, liveR, C.cp, Y8, Y7, Option.bind_none, if_true, if_false, decide_true, decide_false, Bool.not_true, Bool.not_false, cond_true, cond_false, reduceCtorEq, Nat.add_zero, strEq_dec, tk48, tsz48, tk50, tk37, tsz3, tk3, tsz9, eq_true a0, tk9, eq_true a1, eq_true a2, eq_true a3, eq_true a4, tsz37, eq_false a5, ZA]; rfl) ?_) ?_
              refine Yf (b := true) rfl (fun _ => ?_) (fun h => by cases h)
              refine Y3 ok0 rfl (by repeat first | with_reducible exact Y2 | refine Y1 (by simp only [Y5, Y4, Y6, qev, St.ev, St.put, Y8, Y7, ZA]; rfl) ?_) ?_
              refine Yo (Yp (by simp only [outRes, Yi, resD, outD, outC, C.dat, if_true, ZA]; rfl) rfl (by simp) (by simp) ?_)
              (simp only [reduceIte, ↓reduceIte, eq_true a0, eq_true a1, eq_true a2, eq_true a3, eq_true a4, eq_false a5] at hres; with_reducible exact hQ2 _ hres)
          ·
            refine Y3 ok0 rfl (by repeat first | with_reducible exact Y2 | refine Y1 (by simp only [Y5, Y4, Y6, qev, St.ev, St.put, qload, Y9, qmk, C.cpy, TK.agg, Yb, qpick, qint, Yc, qstr, isEq, qeq, Ya, qbin, qlen, qbuiltin, liveR, C.cp, Y8, Y7, Option.bind_none, if_true, if_false, decide_true, decide_false, Bool.not_true, Bool.not_false, cond_true, cond_false, reduceCtorEq, Nat.add_zero, strEq_dec, tk48, tsz48, tk50, tk37, tsz3, tk3, tsz9, eq_true a0, tk9, eq_true a1, eq_true a2, eq_true a3, eq_false a4, ZA]; rfl) ?_) ?_
            refine Yf (b := true) rfl (fun _ => ?_) (fun h => by cases h)
            refine Y3 ok0 rfl (by repeat first | with_reducible exact Y2 | refine Y1 (by simp only [Y5, Y4, Y6, qev, St.ev, St.put, Y8, Y7, ZA]; rfl) ?_) ?_
            refine Yo (Yp (by simp only [outRes, Yi, resD, outD, outC, C.dat, if_true, ZA]; rfl) rfl (by simp) (by simp) ?_)
            (simp only [reduceIte, ↓reduceIte, eq_true a0, eq_true a1, eq_true a2, eq_true a3, eq_false a4] at hres; with_reducible exact hQ2 _ hres)
        ·
          refine Y3 ok0 rfl (by repeat first | with_reducible exact Y2 | refine Y1 (by simp only [Y5, Y4, Y6, qev, St.ev, St.put, qload, Y9, qmk, C.cpy, TK.agg, Yb, qpick, qint, Yc, qstr, isEq, qeq, Ya, qbin, qlen, qbuiltin, liveR, C.cp, Y8, Y7, Option.bind_none, if_true, if_false, decide_true, decide_false, Bool.not_true, Bool.not_false, cond_true, cond_false, reduceCtorEq, Nat.add_zero, strEq_dec, tk48, tsz48, tk50, tk37, tsz3, tk3, tsz9, eq_true a0, tk9, eq_true a1, eq_true a2, eq_false a3, ZA]; rfl) ?_) ?_
          refine Yf (b := true) rfl (fun _ => ?_) (fun h => by cases h)
          refine Y3 ok0 rfl (by repeat first | with_reducible exact Y2 | refine Y1 (by simp only [Y5, Y4, Y6, qev, St.ev, St.put, Y8, Y7, ZA]; rfl) ?_) ?_
          refine Yo (Yp (by simp only [outRes, Yi, resD, outD, outC, C.dat, if_true, ZA]; rfl) rfl (by simp) (by simp) ?_)
          (simp only [reduceIte, ↓reduceIte, eq_true a0, eq_true a1, eq_true a2, eq_false a3] at hres; with_reducible exact hQ2 _ hres)
      ·
        refine Y3 ok0 rfl (by repeat first | with_reducible exact Y2 | refine Y1 (by simp only [Y5, Y4, Y6, qev, St.ev, St.put, qload, Y9, qmk, C.cpy, TK.agg, Yb, qpick, qint, Yc, qstr, isEq, qeq, Ya, qbin, qlen, qbuiltin, liveR, C.cp, Y8, Y7, Option.bind_none, if_true, if_false, decide_true, decide_false, Bool.not_true, Bool.not_false, cond_true, cond_false, reduceCtorEq, Nat.add_zero, strEq_dec, tk48, tsz48, tk50, tk37, tsz3, tk3, tsz9, eq_true a0, tk9, eq_true a1, eq_false a2, ZA]; rfl) ?_) ?_
        refine Yf (b := true) rfl (fun _ => ?_) (fun h => by cases h)
        refine Y3 ok0 rfl (by repeat first | with_reducible exact Y2 | refine Y1 (by simp only [Y5, Y4, Y6, qev, St.ev, St.put, Y8, Y7, ZA]; rfl) ?_) ?_
        refine Yo (Yp (by simp only [outRes, Yi, resD, outD, outC, C.dat, if_true, ZA]; rfl) rfl (by simp) (by simp) ?_)
        (simp only [reduceIte, ↓reduceIte, eq_true a0, eq_true a1, eq_false a2] at hres; with_reducible exact hQ2 _ hres)
    ·
      refine Y3 ok0 rfl (by repeat first | with_reducible exact Y2 | refine Y1 (by simp only [Y5, Y4, Y6, qev, St.ev, St.put, qload, Y9, qmk, C.cpy, TK.agg, Yb, qpick, qint, Yc, qstr, isEq, qeq, Ya, qbin, qlen, qbuiltin, liveR, C.cp, Y8, Y7, Option.bind_none, if_true, if_false, decide_true, decide_false, Bool.not_true, Bool.not_false, cond_true, cond_false, reduceCtorEq, Nat.add_zero, strEq_dec, tk48, tsz48, tk50, tk37, tsz3, tk3, tsz9, eq_true a0, tk9, eq_false a1, ZA]; rfl) ?_) ?_
      refine Yf (b := true) rfl (fun _ => ?_) (fun h => by cases h)
      refine Y3 ok0 rfl (by repeat first | with_reducible exact Y2 | refine Y1 (by simp only [Y5, Y4, Y6, qev, St.ev, St.put, Y8, Y7, ZA]; rfl) ?_) ?_
      refine Yo (Yp (by simp only [outRes, Yi, resD, outD, outC, C.dat, if_true, ZA]; rfl) rfl (by simp) (by simp) ?_)
      (simp only [reduceIte, ↓reduceIte, eq_true a0, eq_false a1] at hres; with_reducible exact hQ2 _ hres)
  ·
    refine Y3 ok0 rfl (by repeat first | with_reducible exact Y2 | refine Y1 (by simp only [Y5, Y4, Y6, qev, St.ev, St.put, qload, Y9, qmk, C.cpy, TK.agg, Yb, qpick, qint, Yc, isEq, qeq, Ya, qbin, qlen, qbuiltin, liveR, C.cp, Y8, Y7, Option.bind_none, if_true, if_false, decide_false, Bool.not_false, cond_true, reduceCtorEq, Nat.add_zero, tk48, tsz48, tk50, tk37, tsz3, tk3, tsz9, eq_false a0, ZA]; rfl) ?_) ?_
    refine Yf (b := true) rfl (fun _ => ?_) (fun h => by cases h)
    refine Y3 ok0 rfl (by repeat first | with_reducible exact Y2 | refine Y1 (by simp only [Y5, Y4, Y6, qev, St.ev, St.put, Y8, Y7, ZA]; rfl) ?_) ?_
    refine Yo (Yp (by simp only [outRes, Yi, resD, outD, outC, C.dat, if_true, ZA]; rfl) rfl (by simp) (by simp) ?_)
    (simp only [reduceIte, ↓reduceIte, eq_false a0] at hres; with_reducible exact hQ2 _ hres)
end Go.Dl
