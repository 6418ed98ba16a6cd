/- Plain law: a step as a script says it is read token by token, wherever it stands; The walk of the law's clean; Plain law: the tokens of a step, as it is said, are read as the step; Plain law: the tokens of a paper, and of a step, are read as they are; The walk of PrintAll; Plain law: scripts of steps as they are said are read as these steps. -/
import Derived.Test.YtbefgbljlmnfoaaU15
set_option linter.all false
namespace Go.Dl
open Go.RowKit
open Go.Proofs
set_option linter.unusedVariables false
abbrev Tk := Int × ByteArray
def tkT (t : Tok) : Tk := (t.1, t.2.1)
/-- A text stands in another at a place. -/
def inT (T : ByteArray) (o : Nat) (X : ByteArray) : Prop := o + X.size ≤ T.size ∧ ∀ j, j < X.size → byU T (o + j) = byU X j
theorem inT_l {T : ByteArray} {o : Nat} {X Y : ByteArray} (h : inT T o (X ++ Y)) : inT T o X := by
 obtain ⟨h1, h2⟩ := h
 rw [ByteArray.size_append] at h1 h2
 exact ⟨by omega, fun j hj => by rw [h2 j (by omega), byU_app_l hj]⟩
theorem inT_r {T : ByteArray} {o : Nat} {X Y : ByteArray} (h : inT T o (X ++ Y)) : inT T (o + X.size) Y := by
 obtain ⟨h1, h2⟩ := h
 rw [ByteArray.size_append] at h1 h2
 exact ⟨by omega, fun j hj => by rw [Nat.add_assoc, h2 (X.size + j) (by omega), byU_app_r]⟩
theorem inT_0 {T : ByteArray} {o : Nat} {X : ByteArray} (h : inT T o X) (h0 : 0 < X.size) : byt T o = byt X 0 := by
 have := h.2 0 h0
 rw [Nat.add_zero] at this
 rw [byt_byU, byt_byU, this]
theorem inT_byt {T : ByteArray} {o : Nat} {X : ByteArray} (h : inT T o X) {j : Nat} (hj : j < X.size) : byt T (o + j) = byt X j := by
 rw [byt_byU, byt_byU, h.2 j hj]
theorem byU_all {a b : ByteArray} (hs : a.size = b.size) (h : ∀ j, j < a.size → byU a j = byU b j) : a = b := by
 apply ByteArray.ext
 apply Array.ext'
 have h1 := sz a
 have h2 := sz b
 apply List.ext_getElem (by omega)
 intro i hi1 hi2
 have := h i (by omega)
 unfold byU at this
 rw [List.getD_eq_getElem?_getD, List.getD_eq_getElem?_getD, List.getElem?_eq_getElem hi1, List.getElem?_eq_getElem hi2, Option.getD_some, Option.getD_some] at this
 exact this
theorem byU_extract {T : ByteArray} {o e j : Nat} (he : e ≤ T.size) (hj : o + j < e) : byU (T.extract o e) j = byU T (o + j) := by
 unfold byU
 have h1 := sz T
 rw [ByteArray.data_extract, Array.toList_extract, List.extract_eq_take_drop, List.getD_eq_getElem?_getD, List.getD_eq_getElem?_getD, List.getElem?_take, if_pos (by omega), List.getElem?_drop]
theorem inT_ext {T : ByteArray} {o : Nat} {X : ByteArray} (h : inT T o X) : T.extract o (o + X.size) = X := by
 have h1 := h.1
 have hs : (T.extract o (o + X.size)).size = X.size := by rw [ByteArray.size_extract]; omega
 exact byU_all hs fun j hj => by rw [byU_extract h1 (by omega), h.2 j (by omega)]
/-- From a place on a text has these tokens, up to a place (the tokens' places are left out). -/
def lexK (T : ByteArray) (o : Nat) (ks : List Tk) (q : Nat) : Prop := ∃ l : List Tok, l.map tkT = ks ∧ lexes T o l q
theorem lexK_nil (T : ByteArray) (o : Nat) : lexK T o [] o := ⟨[], rfl, lexes_nil T o⟩
theorem lexK_app {T : ByteArray} {o p q : Nat} {a b : List Tk} (h1 : lexK T o a p) (h2 : lexK T p b q) : lexK T o (a ++ b) q := by
 obtain ⟨l, rfl, hl⟩ := h1
 obtain ⟨m, rfl, hm⟩ := h2
 exact ⟨l ++ m, by rw [List.map_append], lexes_app hl hm⟩
theorem lexK_cons {T : ByteArray} {o p q : Nat} {a : Tk} {b : List Tk} (h1 : lexK T o [a] p) (h2 : lexK T p b q) : lexK T o (a :: b) q := lexK_app h1 h2
theorem lexes_skip {T : ByteArray} {o q : Nat} (h : nextF T o = nextF T q) : lexes T o [] q := by
 intro n acc
 rw [List.append_nil]
 cases n with
 | zero => rfl
 | succ n => show toksN (n + 1) T o acc = toksN (n + 1) T q acc; rw [toksN, toksN, h]
theorem lexes_blank {T : ByteArray} {o : Nat} (h : o < T.size) (hb : isBlank (byt T o) = true) : lexes T o [] (o + 1) := by
 refine lexes_skip ?_
 unfold nextF
 rw [blkF_blank h hb]
theorem lexK_blank {T : ByteArray} {o : Nat} (h : o < T.size) (hb : isBlank (byt T o) = true) : lexK T o [] (o + 1) := ⟨[], rfl, lexes_blank h hb⟩
theorem runAt {f : Int → Bool} {T : ByteArray} : ∀ (n o : Nat), o + n ≤ T.size → (∀ j, j < n → f (byt T (o + j)) = true) → (o + n < T.size → f (byt T (o + n)) = false) → runF f T o = o + n
 | 0, o, h, ha, hs => runF_stop hs
 | n + 1, o, h, ha, hs => by
  rw [runF_go (by omega) (by have := ha 0 (by omega); rwa [Nat.add_zero] at this), runAt n (o + 1) (by omega) (fun j hj => by rw [show o + 1 + j = o + (j + 1) by omega]; exact ha (j + 1) (by omega)) (fun h => by rw [show o + 1 + n = o + (n + 1) by omega]; exact hs (by omega))]
  omega
/-- Behind a place a word ends. -/
def stopA (T : ByteArray) (q : Nat) : Prop := q < T.size → isWordC (byt T q) = false
theorem stopA_of {T : ByteArray} {q : Nat} {X : ByteArray} (h : inT T q X) (h0 : 0 < X.size) (hw : isWordC (byt X 0) = false) : stopA T q := fun _ => by rw [inT_0 h h0]; exact hw
theorem dig_word {c : Int} (h : isWordC c = false) : isDigit c = false := by
 unfold isWordC at h
 exact (Bool.or_eq_false_iff.1 h).2
theorem lexK_word {T : ByteArray} {o : Nat} {w : ByteArray} (hi : inT T o w) (h0 : 0 < w.size) (hl : isLetter (byt w 0) = true) (ha : ∀ j, j < w.size → isWordC (byt w j) = true) (hs : stopA T (o + w.size)) : lexK T o [(0, w)] (o + w.size) := by
 have h1 := hi.1
 have hr : runF isWordC T o = o + w.size := runAt w.size o h1 (fun j hj => by rw [inT_byt hi hj]; exact ha j hj) hs
 have h := next_word (T := T) (o := o) (by omega) (by rw [inT_0 hi h0]; exact hl)
 rw [hr, inT_ext hi] at h
 exact ⟨_, rfl, lexes_one h⟩
theorem lexK_num {T : ByteArray} {o : Nat} {w : ByteArray} (hi : inT T o w) (h0 : 0 < w.size) (hf : isDigit (byt w 0) = true ∨ byt w 0 = 45) (ha : ∀ j, 1 ≤ j → j < w.size → isDigit (byt w j) = true) (hd : strEq w dash = false) (hs : stopA T (o + w.size)) : lexK T o [(1, w)] (o + w.size) := by
 have h1 := hi.1
 have hr : runF isDigit T (o + 1) = o + w.size := by
  rw [runAt (w.size - 1) (o + 1) (by omega) (fun j hj => by rw [show o + 1 + j = o + (1 + j) by omega, inT_byt hi (by omega)]; exact ha _ (by omega) (by omega)) (fun h => by
   rw [show o + 1 + (w.size - 1) = o + w.size by omega] at h ⊢
   exact dig_word (hs h))]
  omega
 have h := next_num (T := T) (o := o) (by omega) (by rw [inT_0 hi h0]; exact hf) (by rw [hr, inT_ext hi]; exact hd)
 rw [hr, inT_ext hi] at h
 exact ⟨_, rfl, lexes_one h⟩
theorem lexK_quote {T : ByteArray} {o : Nat} {s : ByteArray} (hi : inT T o (quotedF s)) : lexK T o [(2, s)] (o + (quotedF s).size) := ⟨_, rfl, lex_quote hi.1 hi.2⟩
def isMark (m : Int) : Bool := !isLetter m && !isDigit m && !isBlank m && !decide (m = 35) && !decide (m = 45) && !decide (m = 34) && decide (0 ≤ idxB marks m)
theorem lexK_mark {T : ByteArray} {o : Nat} {w : ByteArray} (hi : inT T o w) (h1 : w.size = 1) (hm : isMark (byt w 0) = true) : lexK T o [(3, w)] (o + 1) := by
 have h2 := hi.1
 simp only [isMark, Bool.and_eq_true, Bool.not_eq_true', decide_eq_true_eq, decide_eq_false_iff_not] at hm
 obtain ⟨⟨⟨⟨⟨⟨m1, m2⟩, m3⟩, m4⟩, m5⟩, m6⟩, m7⟩ := hm
 have h := next_mark (T := T) (o := o) (by omega) (inT_0 hi (by omega)) m1 m2 m3 m4 m5 m6 m7
 have he := inT_ext hi
 rw [h1] at he
 rw [he] at h
 exact ⟨_, rfl, lexes_one h⟩
theorem lexK_dec {T : ByteArray} {o m : Nat} (hm : m < 18446744073709551616) (hi : inT T o (decB m)) (hs : stopA T (o + (decB m).size)) : lexK T o [(1, decB m)] (o + (decB m).size) := by
 have hp := dec_pos m
 have h0 := dec_byt hm hp
 refine lexK_num hi hp (.inl h0) (fun j hj1 hj => dec_byt hm hj) ?_ hs
 cases he : strEq (decB m) dash with
 | false => rfl
 | true => exact absurd (strEq_byt he) (dig_not45 h0)
theorem lexK_whole {T : ByteArray} {o : Nat} {n : Int} (h1 : -9223372036854775808 ≤ n) (h2 : n ≤ 9223372036854775807) (hi : inT T o (wholeB n)) (hs : stopA T (o + (wholeB n).size)) : lexK T o [(1, wholeB n)] (o + (wholeB n).size) := by
 by_cases hn : n < 0
 · have hw : wholeB n = dash ++ decB (-n).toNat := by unfold wholeB; rw [if_pos hn]
   rw [hw] at hi hs ⊢
   generalize hm : (-n).toNat = m at hi hs ⊢
   have hml : m < 18446744073709551616 := by omega
   have hp := dec_pos m
   have hsz : (dash ++ decB m).size = 1 + (decB m).size := by rw [ByteArray.size_append]; rfl
   refine lexK_num hi (by omega) (.inr (by rw [byt_app_l (show 0 < dash.size by decide)]; rfl)) (fun j hj1 hj => ?_) (strEq_ne (by rw [hsz]; show 1 + _ ≠ 1; omega)) hs
   have := byt_app_r dash (decB m) (j - 1)
   rw [show dash.size + (j - 1) = j by show 1 + (j - 1) = j; omega] at this
   rw [this]
   exact dec_byt hml (by omega)
 · have hw : wholeB n = decB n.toNat := by unfold wholeB; rw [if_neg hn]
   rw [hw] at hi hs ⊢
   exact lexK_dec (by omega) hi hs
/-- The tokens of a value, as it is said. -/
def tkV (v : Val) : List Tk :=
 if v.1 = 0 then [(0, nullW)] else if v.1 = 1 then (if v.2.1 = true then [(0, trueW)] else [(0, falseW)]) else if v.1 = 2 then [(1, wholeB v.2.2.1)]
 else if v.1 = 3 then [(0, floatW), (3, lpar), (2, hexB v.2.2.2.1.toNat), (3, rpar)] else if v.1 = 4 then [(2, v.2.2.2.2)] else [(0, noneW)]
theorem lexK_value {T : ByteArray} {o : Nat} {v : Val} (hp : valPre v) (hi : inT T o (valueB v)) (hs : stopA T (o + (valueB v).size)) : lexK T o (tkV v) (o + (valueB v).size) := by
 obtain ⟨hn1, hn2⟩ := i64_rng hp.1
 unfold valueB at hi hs ⊢
 unfold tkV
 by_cases k0 : v.1 = 0
 · rw [if_pos k0] at hi hs; rw [if_pos k0, if_pos k0]
   exact lexK_word hi (by decide) (by decide) (by decide +kernel) hs
 rw [if_neg k0] at hi hs; rw [if_neg k0, if_neg k0]
 by_cases k1 : v.1 = 1
 · rw [if_pos k1] at hi hs; rw [if_pos k1, if_pos k1]
   by_cases kf : v.2.1 = true
   · rw [if_pos kf] at hi hs; rw [if_pos kf, if_pos kf]
     exact lexK_word hi (by decide) (by decide) (by decide +kernel) hs
   · rw [if_neg kf] at hi hs; rw [if_neg kf, if_neg kf]
     exact lexK_word hi (by decide) (by decide) (by decide +kernel) hs
 rw [if_neg k1] at hi hs; rw [if_neg k1, if_neg k1]
 by_cases k2 : v.1 = 2
 · rw [if_pos k2] at hi hs; rw [if_pos k2, if_pos k2]
   exact lexK_whole hn1 hn2 hi hs
 rw [if_neg k2] at hi hs; rw [if_neg k2, if_neg k2]
 by_cases k3 : v.1 = 3
 · rw [if_pos k3] at hi hs; rw [if_pos k3, if_pos k3]
   generalize hh : hexB v.2.2.2.1.toNat = h at hi hs ⊢
   have i1 := inT_l (inT_l hi)
   have i2 := inT_r (inT_l hi)
   have i3 := inT_r hi
   have e1 : floatP = floatW ++ lpar := by apply ByteArray.ext; rfl
   have hz : (floatP ++ quotedF h).size = floatP.size + (quotedF h).size := ByteArray.size_append
   have hz2 : (floatP ++ quotedF h ++ rpar).size = floatP.size + (quotedF h).size + 1 := by rw [ByteArray.size_append, hz]; rfl
   have hz3 : floatP.size = floatW.size + 1 := rfl
   rw [hz] at i3
   rw [e1] at i1
   have a1 := lexK_word (inT_l i1) (by decide) (by decide) (by decide +kernel) (stopA_of (inT_r i1) (by decide) (by decide))
   have a2 := lexK_mark (inT_r i1) rfl (by decide +kernel)
   rw [show o + floatW.size + 1 = o + floatP.size by omega] at a2
   have a3 := lexK_quote i2
   have a4 := lexK_mark i3 rfl (by decide +kernel)
   rw [hz2]
   rw [show o + (floatP.size + (quotedF h).size) = o + floatP.size + (quotedF h).size by omega] at a4
   rw [show o + (floatP.size + (quotedF h).size + 1) = o + floatP.size + (quotedF h).size + 1 by omega]
   exact lexK_cons a1 (lexK_cons a2 (lexK_cons a3 a4))
 rw [if_neg k3] at hi hs; rw [if_neg k3, if_neg k3]
 by_cases k4 : v.1 = 4
 · rw [if_pos k4] at hi hs; rw [if_pos k4, if_pos k4]
   exact lexK_quote hi
 · rw [if_neg k4] at hi hs; rw [if_neg k4, if_neg k4]
   exact lexK_word hi (by decide) (by decide) (by decide +kernel) hs
def catB : List ByteArray → ByteArray
 | [] => ⟨#[]⟩
 | x :: r => x ++ catB r
theorem dl_app (a b : ByteArray) : (a ++ b).data.toList = a.data.toList ++ b.data.toList := by rw [ByteArray.data_append, Array.toList_append]
theorem dl_ext {a b : ByteArray} (h : a.data.toList = b.data.toList) : a = b := ByteArray.ext (Array.ext' h)
theorem joinGo_eq (sep : ByteArray) : ∀ (l : List ByteArray) (a : List UInt8), joinGo sep l a = a ++ (catB (l.map (sep ++ ·))).data.toList
 | [], a => by rw [joinGo]; show a = a ++ []; simp
 | x :: r, a => by
  rw [joinGo, joinGo_eq sep r, List.map_cons, catB, dl_app, dl_app]
  simp only [List.append_assoc]
theorem joinB_eq (sep x : ByteArray) (r : List ByteArray) : joinB sep (x :: r) = x ++ catB (r.map (sep ++ ·)) := by
 cases r with
 | nil =>
  show x = x ++ ⟨#[]⟩
  apply dl_ext; rw [dl_app]; simp
 | cons y r =>
  apply dl_ext
  show (joinGo sep (y :: r) x.data.toList).toArray.toList = _
  rw [dl_app, joinGo_eq]
/-- The tokens of joined parts. -/
def joinK (s : List Tk) : List (List Tk) → List Tk
 | [] => []
 | x :: r => x ++ r.flatMap (s ++ ·)
theorem lexK_cat {α : Type} {sep : ByteArray} {s : List Tk} (h0 : 0 < sep.size) (hw : isWordC (byt sep 0) = false) {T : ByteArray} (hsep : ∀ o, inT T o sep → lexK T o s (o + sep.size)) (B : α → ByteArray) (K : α → List Tk) :
  ∀ (l : List α) (o : Nat), (∀ x ∈ l, ∀ o, inT T o (B x) → stopA T (o + (B x).size) → lexK T o (K x) (o + (B x).size)) → inT T o (catB (l.map (sep ++ B ·))) → stopA T (o + (catB (l.map (sep ++ B ·))).size) →
   stopA T o ∧ lexK T o (l.flatMap (fun x => s ++ K x)) (o + (catB (l.map (sep ++ B ·))).size)
 | [], o, hx, hi, hs => ⟨hs, lexK_nil T o⟩
 | x :: r, o, hx, hi, hs => by
  rw [List.map_cons, catB] at hi hs ⊢
  have hz : (sep ++ B x ++ catB (r.map (sep ++ B ·))).size = sep.size + (B x).size + (catB (r.map (sep ++ B ·))).size := by rw [ByteArray.size_append, ByteArray.size_append]
  have i1 := inT_l (inT_l hi)
  have i2 := inT_r (inT_l hi)
  have i3 := inT_r hi
  rw [ByteArray.size_append, show o + (sep.size + (B x).size) = o + sep.size + (B x).size by omega] at i3
  rw [hz, show o + (sep.size + (B x).size + (catB (r.map (sep ++ B ·))).size) = o + sep.size + (B x).size + (catB (r.map (sep ++ B ·))).size by omega] at hs ⊢
  obtain ⟨j1, j2⟩ := lexK_cat h0 hw hsep B K r _ (fun y hy => hx y (List.mem_cons_of_mem _ hy)) i3 hs
  refine ⟨stopA_of i1 h0 hw, ?_⟩
  rw [List.flatMap_cons]
  exact lexK_app (lexK_app (hsep o i1) (hx x (List.mem_cons_self ..) _ i2 j1)) j2
theorem lexK_join {α : Type} {sep : ByteArray} {s : List Tk} (h0 : 0 < sep.size) (hw : isWordC (byt sep 0) = false) {T : ByteArray} (hsep : ∀ o, inT T o sep → lexK T o s (o + sep.size)) (B : α → ByteArray) (K : α → List Tk)
  (l : List α) (o : Nat) (hx : ∀ x ∈ l, ∀ o, inT T o (B x) → stopA T (o + (B x).size) → lexK T o (K x) (o + (B x).size)) (hi : inT T o (joinB sep (l.map B))) (hs : stopA T (o + (joinB sep (l.map B)).size)) :
   lexK T o (joinK s (l.map K)) (o + (joinB sep (l.map B)).size) := by
 cases l with
 | nil => exact lexK_nil T o
 | cons x r =>
  have hE : joinB sep ((x :: r).map B) = B x ++ catB (r.map (sep ++ B ·)) := by rw [List.map_cons, joinB_eq, List.map_map]; rfl
  rw [hE] at hi hs ⊢
  rw [ByteArray.size_append, ← Nat.add_assoc] at hs ⊢
  obtain ⟨j1, j2⟩ := lexK_cat h0 hw hsep B K r _ (fun y hy => hx y (List.mem_cons_of_mem _ hy)) (inT_r hi) hs
  rw [List.map_cons, joinK]
  rw [show (r.map K).flatMap (s ++ ·) = r.flatMap (fun x => s ++ K x) by rw [List.flatMap_map]]
  exact lexK_app (hx x (List.mem_cons_self ..) _ (inT_l hi) j1) j2
theorem sep_com {T : ByteArray} (o : Nat) (h : inT T o comSp) : lexK T o [(3, comma)] (o + comSp.size) := by
 have e : comSp = comma ++ sp1 := by apply ByteArray.ext; rfl
 rw [e] at h
 have h1 := lexK_mark (inT_l h) rfl (by decide +kernel)
 have h2 := inT_r h
 have h3 := h2.1
 exact lexK_app h1 (lexK_blank (by have : comma.size = 1 := rfl; have : sp1.size = 1 := rfl; omega) (by rw [show o + 1 = o + comma.size from rfl, inT_0 h2 (by decide)]; decide))
theorem sep_sp {T : ByteArray} (o : Nat) (h : inT T o sp1) : lexK T o [] (o + sp1.size) := by
 have h3 := h.1
 exact lexK_blank (by have : sp1.size = 1 := rfl; omega) (by rw [inT_0 h (by decide)]; decide)
def namesK (l : List ByteArray) : List Tk := (3, lbr) :: joinK [(3, comma)] (l.map fun s => [(2, s)]) ++ [(3, rbr)]
theorem lexK_names {T : ByteArray} {o : Nat} {l : List ByteArray} (hi : inT T o (namesB l)) : lexK T o (namesK l) (o + (namesB l).size) := by
 unfold namesB at hi ⊢
 have i1 : inT T o lbr := inT_l (inT_l hi)
 have i2 : inT T (o + 1) (joinB comSp (l.map quotedF)) := inT_r (inT_l hi)
 have i3 := inT_r hi
 have hz : ((⟨#[91]⟩ : ByteArray) ++ joinB comSp (l.map quotedF)).size = 1 + (joinB comSp (l.map quotedF)).size := by rw [ByteArray.size_append]; rfl
 have hz2 : ((⟨#[91]⟩ : ByteArray) ++ joinB comSp (l.map quotedF) ++ (⟨#[93]⟩ : ByteArray)).size = 1 + (joinB comSp (l.map quotedF)).size + 1 := by rw [ByteArray.size_append, hz]; rfl
 rw [hz] at i3
 rw [hz2]
 have a1 := lexK_mark i1 rfl (by decide +kernel)
 have a3 : lexK T _ [(3, rbr)] _ := lexK_mark i3 rfl (by decide +kernel)
 have hs : stopA T (o + 1 + (joinB comSp (l.map quotedF)).size) := by rw [Nat.add_assoc]; exact stopA_of i3 (by decide) (by decide)
 have a2 := lexK_join (by decide) (by decide) sep_com quotedF (fun s => [((2 : Int), s)]) l (o + 1) (fun x _ o hi _ => lexK_quote hi) i2 hs
 rw [show o + (1 + (joinB comSp (l.map quotedF)).size) = o + 1 + (joinB comSp (l.map quotedF)).size by omega] at a3
 rw [show o + (1 + (joinB comSp (l.map quotedF)).size + 1) = o + 1 + (joinB comSp (l.map quotedF)).size + 1 by omega]
 exact lexK_app (lexK_cons a1 a2) a3
def fldK (f : Fld) : List Tk := (2, f.1) :: (3, eqm) :: tkV f.2
theorem lexK_fld {T : ByteArray} {o : Nat} {f : Fld} (hp : valPre f.2) (hi : inT T o (fldB f)) (hs : stopA T (o + (fldB f).size)) : lexK T o (fldK f) (o + (fldB f).size) := by
 unfold fldB at hi hs ⊢
 have i1 := inT_l (inT_l hi)
 have i2 := inT_r (inT_l hi)
 have i3 := inT_r hi
 have hz : (quotedF f.1 ++ (⟨#[61]⟩ : ByteArray)).size = (quotedF f.1).size + 1 := by rw [ByteArray.size_append]; rfl
 rw [hz, ← Nat.add_assoc] at i3
 have hz2 : (quotedF f.1 ++ (⟨#[61]⟩ : ByteArray) ++ valueB f.2).size = (quotedF f.1).size + 1 + (valueB f.2).size := by rw [ByteArray.size_append, hz]
 rw [hz2, ← Nat.add_assoc, ← Nat.add_assoc] at hs ⊢
 have a2 : lexK T _ [(3, eqm)] _ := lexK_mark i2 rfl (by decide +kernel)
 exact lexK_cons (lexK_quote i1) (lexK_cons a2 (lexK_value hp i3 hs))
theorem papGo_pos : ∀ (l : List Fld) (i : Nat) (a : List UInt8), 0 < i → papGo l i a = a ++ (catB (l.map (comSp ++ fldB ·))).data.toList
 | [], i, a, _ => by rw [papGo]; show a = a ++ []; simp
 | f :: r, i, a, hi => by
  rw [papGo, if_pos hi, papGo_pos r (i + 1) _ (by omega), List.map_cons, catB, dl_app, dl_app]
  simp only [List.append_assoc]
  rfl
theorem paperB_eq (p : Paper) : paperB p = papHead p ++ joinB comSp (p.2.2.map fldB) ++ rpar := by
 unfold paperB
 congr 1
 obtain ⟨a, b, l⟩ := p
 dsimp only
 cases l with
 | nil =>
  apply dl_ext
  rw [dl_app]
  show (papGo [] 0 _).toArray.toList = _ ++ []
  rw [papGo]; simp
 | cons f r =>
  apply dl_ext
  rw [List.map_cons, joinB_eq, dl_app, dl_app, List.map_map]
  show (papGo (f :: r) 0 _).toArray.toList = _
  rw [papGo, if_neg (by omega), papGo_pos r _ _ (by omega)]
  simp only [List.append_assoc]
  rfl
def paperK (p : Paper) : List Tk := (2, p.1) :: (1, wholeB p.2.1) :: (3, lpar) :: joinK [(3, comma)] (p.2.2.map fldK) ++ [(3, rpar)]
theorem lexK_paper {T : ByteArray} {o : Nat} {p : Paper} (hc : inR .i64 p.2.1 = true) (hf : ∀ f ∈ p.2.2, valPre f.2) (hi : inT T o (paperB p)) : lexK T o (paperK p) (o + (paperB p).size) := by
 rw [paperB_eq] at hi ⊢
 obtain ⟨hc1, hc2⟩ := i64_rng hc
 have e : papHead p = quotedF p.1 ++ sp1 ++ wholeB p.2.1 ++ (sp1 ++ lpar) := rfl
 rw [e] at hi ⊢
 have i1 := inT_l (inT_l (inT_l (inT_l (inT_l hi))))
 have i2 := inT_r (inT_l (inT_l (inT_l (inT_l hi))))
 have i3 := inT_r (inT_l (inT_l (inT_l hi)))
 have i4 := inT_r (inT_l (inT_l hi))
 have i5 := inT_r (inT_l hi)
 have i6 := inT_r hi
 simp only [ByteArray.size_append] at i1 i2 i3 i4 i5 i6 ⊢
 have z1 : sp1.size = 1 := rfl
 have z2 : lpar.size = 1 := rfl
 have z3 : rpar.size = 1 := rfl
 simp only [z1, z2, z3] at i1 i2 i3 i4 i5 i6 ⊢
 generalize hj : joinB comSp (p.2.2.map fldB) = J at i5 i6 ⊢
 have hb1 := i2.1
 have hb4 := i4.1
 simp only [ByteArray.size_append, z1, z2] at hb1 hb4
 have a1 := lexK_quote i1
 have a2 := lexK_blank (T := T) (o := o + (quotedF p.1).size) (by omega) (by rw [inT_0 i2 (by decide)]; decide)
 rw [Nat.add_assoc] at a2
 have a3 := lexK_whole hc1 hc2 i3 (stopA_of (by rw [Nat.add_assoc]; exact i4) (by decide) (by decide))
 rw [Nat.add_assoc] at a3
 have a4 := lexK_blank (T := T) (o := o + ((quotedF p.1).size + 1 + (wholeB p.2.1).size)) (by omega) (by rw [inT_0 (inT_l i4) (by decide)]; decide)
 have a5 := lexK_mark (inT_r i4) rfl (by decide +kernel)
 simp only [z1] at a5
 have hs5 : stopA T (o + ((quotedF p.1).size + 1 + (wholeB p.2.1).size + (1 + 1)) + J.size) := by rw [Nat.add_assoc]; exact stopA_of i6 (by decide) (by decide)
 have a6 := lexK_join (by decide) (by decide) sep_com fldB fldK p.2.2 (o + ((quotedF p.1).size + 1 + (wholeB p.2.1).size + (1 + 1))) (fun f hfm o hi hs => lexK_fld (hf f hfm) hi hs) (by rw [hj]; exact i5) (by rw [hj]; exact hs5)
 rw [hj] at a6
 have a7 := lexK_mark i6 rfl (by decide +kernel)
 rw [show o + ((quotedF p.1).size + 1 + (wholeB p.2.1).size) + 1 + 1 = o + ((quotedF p.1).size + 1 + (wholeB p.2.1).size + (1 + 1)) by omega] at a5
 rw [show o + ((quotedF p.1).size + 1 + (wholeB p.2.1).size + (1 + 1)) + J.size = o + ((quotedF p.1).size + 1 + (wholeB p.2.1).size + (1 + 1) + J.size) by omega] at a6
 rw [show o + ((quotedF p.1).size + 1 + (wholeB p.2.1).size + (1 + 1) + J.size + 1) = o + ((quotedF p.1).size + 1 + (wholeB p.2.1).size + (1 + 1) + J.size) + 1 by omega]
 exact lexK_app (lexK_cons (lexK_app (b := []) a1 a2) (lexK_cons (lexK_app (b := []) a3 a4) (lexK_cons a5 a6))) a7
def argKs (a : ActM) (k : Int) : List Tk :=
 if k = 0 then [(2, a.id)] else if k = 1 then [(2, a.name)] else if k = 2 then namesK (a.names.getD []) else if k = 3 then [(1, wholeB a.n)] else if k = 4 then [(1, wholeB a.m)]
 else if k = 5 then [(1, decB a.keep.toNat)] else if k = 6 then [(1, wholeB a.tear)] else if k = 7 then [(2, a.draw)] else paperK (a.pid, a.cls, a.flds.getD [])
theorem lexK_arg {T : ByteArray} {a : ActM} (hp : actPre a) (k : Int) (o : Nat) (hi : inT T o (argB a k)) (hs : stopA T (o + (argB a k).size)) : lexK T o (argKs a k) (o + (argB a k).size) := by
 obtain ⟨n1, n2⟩ := i64_rng hp.n
 obtain ⟨m1, m2⟩ := i64_rng hp.m
 obtain ⟨t1, t2⟩ := i64_rng hp.tear
 obtain ⟨k1, k2⟩ := u64_rng hp.keep
 unfold argB at hi hs ⊢
 unfold argKs
 by_cases h0 : k = 0
 · rw [if_pos h0] at hi hs; rw [if_pos h0, if_pos h0]; exact lexK_quote hi
 rw [if_neg h0] at hi hs; rw [if_neg h0, if_neg h0]
 by_cases h1 : k = 1
 · rw [if_pos h1] at hi hs; rw [if_pos h1, if_pos h1]; exact lexK_quote hi
 rw [if_neg h1] at hi hs; rw [if_neg h1, if_neg h1]
 by_cases h2 : k = 2
 · rw [if_pos h2] at hi hs; rw [if_pos h2, if_pos h2]; exact lexK_names hi
 rw [if_neg h2] at hi hs; rw [if_neg h2, if_neg h2]
 by_cases h3 : k = 3
 · rw [if_pos h3] at hi hs; rw [if_pos h3, if_pos h3]; exact lexK_whole n1 n2 hi hs
 rw [if_neg h3] at hi hs; rw [if_neg h3, if_neg h3]
 by_cases h4 : k = 4
 · rw [if_pos h4] at hi hs; rw [if_pos h4, if_pos h4]; exact lexK_whole m1 m2 hi hs
 rw [if_neg h4] at hi hs; rw [if_neg h4, if_neg h4]
 by_cases h5 : k = 5
 · rw [if_pos h5] at hi hs; rw [if_pos h5, if_pos h5]; exact lexK_dec (by omega) hi hs
 rw [if_neg h5] at hi hs; rw [if_neg h5, if_neg h5]
 by_cases h6 : k = 6
 · rw [if_pos h6] at hi hs; rw [if_pos h6, if_pos h6]; exact lexK_whole t1 t2 hi hs
 rw [if_neg h6] at hi hs; rw [if_neg h6, if_neg h6]
 by_cases h7 : k = 7
 · rw [if_pos h7] at hi hs; rw [if_pos h7, if_pos h7]; exact lexK_quote hi
 rw [if_neg h7] at hi hs; rw [if_neg h7, if_neg h7]
 exact lexK_paper hp.pap.2.1 (fun f hf => (hp.pap.2.2.2 f hf).2) hi
theorem form_ok : ∀ k : Fin 16, 1 ≤ k.val → 0 < (formB k.val).size ∧ isLetter (byt (formB k.val) 0) = true ∧ ∀ j, j < (formB k.val).size → isWordC (byt (formB k.val) j) = true := by decide +kernel
/-- The tokens of a step, as it is said. -/
def stepK (a : ActM) : List Tk := (0, formB a.kind.toNat) :: (argsK a.kind).flatMap (argKs a) ++ [(3, semi)]
theorem lexK_step {T : ByteArray} {o : Nat} {a : ActM} (hk1 : 1 ≤ a.kind) (hk2 : a.kind ≤ 15) (hp : actPre a) (hi : inT T o (printB a)) : lexK T o (stepK a) (o + (printB a).size) := by
 have hB : printB a = formB a.kind.toNat ++ catB ((argsK a.kind).map (sp1 ++ argB a ·)) ++ semi := by
  unfold printB wordsOf
  rw [if_pos hk1, if_pos hk2, joinB_eq, List.map_map]; rfl
 rw [hB] at hi ⊢
 have i1 := inT_l (inT_l hi)
 have i2 := inT_r (inT_l hi)
 have i3 := inT_r hi
 simp only [ByteArray.size_append] at i3 ⊢
 have z1 : semi.size = 1 := rfl
 rw [z1]
 obtain ⟨f1, f2, f3⟩ := form_ok ⟨a.kind.toNat, by omega⟩ (by show 1 ≤ a.kind.toNat; omega)
 dsimp only at f1 f2 f3
 have hs3 : stopA T (o + (formB a.kind.toNat).size + (catB ((argsK a.kind).map (sp1 ++ argB a ·))).size) := by rw [Nat.add_assoc]; exact stopA_of i3 (by decide) (by decide)
 obtain ⟨c1, c2⟩ := lexK_cat (by decide) (by decide) sep_sp (argB a) (argKs a) (argsK a.kind) _ (fun k _ o hi hs => lexK_arg hp k o hi hs) i2 hs3
 have a1 := lexK_word i1 f1 f2 f3 c1
 have a3 := lexK_mark i3 rfl (by decide +kernel)
 rw [Nat.add_assoc] at c2
 unfold stepK
 rw [show o + ((formB a.kind.toNat).size + (catB ((argsK a.kind).map (sp1 ++ argB a ·))).size + 1) = o + ((formB a.kind.toNat).size + (catB ((argsK a.kind).map (sp1 ++ argB a ·))).size) + 1 by omega]
 exact lexK_app (lexK_cons a1 c2) a3
end Go.Dl

namespace Go.Dl
open Go.RowKit
open Go.Proofs
set_option linter.unusedSimpArgs false
set_option linter.unusedVariables false
/-- A step with just what it has. -/
def cleanA (a : ActM) : ActM :=
 if a.kind = 1 then { act0 a.kind with pid := a.pid, cls := a.cls, flds := a.flds, draw := a.draw }
 else if a.kind = 2 then { act0 a.kind with id := a.id } else if a.kind = 4 then { act0 a.kind with id := a.id }
 else if a.kind = 3 then { act0 a.kind with id := a.id, name := a.name } else if a.kind = 5 then { act0 a.kind with id := a.id, name := a.name } else if a.kind = 6 then { act0 a.kind with id := a.id, name := a.name }
 else if a.kind = 8 then { act0 a.kind with n := a.n }
 else if a.kind = 11 then { act0 a.kind with keep := a.keep, tear := a.tear }
 else if a.kind = 12 then { act0 a.kind with n := a.n, keep := a.keep, tear := a.tear }
 else if a.kind = 14 then { act0 a.kind with id := a.id, names := a.names, n := a.n }
 else if a.kind = 15 then { act0 a.kind with n := a.n, m := a.m }
 else act0 a.kind
theorem flds_none : fldsC false none = .s false 0 [] := rfl
theorem names_none : namesC false none = .s false 0 [] := rfl
noncomputable def pClean2 : List D → Option D := famP (fun _ : ActM => True) (fun a => [.agg (actC false a)]) (fun a => .agg (actC false (cleanA a)))
theorem clean2_at (a : ActM) : pClean2 [.agg (actC false a)] = some (.agg (actC false (cleanA a))) := Ym (fun x y h => by
 simp only [List.cons.injEq, D.agg.injEq, and_true] at h
 rw [actC_inj0 h]) a trivial rfl
set_option maxRecDepth 100000 in
set_option maxHeartbeats 8000000 in
theorem meets25 : Meets Try.prog 25 (pureS pClean2) := by
 refine Yn (show Try.prog.funcs[25]? = some Try.f25 by kernel_rfl) rfl (n := 77) rfl (rs := [ResultVar.cell 2 50]) rfl ?_
 intro a _ Q hQ
 obtain ⟨e1, r1, hf1⟩ : ∃ es r, fldsC false a.flds = .s false es r := ⟨_, _, rfl⟩
 obtain ⟨e2, r2, hf2⟩ : ∃ es r, namesC false a.names = .s false es r := ⟨_, _, rfl⟩
 simp only [actC, hf1, hf2]
 simp only [cleanA] at hQ
 generalize hkk : a.kind = kd at hQ
 refine Y3 ok0 rfl (by repeat first | with_reducible exact Y2 | refine Y1 (by simp only [Y5, Y4, Y6, St.ev, St.put, St.with, D.cells, boxA, C.st, List.replicate, Nat.reduceAdd, Nat.reduceSub, if_true, tz50, ZA]; rfl) ?_) ?_
 refine Y3 ok0 rfl (by repeat first | with_reducible exact Y2 | refine Y1 (by simp only [Y5, Y4, Y6, qev, St.ev, St.put, St.with, D.cells, boxA, qload, Y9, qmk, C.cpy, TK.agg, Yb, liveR, C.st, C.cp, C.dat, storeA, putCells, Nat.reduceAdd, if_true, if_false, ne_eq, reduceCtorEq, Nat.reduceLeDiff, Nat.le_refl, Nat.reduceBNe, implies_true, Nat.add_zero, buildA, partsA, fillA, placeSt, tsz48, tk50, tsz50, tz50, tsz3, tk3, tsz9, tsz28, tsz37, ZA]; rfl) ?_) ?_
 refine seq_in ?_
 refine Y3 ok0 rfl (by repeat first | with_reducible exact Y2 | refine Y1 (by simp only [Y5, Y4, Y6, qev, St.ev, St.put, qload, Y9, qmk, C.cpy, TK.agg, Yb, liveR, C.cp, if_true, if_false, reduceCtorEq, Nat.add_zero, tk50, tsz3, tk3, ZA]; rfl) ?_) ?_
 refine tri_block ?_
 refine Y3 ok0 rfl (by repeat first | with_reducible exact Y2 | refine Y1 (by simp only [Y5, Y4, Y6, qev, St.ev, St.put, qint, Yc, Ya, qbin, Y8, Y7, if_true, if_false, ZA]; rfl) ?_) ?_
 refine Yf rfl (fun w0 => ?_) (fun w0 => ?_)
 ·
  simp only [decide_eq_true_eq] at w0
  refine Y3 ok0 rfl (by repeat first | with_reducible exact Y2 | refine Y1 (by simp only [Y5, Y4, Y6, qev, St.ev, St.put, D.cells, qload, Y9, qmk, C.cpy, TK.agg, Yb, liveR, C.st, C.cp, C.dat, storeA, putCells, Nat.reduceAdd, if_true, if_false, decide_true, ne_eq, reduceCtorEq, Nat.reduceLeDiff, implies_true, tk48, tsz48, tk50, w0, ZA]; rfl) ?_) ?_
  refine Yk ok0 rfl (by repeat first | with_reducible exact Y2 | refine Y1 (by simp only [Y5, Y4, Y6, qev, St.ev, St.put, D.cells, qload, Y9, qmk, C.cpy, TK.agg, Yb, liveR, C.st, C.cp, C.dat, storeA, putCells, Nat.reduceAdd, if_true, if_false, ne_eq, reduceCtorEq, Nat.reduceLeDiff, implies_true, tk50, tsz9, tk9, ZA]; rfl) ?_) ?_
  show Tri _ _ _ _
  refine Y3 ok0 rfl (by repeat first | with_reducible exact Y2 | refine Y1 (by simp only [Y5, Y4, Y6, qev, St.ev, St.put, D.cells, qload, Y9, qmk, C.cpy, TK.agg, C.st, C.cp, C.dat, storeA, putCells, Nat.reduceAdd, if_true, ne_eq, reduceCtorEq, Nat.le_refl, implies_true, tk50, tsz50, ZA]; rfl) ?_) ?_
  refine Yo (Yp (by simp only [outRes, Yi, resD, outD, outC, outCs, qload, Y9, qmk, C.cpy, TK.agg, C.cp, C.dat, Nat.reduceAdd, if_true, tk50, tsz50, ZA]; rfl) rfl (by simp) (by simp) ?_)
  (simp only [reduceIte, ↓reduceIte, act0, actC, noText, names_none, hf1, w0] at hQ; with_reducible exact hQ)
 ·
  simp only [decide_eq_false_iff_not] at w0
  refine seq_in ?_
  refine Y3 ok0 rfl (by repeat first | with_reducible exact Y2 | refine Y1 (by simp only [Y5, Y4, Y6, qev, St.ev, St.put, qint, Yc, Ya, qbin, Y8, Y7, if_true, if_false, decide_false, w0, ZA]; rfl) ?_) ?_
  refine Yf rfl (fun w1 => ?_) (fun w1 => ?_)
  ·
   simp only [decide_eq_true_eq] at w1
   refine Ye ?_
   refine Yf rfl (fun w2 => ?_) (fun w2 => ?_)
   ·
    simp only [decide_eq_true_eq] at w2
    refine Yk ok0 rfl (by repeat first | with_reducible exact Y2 | refine Y1 (by simp only [Y5, Y4, Y6, qev, St.ev, St.put, D.cells, qload, Y9, qmk, C.cpy, TK.agg, Yb, liveR, C.st, C.cp, C.dat, storeA, putCells, Nat.reduceAdd, if_true, if_false, decide_true, ne_eq, reduceCtorEq, Nat.reduceLeDiff, implies_true, tk50, tsz9, w1, tk9, ZA]; rfl) ?_) ?_
    show Tri _ _ _ _
    refine Y3 ok0 rfl (by repeat first | with_reducible exact Y2 | refine Y1 (by simp only [Y5, Y4, Y6, qev, St.ev, St.put, D.cells, qload, Y9, qmk, C.cpy, TK.agg, C.st, C.cp, C.dat, storeA, putCells, Nat.reduceAdd, if_true, ne_eq, reduceCtorEq, Nat.le_refl, implies_true, tk50, tsz50, ZA]; rfl) ?_) ?_
    refine Yo (Yp (by simp only [outRes, Yi, resD, outD, outC, outCs, qload, Y9, qmk, C.cpy, TK.agg, C.cp, C.dat, Nat.reduceAdd, if_true, tk50, tsz50, ZA]; rfl) rfl (by simp) (by simp) ?_)
    (simp only [reduceIte, ↓reduceIte, Int.reduceEq, act0, actC, noText, flds_none, names_none, w1] at hQ; with_reducible exact hQ)
   ·
    simp only [decide_eq_false_iff_not] at w2
    (exfalso; omega)
  ·
   simp only [decide_eq_false_iff_not] at w1
   refine Yk ok0 rfl (by repeat first | with_reducible exact Y2 | refine Y1 (by simp only [Y5, Y4, Y6, qev, St.ev, St.put, qint, Yc, Ya, qbin, Y8, Y7, if_true, if_false, decide_false, w1, ZA]; rfl) ?_) ?_
   show Tri _ _ _ _
   refine Yf rfl (fun w3 => ?_) (fun w3 => ?_)
   ·
    simp only [decide_eq_true_eq] at w3
    refine Yk ok0 rfl (by repeat first | with_reducible exact Y2 | refine Y1 (by simp only [Y5, Y4, Y6, qev, St.ev, St.put, D.cells, qload, Y9, qmk, C.cpy, TK.agg, Yb, liveR, C.st, C.cp, C.dat, storeA, putCells, Nat.reduceAdd, if_true, if_false, decide_true, ne_eq, reduceCtorEq, Nat.reduceLeDiff, implies_true, tk50, tsz9, w3, tk9, ZA]; rfl) ?_) ?_
    show Tri _ _ _ _
    refine Y3 ok0 rfl (by repeat first | with_reducible exact Y2 | refine Y1 (by simp only [Y5, Y4, Y6, qev, St.ev, St.put, D.cells, qload, Y9, qmk, C.cpy, TK.agg, C.st, C.cp, C.dat, storeA, putCells, Nat.reduceAdd, if_true, ne_eq, reduceCtorEq, Nat.le_refl, implies_true, tk50, tsz50, ZA]; rfl) ?_) ?_
    refine Yo (Yp (by simp only [outRes, Yi, resD, outD, outC, outCs, qload, Y9, qmk, C.cpy, TK.agg, C.cp, C.dat, Nat.reduceAdd, if_true, tk50, tsz50, ZA]; rfl) rfl (by simp) (by simp) ?_)
    (simp only [reduceIte, ↓reduceIte, Int.reduceEq, act0, actC, noText, flds_none, names_none, w3] at hQ; with_reducible exact hQ)
   ·
    simp only [decide_eq_false_iff_not] at w3
    refine seq_in ?_
    refine Y3 ok0 rfl (by repeat first | with_reducible exact Y2 | refine Y1 (by simp only [Y5, Y4, Y6, qev, St.ev, St.put, qint, Yc, Ya, qbin, Y8, Y7, if_true, if_false, decide_false, w3, ZA]; rfl) ?_) ?_
    refine Yf rfl (fun w4 => ?_) (fun w4 => ?_)
    ·
     simp only [decide_eq_true_eq] at w4
     refine Ye ?_
     refine Yf rfl (fun w5 => ?_) (fun w5 => ?_)
     ·
      simp only [decide_eq_true_eq] at w5
      refine Y3 ok0 rfl (by repeat first | with_reducible exact Y2 | refine Y1 (by simp only [Y5, Y4, Y6, qev, St.ev, St.put, D.cells, qload, Y9, qmk, C.cpy, TK.agg, Yb, liveR, C.st, C.cp, C.dat, storeA, putCells, Nat.reduceAdd, if_true, if_false, decide_true, ne_eq, reduceCtorEq, Nat.reduceLeDiff, implies_true, tk50, tsz9, w4, tk9, ZA]; rfl) ?_) ?_
      refine Yk ok0 rfl (by repeat first | with_reducible exact Y2 | refine Y1 (by simp only [Y5, Y4, Y6, qev, St.ev, St.put, D.cells, qload, Y9, qmk, C.cpy, TK.agg, Yb, liveR, C.st, C.cp, C.dat, storeA, putCells, Nat.reduceAdd, if_true, if_false, ne_eq, reduceCtorEq, Nat.reduceLeDiff, implies_true, tk50, tsz9, tk9, ZA]; rfl) ?_) ?_
      show Tri _ _ _ _
      refine Y3 ok0 rfl (by repeat first | with_reducible exact Y2 | refine Y1 (by simp only [Y5, Y4, Y6, qev, St.ev, St.put, D.cells, qload, Y9, qmk, C.cpy, TK.agg, C.st, C.cp, C.dat, storeA, putCells, Nat.reduceAdd, if_true, ne_eq, reduceCtorEq, Nat.le_refl, implies_true, tk50, tsz50, ZA]; rfl) ?_) ?_
      refine Yo (Yp (by simp only [outRes, Yi, resD, outD, outC, outCs, qload, Y9, qmk, C.cpy, TK.agg, C.cp, C.dat, Nat.reduceAdd, if_true, tk50, tsz50, ZA]; rfl) rfl (by simp) (by simp) ?_)
      (simp only [reduceIte, ↓reduceIte, Int.reduceEq, act0, actC, noText, flds_none, names_none, w4] at hQ; with_reducible exact hQ)
     ·
      simp only [decide_eq_false_iff_not] at w5
      (exfalso; omega)
    ·
     simp only [decide_eq_false_iff_not] at w4
     refine Y3 ok0 rfl (by repeat first | with_reducible exact Y2 | refine Y1 (by simp only [Y5, Y4, Y6, qev, St.ev, St.put, qint, Yc, Ya, qbin, Y8, Y7, if_true, if_false, decide_false, w4, ZA]; rfl) ?_) ?_
     refine Yf rfl (fun w6 => ?_) (fun w6 => ?_)
     ·
      simp only [decide_eq_true_eq] at w6
      refine Ye ?_
      refine Yf rfl (fun w7 => ?_) (fun w7 => ?_)
      ·
       simp only [decide_eq_true_eq] at w7
       refine Y3 ok0 rfl (by repeat first | with_reducible exact Y2 | refine Y1 (by simp only [Y5, Y4, Y6, qev, St.ev, St.put, D.cells, qload, Y9, qmk, C.cpy, TK.agg, Yb, liveR, C.st, C.cp, C.dat, storeA, putCells, Nat.reduceAdd, if_true, if_false, decide_true, ne_eq, reduceCtorEq, Nat.reduceLeDiff, implies_true, tk50, tsz9, w6, tk9, ZA]; rfl) ?_) ?_
       refine Yk ok0 rfl (by repeat first | with_reducible exact Y2 | refine Y1 (by simp only [Y5, Y4, Y6, qev, St.ev, St.put, D.cells, qload, Y9, qmk, C.cpy, TK.agg, Yb, liveR, C.st, C.cp, C.dat, storeA, putCells, Nat.reduceAdd, if_true, if_false, ne_eq, reduceCtorEq, Nat.reduceLeDiff, implies_true, tk50, tsz9, tk9, ZA]; rfl) ?_) ?_
       show Tri _ _ _ _
       refine Y3 ok0 rfl (by repeat first | with_reducible exact Y2 | refine Y1 (by simp only [Y5, Y4, Y6, qev, St.ev, St.put, D.cells, qload, Y9, qmk, C.cpy, TK.agg, C.st, C.cp, C.dat, storeA, putCells, Nat.reduceAdd, if_true, ne_eq, reduceCtorEq, Nat.le_refl, implies_true, tk50, tsz50, ZA]; rfl) ?_) ?_
       refine Yo (Yp (by simp only [outRes, Yi, resD, outD, outC, outCs, qload, Y9, qmk, C.cpy, TK.agg, C.cp, C.dat, Nat.reduceAdd, if_true, tk50, tsz50, ZA]; rfl) rfl (by simp) (by simp) ?_)
       (simp only [reduceIte, ↓reduceIte, Int.reduceEq, act0, actC, noText, flds_none, names_none, w6] at hQ; with_reducible exact hQ)
      ·
       simp only [decide_eq_false_iff_not] at w7
       (exfalso; omega)
     ·
      simp only [decide_eq_false_iff_not] at w6
      refine Yk ok0 rfl (by repeat first | with_reducible exact Y2 | refine Y1 (by simp only [Y5, Y4, Y6, qev, St.ev, St.put, qint, Yc, Ya, qbin, Y8, Y7, if_true, if_false, decide_false, w6, ZA]; rfl) ?_) ?_
      show Tri _ _ _ _
      refine Yf rfl (fun w8 => ?_) (fun w8 => ?_)
      ·
       simp only [decide_eq_true_eq] at w8
       refine Y3 ok0 rfl (by repeat first | with_reducible exact Y2 | refine Y1 (by simp only [Y5, Y4, Y6, qev, St.ev, St.put, D.cells, qload, Y9, qmk, C.cpy, TK.agg, Yb, liveR, C.st, C.cp, C.dat, storeA, putCells, Nat.reduceAdd, if_true, if_false, decide_true, ne_eq, reduceCtorEq, Nat.reduceLeDiff, implies_true, tk50, tsz9, w8, tk9, ZA]; rfl) ?_) ?_
       refine Yk ok0 rfl (by repeat first | with_reducible exact Y2 | refine Y1 (by simp only [Y5, Y4, Y6, qev, St.ev, St.put, D.cells, qload, Y9, qmk, C.cpy, TK.agg, Yb, liveR, C.st, C.cp, C.dat, storeA, putCells, Nat.reduceAdd, if_true, if_false, ne_eq, reduceCtorEq, Nat.reduceLeDiff, implies_true, tk50, tsz9, tk9, ZA]; rfl) ?_) ?_
       show Tri _ _ _ _
       refine Y3 ok0 rfl (by repeat first | with_reducible exact Y2 | refine Y1 (by simp only [Y5, Y4, Y6, qev, St.ev, St.put, D.cells, qload, Y9, qmk, C.cpy, TK.agg, C.st, C.cp, C.dat, storeA, putCells, Nat.reduceAdd, if_true, ne_eq, reduceCtorEq, Nat.le_refl, implies_true, tk50, tsz50, ZA]; rfl) ?_) ?_
       refine Yo (Yp (by simp only [outRes, Yi, resD, outD, outC, outCs, qload, Y9, qmk, C.cpy, TK.agg, C.cp, C.dat, Nat.reduceAdd, if_true, tk50, tsz50, ZA]; rfl) rfl (by simp) (by simp) ?_)
       (simp only [reduceIte, ↓reduceIte, Int.reduceEq, act0, actC, noText, flds_none, names_none, w8] at hQ; with_reducible exact hQ)
      ·
       simp only [decide_eq_false_iff_not] at w8
       refine Y3 ok0 rfl (by repeat first | with_reducible exact Y2 | refine Y1 (by simp only [Y5, Y4, Y6, qev, St.ev, St.put, qint, Yc, Ya, qbin, Y8, Y7, if_true, if_false, decide_false, w8, ZA]; rfl) ?_) ?_
       refine Yf rfl (fun w9 => ?_) (fun w9 => ?_)
       ·
        simp only [decide_eq_true_eq] at w9
        refine Yk ok0 rfl (by repeat first | with_reducible exact Y2 | refine Y1 (by simp only [Y5, Y4, Y6, qev, St.ev, St.put, D.cells, qload, Y9, qmk, C.cpy, TK.agg, Yb, liveR, C.st, C.cp, C.dat, storeA, putCells, Nat.reduceAdd, if_true, if_false, decide_true, ne_eq, reduceCtorEq, Nat.reduceLeDiff, implies_true, tk50, tsz3, tk3, w9, ZA]; rfl) ?_) ?_
        show Tri _ _ _ _
        refine Y3 ok0 rfl (by repeat first | with_reducible exact Y2 | refine Y1 (by simp only [Y5, Y4, Y6, qev, St.ev, St.put, D.cells, qload, Y9, qmk, C.cpy, TK.agg, C.st, C.cp, C.dat, storeA, putCells, Nat.reduceAdd, if_true, ne_eq, reduceCtorEq, Nat.le_refl, implies_true, tk50, tsz50, ZA]; rfl) ?_) ?_
        refine Yo (Yp (by simp only [outRes, Yi, resD, outD, outC, outCs, qload, Y9, qmk, C.cpy, TK.agg, C.cp, C.dat, Nat.reduceAdd, if_true, tk50, tsz50, ZA]; rfl) rfl (by simp) (by simp) ?_)
        (simp only [reduceIte, ↓reduceIte, Int.reduceEq, act0, actC, noText, flds_none, names_none, w9] at hQ; with_reducible exact hQ)
       ·
        simp only [decide_eq_false_iff_not] at w9
        refine Y3 ok0 rfl (by repeat first | with_reducible exact Y2 | refine Y1 (by simp only [Y5, Y4, Y6, qev, St.ev, St.put, qint, Yc, Ya, qbin, Y8, Y7, if_true, if_false, decide_false, w9, ZA]; rfl) ?_) ?_
        refine Yf rfl (fun w10 => ?_) (fun w10 => ?_)
        ·
         simp only [decide_eq_true_eq] at w10
         refine Y3 ok0 rfl (by repeat first | with_reducible exact Y2 | refine Y1 (by simp only [Y5, Y4, Y6, qev, St.ev, St.put, D.cells, qload, Y9, qmk, C.cpy, TK.agg, Yb, liveR, C.st, C.cp, C.dat, storeA, putCells, Nat.reduceAdd, if_true, if_false, decide_true, ne_eq, reduceCtorEq, Nat.reduceLeDiff, implies_true, tk50, tsz37, w10, tk37, ZA]; rfl) ?_) ?_
         refine Yk ok0 rfl (by repeat first | with_reducible exact Y2 | refine Y1 (by simp only [Y5, Y4, Y6, qev, St.ev, St.put, D.cells, qload, Y9, qmk, C.cpy, TK.agg, Yb, liveR, C.st, C.cp, C.dat, storeA, putCells, Nat.reduceAdd, if_true, if_false, ne_eq, reduceCtorEq, Nat.le_refl, implies_true, tk50, tsz3, tk3, ZA]; rfl) ?_) ?_
         show Tri _ _ _ _
         refine Y3 ok0 rfl (by repeat first | with_reducible exact Y2 | refine Y1 (by simp only [Y5, Y4, Y6, qev, St.ev, St.put, D.cells, qload, Y9, qmk, C.cpy, TK.agg, C.st, C.cp, C.dat, storeA, putCells, Nat.reduceAdd, if_true, ne_eq, reduceCtorEq, Nat.le_refl, implies_true, tk50, tsz50, ZA]; rfl) ?_) ?_
         refine Yo (Yp (by simp only [outRes, Yi, resD, outD, outC, outCs, qload, Y9, qmk, C.cpy, TK.agg, C.cp, C.dat, Nat.reduceAdd, if_true, tk50, tsz50, ZA]; rfl) rfl (by simp) (by simp) ?_)
         (simp only [reduceIte, ↓reduceIte, Int.reduceEq, act0, actC, noText, flds_none, names_none, w10] at hQ; with_reducible exact hQ)
        ·
         simp only [decide_eq_false_iff_not] at w10
         refine Y3 ok0 rfl (by repeat first | with_reducible exact Y2 | refine Y1 (by simp only [Y5, Y4, Y6, qev, St.ev, St.put, qint, Yc, Ya, qbin, Y8, Y7, if_true, if_false, decide_false, w10, ZA]; rfl) ?_) ?_
         refine Yf rfl (fun w11 => ?_) (fun w11 => ?_)
         ·
          simp only [decide_eq_true_eq] at w11
          refine Y3 ok0 rfl (by repeat first | with_reducible exact Y2 | refine Y1 (by simp only [Y5, Y4, Y6, qev, St.ev, St.put, D.cells, qload, Y9, qmk, C.cpy, TK.agg, Yb, liveR, C.st, C.cp, C.dat, storeA, putCells, Nat.reduceAdd, if_true, if_false, decide_true, ne_eq, reduceCtorEq, Nat.reduceLeDiff, implies_true, tk50, tsz3, tk3, w11, ZA]; rfl) ?_) ?_
          refine Y3 ok0 rfl (by repeat first | with_reducible exact Y2 | refine Y1 (by simp only [Y5, Y4, Y6, qev, St.ev, St.put, D.cells, qload, Y9, qmk, C.cpy, TK.agg, Yb, liveR, C.st, C.cp, C.dat, storeA, putCells, Nat.reduceAdd, if_true, if_false, ne_eq, reduceCtorEq, Nat.reduceLeDiff, implies_true, tk50, tsz37, tk37, ZA]; rfl) ?_) ?_
          refine Yk ok0 rfl (by repeat first | with_reducible exact Y2 | refine Y1 (by simp only [Y5, Y4, Y6, qev, St.ev, St.put, D.cells, qload, Y9, qmk, C.cpy, TK.agg, Yb, liveR, C.st, C.cp, C.dat, storeA, putCells, Nat.reduceAdd, if_true, if_false, ne_eq, reduceCtorEq, Nat.le_refl, implies_true, tk50, tsz3, tk3, ZA]; rfl) ?_) ?_
          show Tri _ _ _ _
          refine Y3 ok0 rfl (by repeat first | with_reducible exact Y2 | refine Y1 (by simp only [Y5, Y4, Y6, qev, St.ev, St.put, D.cells, qload, Y9, qmk, C.cpy, TK.agg, C.st, C.cp, C.dat, storeA, putCells, Nat.reduceAdd, if_true, ne_eq, reduceCtorEq, Nat.le_refl, implies_true, tk50, tsz50, ZA]; rfl) ?_) ?_
          refine Yo (Yp (by simp only [outRes, Yi, resD, outD, outC, outCs, qload, Y9, qmk, C.cpy, TK.agg, C.cp, C.dat, Nat.reduceAdd, if_true, tk50, tsz50, ZA]; rfl) rfl (by simp) (by simp) ?_)
          (simp only [reduceIte, ↓reduceIte, Int.reduceEq, act0, actC, noText, flds_none, names_none, w11] at hQ; with_reducible exact hQ)
         ·
          simp only [decide_eq_false_iff_not] at w11
          refine Y3 ok0 rfl (by repeat first | with_reducible exact Y2 | refine Y1 (by simp only [Y5, Y4, Y6, qev, St.ev, St.put, qint, Yc, Ya, qbin, Y8, Y7, if_true, if_false, decide_false, w11, ZA]; rfl) ?_) ?_
          refine Yf rfl (fun w12 => ?_) (fun w12 => ?_)
          ·
           simp only [decide_eq_true_eq] at w12
           refine Y3 ok0 rfl (by repeat first | with_reducible exact Y2 | refine Y1 (by simp only [Y5, Y4, Y6, qev, St.ev, St.put, D.cells, qload, Y9, qmk, C.cpy, TK.agg, Yb, liveR, C.st, C.cp, C.dat, storeA, putCells, Nat.reduceAdd, if_true, if_false, decide_true, ne_eq, reduceCtorEq, Nat.reduceLeDiff, implies_true, tk50, tsz9, w12, tk9, ZA]; rfl) ?_) ?_
           refine Y3 ok0 rfl (by repeat first | with_reducible exact Y2 | refine Y1 (by simp only [Y5, Y4, Y6, qev, St.ev, St.put, D.cells, qload, Y9, qmk, C.cpy, TK.agg, Yb, liveR, C.st, C.cp, C.dat, storeA, putCells, Nat.reduceAdd, if_true, if_false, ne_eq, reduceCtorEq, Nat.reduceLeDiff, implies_true, tk50, tk28, tsz28, ZA]; rfl) ?_) ?_
           refine Yk ok0 rfl (by repeat first | with_reducible exact Y2 | refine Y1 (by simp only [Y5, Y4, Y6, qev, St.ev, St.put, D.cells, qload, Y9, qmk, C.cpy, TK.agg, Yb, liveR, C.st, C.cp, C.dat, storeA, putCells, Nat.reduceAdd, if_true, if_false, ne_eq, reduceCtorEq, Nat.reduceLeDiff, implies_true, tk50, tsz3, tk3, ZA]; rfl) ?_) ?_
           show Tri _ _ _ _
           refine Y3 ok0 rfl (by repeat first | with_reducible exact Y2 | refine Y1 (by simp only [Y5, Y4, Y6, qev, St.ev, St.put, D.cells, qload, Y9, qmk, C.cpy, TK.agg, C.st, C.cp, C.dat, storeA, putCells, Nat.reduceAdd, if_true, ne_eq, reduceCtorEq, Nat.le_refl, implies_true, tk50, tsz50, ZA]; rfl) ?_) ?_
           refine Yo (Yp (by simp only [outRes, Yi, resD, outD, outC, outCs, qload, Y9, qmk, C.cpy, TK.agg, C.cp, C.dat, Nat.reduceAdd, if_true, tk50, tsz50, ZA]; rfl) rfl (by simp) (by simp) ?_)
           (simp only [reduceIte, ↓reduceIte, Int.reduceEq, act0, actC, noText, flds_none, hf2, w12] at hQ; with_reducible exact hQ)
          ·
           simp only [decide_eq_false_iff_not] at w12
           refine Y3 ok0 rfl (by repeat first | with_reducible exact Y2 | refine Y1 (by simp only [Y5, Y4, Y6, qev, St.ev, St.put, qint, Yc, Ya, qbin, Y8, Y7, if_true, if_false, decide_false, w12, ZA]; rfl) ?_) ?_
           refine Yf rfl (fun w13 => ?_) (fun w13 => ?_)
           ·
            simp only [decide_eq_true_eq] at w13
            refine Y3 ok0 rfl (by repeat first | with_reducible exact Y2 | refine Y1 (by simp only [Y5, Y4, Y6, qev, St.ev, St.put, D.cells, qload, Y9, qmk, C.cpy, TK.agg, Yb, liveR, C.st, C.cp, C.dat, storeA, putCells, Nat.reduceAdd, if_true, if_false, decide_true, ne_eq, reduceCtorEq, Nat.reduceLeDiff, implies_true, tk50, tsz3, tk3, w13, ZA]; rfl) ?_) ?_
            refine Yk ok0 rfl (by repeat first | with_reducible exact Y2 | refine Y1 (by simp only [Y5, Y4, Y6, qev, St.ev, St.put, D.cells, qload, Y9, qmk, C.cpy, TK.agg, Yb, liveR, C.st, C.cp, C.dat, storeA, putCells, Nat.reduceAdd, if_true, if_false, ne_eq, reduceCtorEq, Nat.reduceLeDiff, implies_true, tk50, tsz3, tk3, ZA]; rfl) ?_) ?_
            show Tri _ _ _ _
            refine Y3 ok0 rfl (by repeat first | with_reducible exact Y2 | refine Y1 (by simp only [Y5, Y4, Y6, qev, St.ev, St.put, D.cells, qload, Y9, qmk, C.cpy, TK.agg, C.st, C.cp, C.dat, storeA, putCells, Nat.reduceAdd, if_true, ne_eq, reduceCtorEq, Nat.le_refl, implies_true, tk50, tsz50, ZA]; rfl) ?_) ?_
            refine Yo (Yp (by simp only [outRes, Yi, resD, outD, outC, outCs, qload, Y9, qmk, C.cpy, TK.agg, C.cp, C.dat, Nat.reduceAdd, if_true, tk50, tsz50, ZA]; rfl) rfl (by simp) (by simp) ?_)
            (simp only [reduceIte, ↓reduceIte, Int.reduceEq, act0, actC, noText, flds_none, names_none, w13] at hQ; with_reducible exact hQ)
           ·
            simp only [decide_eq_false_iff_not] at w13
            refine tri_skip ?_
            show Tri _ _ _ _
            refine Y3 ok0 rfl (by repeat first | with_reducible exact Y2 | refine Y1 (by simp only [Y5, Y4, Y6, qev, St.ev, St.put, D.cells, qload, Y9, qmk, C.cpy, TK.agg, C.st, C.cp, C.dat, storeA, putCells, Nat.reduceAdd, if_true, decide_false, ne_eq, reduceCtorEq, Nat.le_refl, implies_true, tk50, tsz50, w13, ZA]; rfl) ?_) ?_
            refine Yo (Yp (by simp only [outRes, Yi, resD, outD, outC, outCs, qload, Y9, qmk, C.cpy, TK.agg, C.cp, C.dat, Nat.reduceAdd, if_true, tk50, tsz50, ZA]; rfl) rfl (by simp) (by simp) ?_)
            (simp only [reduceIte, ↓reduceIte, act0, actC, noText, flds_none, names_none, w0, w1, w3, w4, w6, w8, w9, w10, w11, w12, w13] at hQ; with_reducible exact hQ)
end Go.Dl

namespace Go.Dl
open Go.RowKit
open Go.Proofs
set_option linter.unusedVariables false
set_option linter.unusedSectionVars false
/-- From a place on a list of tokens has these. -/
def hasK (l : List Tok) (i : Nat) (ks : List Tk) : Prop := ∃ r, (l.map tkT).drop i = ks ++ r
theorem hasK_l {l : List Tok} {i : Nat} {a b : List Tk} (h : hasK l i (a ++ b)) : hasK l i a := by
 obtain ⟨r, hr⟩ := h
 exact ⟨b ++ r, by rw [hr, List.append_assoc]⟩
theorem hasK_r {l : List Tok} {i : Nat} {a b : List Tk} (h : hasK l i (a ++ b)) : hasK l (i + a.length) b := by
 obtain ⟨r, hr⟩ := h
 refine ⟨r, ?_⟩
 rw [← List.drop_drop, hr, List.append_assoc, List.drop_left]
theorem hasK_at {l : List Tok} {i : Nat} {k : Tk} {ks : List Tk} (h : hasK l i (k :: ks)) : ∃ p, l[i]? = some (k.1, k.2, p) := by
 obtain ⟨r, hr⟩ := h
 have h1 : ((l.map tkT).drop i)[0]? = some k := by rw [hr]; rfl
 rw [List.getElem?_drop, Nat.add_zero, List.getElem?_map] at h1
 cases hl : l[i]? with
 | none => rw [hl] at h1; cases h1
 | some t =>
  rw [hl] at h1
  obtain ⟨a, b, p⟩ := t
  simp only [Z4, tkT, Z3] at h1
  subst h1
  exact ⟨p, rfl⟩
theorem hasK_s {l : List Tok} {i : Nat} {k : Tk} {ks : List Tk} (h : hasK l i (k :: ks)) : hasK l (i + 1) ks := hasK_r (a := [k]) h
theorem hasK_le {l : List Tok} {i : Nat} {ks : List Tk} (h : hasK l i ks) (hi : i ≤ l.length) : i + ks.length ≤ l.length := by
 obtain ⟨r, hr⟩ := h
 have := congrArg List.length hr
 rw [List.length_drop, List.length_map, List.length_append] at this
 omega
theorem joinK_cons {α : Type} (s : List Tk) (K : α → List Tk) (x : α) (r : List α) : joinK s ((x :: r).map K) = K x ++ r.flatMap (fun y => s ++ K y) := by
 rw [List.map_cons, joinK, List.flatMap_map]
section
variable {l : List Tok} {e bad : Int} (hb : bad < 0)
include hb
theorem takeK {i : Nat} {k : Int} {w : ByteArray} {ks : List Tk} (h : hasK l i ((k, w) :: ks)) : takeF l i e bad k = (w, i + 1, bad) := by
 obtain ⟨p, hp⟩ := hasK_at h
 exact take_hit hb hp rfl
theorem markK {i : Nat} {m : ByteArray} {ks : List Tk} (h : hasK l i ((3, m) :: ks)) : markF l i e bad m = (i + 1, bad) := by
 obtain ⟨p, hp⟩ := hasK_at h
 exact mark_hit hb hp
theorem peekK {i : Nat} {m : ByteArray} {ks : List Tk} (h : hasK l i ((3, m) :: ks)) : peekF l i bad m = true := by
 obtain ⟨p, hp⟩ := hasK_at h
 exact peek_hit hb hp
theorem peekK_no {i : Nat} {m : ByteArray} {k : Tk} {ks : List Tk} (h : hasK l i (k :: ks)) (hk : k.1 ≠ 3 ∨ strEq k.2 m = false) : peekF l i bad m = false := by
 obtain ⟨p, hp⟩ := hasK_at h
 unfold peekF
 rw [hp]
 dsimp only
 rcases hk with hk | hk
 · rw [decide_eq_false hk]; simp
 · rw [hk]; simp
theorem numK {i : Nat} {n : Int} {ks : List Tk} (hn : inR .i64 n = true) (h : hasK l i ((1, wholeB n) :: ks)) : numT l i e bad = (n, i + 1, bad) := by
 obtain ⟨p, hp⟩ := hasK_at h
 obtain ⟨h1, h2⟩ := i64_rng hn
 unfold numT
 rw [number_read h1 h2 hb hp]; rfl
theorem countK {i m : Nat} {ks : List Tk} (hm : m < 18446744073709551616) (h : hasK l i ((1, decB m) :: ks)) : countF l i e bad = ((m : Int), i + 1, bad) := by
 unfold countF
 rw [takeK hb h]
 dsimp only
 rw [if_pos hb, digits_dec hm, if_pos rfl]
theorem valK {i : Nat} {v : Val} {ks : List Tk} (h0 : 0 ≤ v.1) (h4 : v.1 ≤ 4) (hp : valPre v) (h : hasK l i (tkV v ++ ks)) : valueF l i e bad = (wantV v, i + (tkV v).length, bad) := by
 obtain ⟨hn1, hn2⟩ := i64_rng hp.1
 obtain ⟨hb1, hb2⟩ := u64_rng hp.2.1
 obtain ⟨k, fl, n, b, t⟩ := v
 dsimp only at h0 h4 hn1 hn2 hb1 hb2
 unfold tkV at h ⊢
 unfold wantV
 dsimp only at h ⊢
 by_cases k0 : k = 0
 · subst k0
   obtain ⟨p, hg⟩ := hasK_at h
   unfold valueF
   rw [if_neg (by omega), hg]
   show wordF l i e bad nullW = (val0, i + 1, bad)
   rw [wordF, if_pos (by decide +kernel)]
 by_cases k1 : k = 1
 · subst k1
   cases fl with
   | false =>
    obtain ⟨p, hg⟩ := hasK_at h
    unfold valueF
    rw [if_neg (by omega), hg]
    show wordF l i e bad falseW = ((1, false, 0, 0, noText), i + 1, bad)
    rw [wordF, if_neg (by decide +kernel), if_neg (by decide +kernel), if_pos (by decide +kernel)]
   | true =>
    obtain ⟨p, hg⟩ := hasK_at h
    unfold valueF
    rw [if_neg (by omega), hg]
    show wordF l i e bad trueW = ((1, true, 0, 0, noText), i + 1, bad)
    rw [wordF, if_neg (by decide +kernel), if_pos (by decide +kernel)]
 by_cases k2 : k = 2
 · subst k2
   rw [if_neg (by decide), if_neg (by decide), if_pos rfl] at h
   obtain ⟨p, hg⟩ := hasK_at h
   have hN := number_read (e := e) hn1 hn2 hb hg
   have hlen : (if (2 : Int) = 0 then [((0 : Int), nullW)] else if (2 : Int) = 1 then if fl = true then [(0, trueW)] else [(0, falseW)] else if (2 : Int) = 2 then [(1, wholeB n)] else if (2 : Int) = 3 then [(0, floatW), (3, lpar), (2, hexB b.toNat), (3, rpar)] else if (2 : Int) = 4 then [(2, t)] else [(0, noneW)]).length = 1 := by
    rw [if_neg (by decide), if_neg (by decide), if_pos rfl]; rfl
   rw [hlen]
   unfold valueF
   rw [if_neg (by omega), hg]
   dsimp only
   rw [if_pos rfl, hN]
   rfl
 by_cases k3 : k = 3
 · subst k3
   obtain ⟨c, rfl⟩ : ∃ c : Nat, b = (c : Int) := ⟨b.toNat, by omega⟩
   rw [if_neg (by decide), if_neg (by decide), if_neg (by decide), if_pos rfl, Int.toNat_natCast] at h
   have hlen : (if (3 : Int) = 0 then [((0 : Int), nullW)] else if (3 : Int) = 1 then if fl = true then [(0, trueW)] else [(0, falseW)] else if (3 : Int) = 2 then [(1, wholeB n)] else if (3 : Int) = 3 then [(0, floatW), (3, lpar), (2, hexB ((c : Nat) : Int).toNat), (3, rpar)] else if (3 : Int) = 4 then [(2, t)] else [(0, noneW)]).length = 4 := by
    rw [if_neg (by decide), if_neg (by decide), if_neg (by decide), if_pos rfl]; rfl
   rw [hlen]
   obtain ⟨p, g0⟩ := hasK_at h
   have a1 : flA l (i + 1) e bad = (i + 1 + 1, bad) := markK hb (hasK_s h)
   have a2 : flB l (i + 1) e bad = (hexB c, i + 1 + 1 + 1, bad) := by unfold flB; rw [a1]; exact takeK hb (hasK_s (hasK_s h))
   have a3 : markF l (i + 1 + 1 + 1) e bad rpar = (i + 1 + 1 + 1 + 1, bad) := markK hb (hasK_s (hasK_s (hasK_s h)))
   have hF : floatF l (i + 1) e bad = ((3, false, 0, (c : Int), noText), i + 1 + 1 + 1 + 1, bad) := by
    unfold floatF
    rw [a2]
    dsimp only
    rw [if_neg (by omega), bits_hex (by omega)]
    dsimp only
    rw [strEq_ne (show (hexB c).size ≠ noText.size from by show ((hexN 16 c).toArray).size ≠ 0; rw [List.size_toArray, hexN_len]; decide), if_neg (by simp), a3]
   unfold valueF
   rw [if_neg (by omega), g0]
   dsimp only
   rw [if_neg (by decide), if_neg (by decide), if_pos rfl]
   unfold wordF
   rw [if_neg (by decide +kernel), if_neg (by decide +kernel), if_neg (by decide +kernel), if_pos (by decide +kernel), hF]
   rfl
 · obtain rfl : k = 4 := by omega
   rw [if_neg (by decide), if_neg (by decide), if_neg (by decide), if_neg (by decide), if_pos rfl] at h
   obtain ⟨p, hg⟩ := hasK_at h
   unfold valueF
   rw [if_neg (by omega), hg]
   rfl
theorem namesGoK : ∀ (r : List ByteArray) (f c i : Nat) (acc : List ByteArray) {ks : List Tk}, hasK l i (r.flatMap (fun s => [((3 : Int), comma), (2, s)]) ++ (3, rbr) :: ks) → 0 < c → c + r.length ≤ 100 → r.length < f →
  namesGo l e f c i bad acc = (acc ++ r, i + (r.flatMap (fun s => [((3 : Int), comma), (2, s)])).length, bad)
 | [], f, c, i, acc, ks, h, hc, hl, hf => by
  obtain ⟨f, rfl⟩ : ∃ k, f = k + 1 := ⟨f - 1, by simp at hf; omega⟩
  rw [namesGo, if_pos hb, if_pos (peekK hb h)]
  simp
 | x :: r, f, c, i, acc, ks, h, hc, hl, hf => by
  obtain ⟨f, rfl⟩ : ∃ k, f = k + 1 := ⟨f - 1, by simp at hf; omega⟩
  rw [List.length_cons] at hl hf
  rw [List.flatMap_cons] at h ⊢
  have h2 := hasK_s h
  rw [namesGo, if_pos hb, peekK_no hb h (.inr (by decide +kernel)), if_neg (by simp), if_pos (by omega), if_neg (by omega), markK hb h]
  dsimp only
  rw [takeK hb h2]
  dsimp only
  rw [namesGoK r f (c + 1) (i + 1 + 1) (acc ++ [x]) (hasK_s h2) (by omega) (by omega) (by omega), List.append_assoc, List.length_append]
  simp only [Z9, Z10, List.singleton_append]
  rw [show i + 1 + 1 = i + (0 + 1 + 1) by omega, Nat.add_assoc]
theorem namesFK {i : Nat} {ns : List ByteArray} {ks : List Tk} (hn : ns.length ≤ 100) (h : hasK l i (namesK ns ++ ks)) : namesF l i e bad = (ns, i + (namesK ns).length, bad) := by
 have e0 : namesK ns ++ ks = (3, lbr) :: (joinK [(3, comma)] (ns.map fun s => [(2, s)]) ++ (3, rbr) :: ks) := by simp [namesK]
 have e1 : (namesK ns).length = (joinK [(3, comma)] (ns.map fun s => [((2 : Int), s)])).length + 2 := by simp [namesK]
 rw [e0] at h
 have h1 := hasK_s h
 have hR : namesR l i e bad = (ns, i + 1 + (joinK [(3, comma)] (ns.map fun s => [((2 : Int), s)])).length, bad) := by
  unfold namesR
  rw [markK hb h]
  dsimp only
  cases ns with
  | nil => exact (by rw [namesGo, if_pos hb, if_pos (peekK hb h1)]; rfl)
  | cons x r =>
   rw [List.length_cons] at hn
   rw [joinK_cons] at h1 ⊢
   rw [List.append_assoc] at h1
   rw [namesGo, if_pos hb, peekK_no hb h1 (.inl (show (2 : Int) ≠ 3 by decide)), if_neg (by simp), if_neg (by decide), takeK hb h1]
   dsimp only
   rw [namesGoK hb r 101 (0 + 1) (i + 1 + 1) ([] ++ [x]) (hasK_s h1) (by omega) (by omega) (by omega)]
   simp only [Z12, List.singleton_append, List.length_append, Z9, Z10]
   rw [show i + 1 + 1 = i + 1 + (0 + 1) by omega, Nat.add_assoc (i + 1), Nat.add_comm (0 + 1)]
 rw [names_eq hR]
 dsimp only
 rw [markK hb (hasK_r h1), e1]
 rw [show i + 1 + (joinK [(3, comma)] (ns.map fun s => [((2 : Int), s)])).length + 1 = i + ((joinK [(3, comma)] (ns.map fun s => [((2 : Int), s)])).length + 2) by omega]
end
end Go.Dl

namespace Go.Dl
open Go.RowKit
open Go.Proofs
set_option linter.unusedVariables false
set_option linter.unusedSectionVars false
def kindOk (f : Fld) : Prop := 0 ≤ f.2.1 ∧ f.2.1 ≤ 4
instance (f : Fld) : Decidable (kindOk f) := inferInstanceAs (Decidable (_ ∧ _))
/-- What is read of a field. -/
def wantFl (f : Fld) : Fld := (f.1, wantV f.2)
section
variable {l : List Tok} {e bad : Int} (hb : bad < 0)
include hb
theorem fldQ {i : Nat} {x : Fld} {ks : List Tk} (h : hasK l i (fldK x ++ ks)) : (takeF l i e bad 2).1 = x.1 ∧ paQ l e i bad = (i + 2, bad) ∧ hasK l (i + 2) (tkV x.2 ++ ks) := by
 have h' : hasK l i ((2, x.1) :: (3, eqm) :: (tkV x.2 ++ ks)) := h
 have h2 := hasK_s h'
 refine ⟨by rw [takeK hb h'], ?_, hasK_s h2⟩
 unfold paQ
 rw [takeK hb h']
 exact markK hb h2
theorem fldRead {i : Nat} {x : Fld} {ks : List Tk} (hp : valPre x.2) (hk : kindOk x) (h : hasK l i (fldK x ++ ks)) : paFld l e i bad = wantFl x ∧ (paV l e i bad).2 = (i + (fldK x).length, bad) ∧ hasK l (i + (fldK x).length) ks := by
 obtain ⟨h1, h2, h3⟩ := fldQ (e := e) hb h
 have hv : paV l e i bad = (wantV x.2, i + 2 + (tkV x.2).length, bad) := by
  unfold paV
  rw [h2]
  exact valK hb hk.1 hk.2 hp h3
 have hl : (fldK x).length = (tkV x.2).length + 2 := rfl
 refine ⟨?_, ?_, hasK_r h⟩
 · unfold paFld
   rw [h1, hv]; rfl
 · rw [hv, hl]
   show (_, _) = _
   rw [show i + 2 + (tkV x.2).length = i + ((tkV x.2).length + 2) by omega]
theorem paGoK : ∀ (r : List Fld) (f c i : Nat) (acc : List Fld) {ks : List Tk}, (∀ x ∈ r, valPre x.2 ∧ kindOk x) → hasK l i (r.flatMap (fun x => [((3 : Int), comma)] ++ fldK x) ++ (3, rpar) :: ks) → 0 < c → c + r.length ≤ 100 → r.length < f →
  paperGo l e f c i bad acc = (acc ++ r.map wantFl, i + (r.flatMap (fun x => [((3 : Int), comma)] ++ fldK x)).length, bad)
 | [], f, c, i, acc, ks, hx, h, hc, hl, hf => by
  obtain ⟨f, rfl⟩ : ∃ k, f = k + 1 := ⟨f - 1, by simp at hf; omega⟩
  rw [paperGo, if_pos hb, if_pos (peekK hb h)]
  simp
 | x :: r, f, c, i, acc, ks, hx, h, hc, hl, hf => by
  obtain ⟨f, rfl⟩ : ∃ k, f = k + 1 := ⟨f - 1, by simp at hf; omega⟩
  rw [List.length_cons] at hl hf
  rw [List.flatMap_cons, List.append_assoc, List.append_assoc] at h
  rw [List.flatMap_cons]
  have h2 := hasK_r h
  obtain ⟨g1, g2, g3⟩ := fldRead (e := e) hb (hx x (List.mem_cons_self ..)).1 (hx x (List.mem_cons_self ..)).2 h2
  rw [paperGo, if_pos hb, peekK_no hb h (.inr (by decide +kernel)), if_neg (by simp), if_pos (by omega), if_neg (by omega), markK hb h]
  dsimp only
  rw [show [((3 : Int), comma)].length = 1 from rfl] at g1 g2 g3
  rw [g1, g2]
  dsimp only
  rw [paGoK r f (c + 1) _ (acc ++ [wantFl x]) (fun y hy => hx y (List.mem_cons_of_mem _ hy)) g3 (by omega) (by omega) (by omega), List.append_assoc, List.length_append, List.length_append, List.map_cons]
  simp only [Z9, Z10, List.singleton_append]
  rw [show i + 1 + (fldK x).length + (List.flatMap (fun x => ((3 : Int), comma) :: fldK x) r).length = i + (0 + 1 + (fldK x).length + (List.flatMap (fun x => ((3 : Int), comma) :: fldK x) r).length) by omega]
theorem paperRK {i : Nat} {fs : List Fld} {ks : List Tk} (hn : fs.length ≤ 100) (hx : ∀ x ∈ fs, valPre x.2 ∧ kindOk x) (h : hasK l i (joinK [(3, comma)] (fs.map fldK) ++ (3, rpar) :: ks)) :
  paperGo l e 102 0 i bad [] = (fs.map wantFl, i + (joinK [(3, comma)] (fs.map fldK)).length, bad) := by
 cases fs with
 | nil => exact (by rw [paperGo, if_pos hb, if_pos (peekK hb h)]; rfl)
 | cons x r =>
  rw [List.length_cons] at hn
  rw [joinK_cons] at h ⊢
  rw [List.append_assoc] at h
  have h' : hasK l i ((2, x.1) :: ((3, eqm) :: (tkV x.2 ++ (r.flatMap (fun x => [((3 : Int), comma)] ++ fldK x) ++ (3, rpar) :: ks)))) := h
  obtain ⟨g1, g2, g3⟩ := fldRead (e := e) hb (hx x (List.mem_cons_self ..)).1 (hx x (List.mem_cons_self ..)).2 h
  rw [paperGo, if_pos hb, peekK_no hb h' (.inl (show (2 : Int) ≠ 3 by decide)), if_neg (by simp), if_neg (by decide), g1, g2]
  dsimp only
  rw [paGoK hb r 101 (0 + 1) _ ([] ++ [wantFl x]) (fun y hy => hx y (List.mem_cons_of_mem _ hy)) g3 (by omega) (by omega) (by omega), List.length_append, Nat.add_assoc]
  rfl
omit hb in
theorem paper_split {p : Paper} {ks : List Tk} : paperK p ++ ks = (2, p.1) :: (1, wholeB p.2.1) :: (3, lpar) :: (joinK [(3, comma)] (p.2.2.map fldK) ++ (3, rpar) :: ks) := by simp [paperK]
theorem paperM {i : Nat} {p : Paper} {ks : List Tk} (hc : inR .i64 p.2.1 = true) (h : hasK l i (paperK p ++ ks)) :
  (takeF l i e bad 2).1 = p.1 ∧ (paI l i e bad).1 = p.2.1 ∧ paM l i e bad = (i + 3, bad) ∧ hasK l (i + 3) (joinK [(3, comma)] (p.2.2.map fldK) ++ (3, rpar) :: ks) := by
 rw [paper_split] at h
 have h1 := hasK_s h
 have h2 := hasK_s h1
 have t1 := takeK (e := e) hb h
 have t2 : paI l i e bad = (p.2.1, i + 1 + 1, bad) := by unfold paI; rw [t1]; exact numK hb hc h1
 refine ⟨by rw [t1], by rw [t2], ?_, hasK_s h2⟩
 unfold paM
 rw [t2]
 exact markK hb h2
theorem paperFK {i : Nat} {p : Paper} {ks : List Tk} (hc : inR .i64 p.2.1 = true) (hn : p.2.2.length ≤ 100) (hx : ∀ x ∈ p.2.2, valPre x.2 ∧ kindOk x) (h : hasK l i (paperK p ++ ks)) :
  paperF l i e bad = ((p.1, p.2.1, p.2.2.map wantFl), i + (paperK p).length, bad) := by
 obtain ⟨m1, m2, m3, m4⟩ := paperM (e := e) hb hc h
 have hR : paperR l i e bad = (p.2.2.map wantFl, i + 3 + (joinK [(3, comma)] (p.2.2.map fldK)).length, bad) := by
  unfold paperR
  rw [m3]
  exact paperRK hb hn hx m4
 have e1 : (paperK p).length = (joinK [(3, comma)] (p.2.2.map fldK)).length + 4 := by simp [paperK]
 rw [paper_eq hR, m1, m2]
 dsimp only
 rw [markK hb (hasK_r m4), e1]
 rw [show i + 3 + (joinK [(3, comma)] (p.2.2.map fldK)).length + 1 = i + ((joinK [(3, comma)] (p.2.2.map fldK)).length + 4) by omega]
end
/-- One argument of a step, as it is read. -/
def setA (a : ActM) (b : ActM) (k : Int) : ActM :=
 if k = 0 then { b with id := a.id } else if k = 1 then { b with name := a.name } else if k = 2 then { b with names := some (a.names.getD []) }
 else if k = 3 then { b with n := a.n } else if k = 4 then { b with m := a.m } else if k = 5 then { b with keep := a.keep } else if k = 6 then { b with tear := a.tear }
 else if k = 7 then { b with draw := a.draw } else if k = 8 then { b with pid := a.pid, cls := a.cls, flds := some ((a.flds.getD []).map wantFl) } else b
/-- What a script can hold. -/
structure sayOk (a : ActM) : Prop where
 pre : actPre a
 fl : (a.flds.getD []).length ≤ 100
 nm : (a.names.getD []).length ≤ 100
def kindsOk (a : ActM) : Prop := ∀ x ∈ a.flds.getD [], kindOk x
theorem argK {l : List Tok} {e bad : Int} (hb : bad < 0) {a : ActM} (ha : sayOk a) {k : Int} (hk0 : 0 ≤ k) (hk8 : k ≤ 8) (hko : k = 8 → kindsOk a) (b : ActM) {i : Nat} {ks : List Tk} (h : hasK l i (argKs a k ++ ks)) : argT l e k b i bad = (setA a b k, i + (argKs a k).length, bad) := by
 have hp := ha.pre
 obtain ⟨k1, k2⟩ := u64_rng hp.keep
 unfold argKs at h ⊢
 unfold argT setA
 by_cases h0 : k = 0
 · rw [if_pos h0] at h; rw [if_pos h0, if_pos h0, if_pos h0, takeK hb h]; rfl
 rw [if_neg h0] at h; rw [if_neg h0, if_neg h0, if_neg h0]
 by_cases h1 : k = 1
 · rw [if_pos h1] at h; rw [if_pos h1, if_pos h1, if_pos h1, takeK hb h]; rfl
 rw [if_neg h1] at h; rw [if_neg h1, if_neg h1, if_neg h1]
 by_cases h2 : k = 2
 · rw [if_pos h2] at h; rw [if_pos h2, if_pos h2, if_pos h2, namesFK hb ha.nm h]
 rw [if_neg h2] at h; rw [if_neg h2, if_neg h2, if_neg h2]
 by_cases h3 : k = 3
 · rw [if_pos h3] at h; rw [if_pos h3, if_pos h3, if_pos h3, numK hb hp.n h]; rfl
 rw [if_neg h3] at h; rw [if_neg h3, if_neg h3, if_neg h3]
 by_cases h4 : k = 4
 · rw [if_pos h4] at h; rw [if_pos h4, if_pos h4, if_pos h4, numK hb hp.m h]; rfl
 rw [if_neg h4] at h; rw [if_neg h4, if_neg h4, if_neg h4]
 by_cases h5 : k = 5
 · rw [if_pos h5] at h; rw [if_pos h5, if_pos h5, if_pos h5, countK hb (by omega) h]
   rw [show ((a.keep.toNat : Nat) : Int) = a.keep by omega]; rfl
 rw [if_neg h5] at h; rw [if_neg h5, if_neg h5, if_neg h5]
 by_cases h6 : k = 6
 · rw [if_pos h6] at h; rw [if_pos h6, if_pos h6, if_pos h6, numK hb hp.tear h]; rfl
 rw [if_neg h6] at h; rw [if_neg h6, if_neg h6, if_neg h6]
 by_cases h7 : k = 7
 · rw [if_pos h7] at h; rw [if_pos h7, if_pos h7, if_pos h7, takeK hb h]; rfl
 rw [if_neg h7] at h; rw [if_neg h7, if_neg h7, if_neg h7]
 have h8 : k = 8 := by omega
 rw [if_pos h8, if_pos h8, paperFK hb hp.pap.2.1 ha.fl (fun x hx => ⟨(hp.pap.2.2.2 x hx).2, hko h8 x hx⟩) h]
theorem argsGoK {l : List Tok} {e bad : Int} (hb : bad < 0) {a : ActM} (ha : sayOk a) : ∀ (xs : List Int) (b : ActM) (i : Nat) {ks : List Tk}, (∀ k ∈ xs, 0 ≤ k ∧ k ≤ 8 ∧ (k = 8 → kindsOk a)) → hasK l i (xs.flatMap (argKs a) ++ ks) →
  argsGo l e xs b i bad = (xs.foldl (setA a) b, i + (xs.flatMap (argKs a)).length, bad)
 | [], b, i, ks, hx, h => rfl
 | k :: xs, b, i, ks, hx, h => by
  rw [List.flatMap_cons, List.append_assoc] at h
  obtain ⟨h1, h2, h3⟩ := hx k (List.mem_cons_self ..)
  rw [argsGo, argK hb ha h1 h2 h3 b h]
  dsimp only
  rw [argsGoK hb ha xs _ _ (fun y hy => hx y (List.mem_cons_of_mem _ hy)) (hasK_r h), List.flatMap_cons, List.length_append, Nat.add_assoc]
  rfl
theorem form_ix : ∀ k : Fin 16, 1 ≤ k.val → formIx (formB k.val) 16 0 = some k.val := by decide +kernel
/-- What is read of a step as it is said. -/
def readA (a : ActM) : ActM := (argsK a.kind).foldl (setA a) (act0 a.kind)
theorem argsK_in {k x : Int} (h : x ∈ argsK k) : 0 ≤ x ∧ x ≤ 8 ∧ (x = 8 → k = 1) := by
 unfold argsK at h
 (repeat' split at h) <;> simp at h <;> omega
theorem stepFK {l : List Tok} {e bad : Int} (hb : bad < 0) {a : ActM} (ha : sayOk a) (hk1 : 1 ≤ a.kind) (hk2 : a.kind ≤ 15) (hko : a.kind = 1 → kindsOk a) {i : Nat} {ks : List Tk} (h : hasK l i (stepK a ++ ks)) :
  stepF l i e bad = (readA a, i + (stepK a).length, bad) := by
 have e0 : stepK a ++ ks = (0, formB a.kind.toNat) :: ((argsK a.kind).flatMap (argKs a) ++ (3, semi) :: ks) := by simp [stepK]
 have e1 : (stepK a).length = ((argsK a.kind).flatMap (argKs a)).length + 2 := by simp [stepK]
 rw [e0] at h
 have h1 := hasK_s h
 have hW : stepW l i e bad = (formB a.kind.toNat, i + 1, bad) := takeK hb h
 have hix := form_ix ⟨a.kind.toNat, by omega⟩ (by show 1 ≤ a.kind.toNat; omega)
 dsimp only at hix
 have hkk : ((a.kind.toNat : Nat) : Int) = a.kind := by omega
 have hA : stepA l i e bad a.kind.toNat = (readA a, i + 1 + ((argsK a.kind).flatMap (argKs a)).length, bad) := by
  unfold stepA readA
  rw [hW, hkk]
  exact argsGoK hb ha _ _ _ (fun k hk => by
   obtain ⟨x1, x2, x3⟩ := argsK_in hk
   exact ⟨x1, x2, fun h8 => hko (x3 h8)⟩) h1
 rw [stepF_some (by rw [hW]; exact hix) hA]
 dsimp only
 rw [markK hb (hasK_r h1), e1]
 rw [show i + 1 + ((argsK a.kind).flatMap (argKs a)).length + 1 = i + (((argsK a.kind).flatMap (argKs a)).length + 2) by omega]
end Go.Dl

namespace Go.Dl
open Go.RowKit
open Go.Proofs
set_option linter.unusedSimpArgs false
set_option linter.unusedVariables false
theorem act_arg (H : List (Option Root)) (ρ : List Nat) (a : ActM) : argCs H ρ (actC false a) = some (actC false a, []) := by
 obtain ⟨a1, a2, a3, a4, a5, a6, a7, a8, a9, a10, a11, a12⟩ := a
 cases a4 <;> cases a7 <;> rfl
end Go.Dl

namespace Go.Dl
open Go.RowKit
open Go.Proofs
set_option linter.unusedVariables false
/-- A step that a script can say, and that is read again. -/
structure goodA (a : ActM) : Prop where
 say : sayOk a
 k1 : 1 ≤ a.kind
 k2 : a.kind ≤ 15
 kinds : a.kind = 1 → kindsOk a
theorem stepK_pos (a : ActM) : 0 < (stepK a).length := by simp [stepK]
theorem scriptNK {l : List Tok} {e : Int} : ∀ (ss : List ActM) (f i : Nat) (acc : List ActM) {ks : List Tk}, (∀ a ∈ ss, goodA a) → i ≤ l.length → hasK l i (ss.flatMap stepK ++ ks) →
  scriptN l e (f + ss.length) i (-1) acc = scriptN l e f (i + (ss.flatMap stepK).length) (-1) (acc ++ ss.map readA)
 | [], f, i, acc, ks, hg, hi, h => by simp
 | a :: ss, f, i, acc, ks, hg, hi, h => by
  rw [List.flatMap_cons, List.append_assoc] at h
  obtain ⟨h1, h2, h3, h4⟩ := hg a (List.mem_cons_self ..)
  have hs := stepK_pos a
  have hle := hasK_le (hasK_l h) hi
  rw [List.length_cons, ← Nat.add_assoc, scriptN, if_pos (by decide), if_pos (by omega), stepFK (by decide) h1 h2 h3 h4 h]
  dsimp only
  rw [scriptNK ss f _ _ (fun x hx => hg x (List.mem_cons_of_mem _ hx)) hle (hasK_r h), List.flatMap_cons, List.length_append, List.map_cons, List.append_assoc, Nat.add_assoc]
  rfl
theorem steps_len (ss : List ActM) : ss.length ≤ (ss.flatMap stepK).length := by
 induction ss with
 | nil => exact Nat.le_refl _
 | cons a ss ih =>
  have := stepK_pos a
  rw [List.flatMap_cons, List.length_append, List.length_cons]; omega
theorem scriptN_end {l : List Tok} {e : Int} (f : Nat) (acc : List ActM) (bad : Int) : scriptN l e f l.length bad acc = (acc, l.length, bad) := by
 cases f with
 | zero => rfl
 | succ f =>
  rw [scriptN]
  split
  · rw [if_neg (by omega)]
  · rfl
theorem toks_of {T : ByteArray} {ks : List Tk} (hT : T.size ≤ 65536) (h : lexK T 0 ks T.size) : ∃ l, l.map tkT = ks ∧ toksT T = (l, 0, 0) := by
 obtain ⟨l, hl, hx⟩ := h
 exact ⟨l, hl, toks_whole hT hx⟩
theorem hasK_0 {l : List Tok} {ks : List Tk} (h : l.map tkT = ks) : hasK l 0 ks := ⟨[], by rw [List.drop_zero, h, List.append_nil]⟩
/-- A text of steps is read as these steps. -/
theorem scriptK {T : ByteArray} (hT : T.size ≤ 65536) {ss : List ActM} (hg : ∀ a ∈ ss, goodA a) (h : lexK T 0 (ss.flatMap stepK) T.size) : scriptF T = (some (ss.map readA), 0, 0) := by
 obtain ⟨l, hl, ht⟩ := toks_of hT h
 have hlen : l.length = (ss.flatMap stepK).length := by rw [← hl, List.length_map]
 have hle := steps_len ss
 have hP : scriptP l T.size = (ss.map readA, l.length, -1) := by
  unfold scriptP
  have hh : hasK l 0 (ss.flatMap stepK ++ []) := by rw [List.append_nil]; exact hasK_0 hl
  have := scriptNK (e := (T.size : Int)) ss (l.length + 2 - ss.length) 0 [] hg (Nat.zero_le _) hh
  rw [show l.length + 2 - ss.length + ss.length = l.length + 2 by omega, Nat.zero_add, ← hlen, List.nil_append] at this
  rw [this, scriptN_end]
 have hr : scriptP (toksT T).1 T.size = (ss.map readA, l.length, -1) := by rw [ht]; exact hP
 exact script_ok (by rw [ht]) hr (show ¬ (0 : Int) ≤ -1 by decide)
theorem inT_whole (T : ByteArray) : inT T 0 T := ⟨by omega, fun j hj => by rw [Nat.zero_add]⟩
theorem lexK_print {T : ByteArray} {o : Nat} {a : ActM} (ha : goodA a) (hi : inT T o (printB a)) : lexK T o (stepK a) (o + (printB a).size) := lexK_step ha.k1 ha.k2 ha.say.pre hi
/-- A printed step is read again. -/
theorem print_read {a : ActM} (ha : goodA a) (hz : (printB a).size ≤ 65536) : scriptF (printB a) = (some [readA a], 0, 0) := by
 have h := lexK_print ha (inT_whole (printB a))
 rw [Nat.zero_add] at h
 exact scriptK (ss := [a]) hz (by intro x hx; rw [List.mem_singleton.1 hx]; exact ha) (by simpa using h)
theorem print_none {a : ActM} (h : ¬ (1 ≤ a.kind ∧ a.kind ≤ 15)) : printB a = ⟨#[]⟩ := by
 unfold printB
 split
 · rw [if_neg (by omega)]
 · rfl
end Go.Dl
