/- What the walks share: no function known; numbers and texts as cells; Plain law: stable orders of lists; two lists in order, of the same classes, are one; Plain law: fates in order, as the law puts them and as the program sorts them; gaps; Fates as cells; whether one is open; the closure of Order; the order; Plain law: two that stand side by side change places; blocks are rotated by changes of blocks; halves by searches; The walk of swapRange: two blocks change places. -/
import Derived.Test.YtnflfefopdieiaaE06
set_option linter.all false
namespace Go.Dl
open Go.RowKit
open Go.Proofs
set_option linter.unusedSimpArgs false
set_option linter.unusedVariables false
theorem ok0 : FsOK Try.prog Fs.none := ⟨fun _ _ h => (by cases h), fun _ _ h => (by cases h)⟩
/-- A text's bytes. -/
def B (s : ByteArray) : List UInt8 := s.data.toList
theorem last_get (H : List (Option Root)) (x : Option Root) : (H ++ [x])[H.length]? = some x := by simp
theorem last_set (T : List (Option Root)) (x y : Option Root) : (T ++ [x]).set T.length y = T ++ [y] := by
  rw [List.set_append_right _ _ (Nat.le_refl _), Nat.sub_self]; rfl
end Go.Dl

namespace Go.Dl
set_option linter.unusedVariables false
set_option linter.unusedSectionVars false
/-- An order by 'less' (equals are apart). -/
structure Swo {α : Type} (lt : α → α → Bool) : Prop where
  irr : ∀ x, lt x x = false
  tra : ∀ x y z, lt x y = true → lt y z = true → lt x z = true
  neg : ∀ x y z, lt x z = true → lt x y = true ∨ lt y z = true
section
variable {α : Type} {lt : α → α → Bool}
def eqv (lt : α → α → Bool) (x y : α) : Bool := !lt x y && !lt y x
def inOrd (lt : α → α → Bool) (l : List α) : Prop := l.Pairwise fun x y => lt y x = false
/-- The classes of two lists are alike. -/
def alike (lt : α → α → Bool) (l l' : List α) : Prop := ∀ x, l.filter (eqv lt x) = l'.filter (eqv lt x)
theorem alike_refl (l : List α) : alike lt l l := fun _ => rfl
theorem alike_symm {l l' : List α} (h : alike lt l l') : alike lt l' l := fun x => (h x).symm
theorem alike_trans {a b c : List α} (h1 : alike lt a b) (h2 : alike lt b c) : alike lt a c := fun x => (h1 x).trans (h2 x)
theorem alike_app {a a' b b' : List α} (h1 : alike lt a a') (h2 : alike lt b b') : alike lt (a ++ b) (a' ++ b') := fun x => by
  rw [List.filter_append, List.filter_append, h1 x, h2 x]
variable (hs : Swo lt)
include hs
theorem lt_asym {x y : α} (h : lt x y = true) : lt y x = false := by
  cases h2 : lt y x with
  | false => rfl
  | true => have := hs.tra x y x h h2; rw [hs.irr] at this; cases this
theorem eqv_self (x : α) : eqv lt x x = true := by unfold eqv; rw [hs.irr]; rfl
theorem eqv_sep {x u v : α} (hu : eqv lt x u = true) (hv : eqv lt x v = true) : lt u v = false ∧ lt v u = false := by
  unfold eqv at hu hv
  simp only [Bool.and_eq_true, Bool.not_eq_true'] at hu hv
  refine ⟨?_, ?_⟩
  · cases h : lt u v with
    | false => rfl
    | true => rcases hs.neg u x v h with h1 | h1
              · rw [hu.2] at h1; cases h1
              · rw [hv.1] at h1; cases h1
  · cases h : lt v u with
    | false => rfl
    | true => rcases hs.neg v x u h with h1 | h1
              · rw [hv.2] at h1; cases h1
              · rw [hu.1] at h1; cases h1
theorem alike_mem {l l' : List α} (h : alike lt l l') {x : α} (hx : x ∈ l) : x ∈ l' := by
  have h1 : x ∈ l.filter (eqv lt x) := List.mem_filter.2 ⟨hx, eqv_self hs x⟩
  rw [h x] at h1
  exact (List.mem_filter.1 h1).1
theorem alike_nil {l : List α} (h : alike lt [] l) : l = [] := by
  cases l with
  | nil => rfl
  | cons x l => have := alike_mem hs (alike_symm h) (List.mem_cons_self .. : x ∈ x :: l); cases this
/-- Two lists in order, of the same classes, are one. -/
theorem ord_one : ∀ {l l' : List α}, inOrd lt l → inOrd lt l' → alike lt l l' → l = l'
  | [], l', h1, h2, h => (alike_nil hs h).symm
  | x :: r, [], h1, h2, h => absurd (alike_nil hs (alike_symm h)) (by simp)
  | x :: r, y :: s, h1, h2, h => by
    have h1' := List.pairwise_cons.1 h1
    have h2' := List.pairwise_cons.1 h2
    have hx : lt x y = false := by
      have := alike_mem hs h (List.mem_cons_self .. : x ∈ x :: r)
      rcases List.mem_cons.1 this with rfl | hm
      · exact hs.irr _
      · exact h2'.1 x hm
    have hy : lt y x = false := by
      have := alike_mem hs (alike_symm h) (List.mem_cons_self .. : y ∈ y :: s)
      rcases List.mem_cons.1 this with rfl | hm
      · exact hs.irr _
      · exact h1'.1 y hm
    have he : eqv lt x y = true := by unfold eqv; rw [hx, hy]; rfl
    have hxy := h x
    rw [List.filter_cons_of_pos (eqv_self hs x), List.filter_cons_of_pos he] at hxy
    obtain ⟨rfl, _⟩ := List.cons.inj hxy
    have ht : alike lt r s := fun z => by
      have := h z
      by_cases hz : eqv lt z x = true
      · rw [List.filter_cons_of_pos hz, List.filter_cons_of_pos hz] at this
        exact (List.cons.inj this).2
      · rw [List.filter_cons_of_neg hz, List.filter_cons_of_neg hz] at this
        exact this
    rw [ord_one h1'.2 h2'.2 ht]
theorem alike_swap {u v : List α} (h : ∀ x ∈ u, ∀ y ∈ v, lt y x = true) : alike lt (u ++ v) (v ++ u) := fun z => by
  rw [List.filter_append, List.filter_append]
  by_cases hu : ∃ x ∈ u, eqv lt z x = true
  · obtain ⟨x, hx, hzx⟩ := hu
    have hv : v.filter (eqv lt z) = [] := List.filter_eq_nil_iff.2 fun y hy hzy => by
      have := eqv_sep hs hzx hzy
      rw [h x hx y hy] at this
      cases this.2
    rw [hv]; simp
  · have hu' : u.filter (eqv lt z) = [] := List.filter_eq_nil_iff.2 fun x hx hzx => hu ⟨x, hx, hzx⟩
    rw [hu']; simp
omit hs in
/-- A list in order, equals as they stood. -/
def insL (lt : α → α → Bool) (x : α) : List α → List α
  | [] => [x]
  | y :: r => if lt y x = true then y :: insL lt x r else x :: y :: r
omit hs in
def srt (lt : α → α → Bool) : List α → List α
  | [] => []
  | x :: r => insL lt x (srt lt r)
theorem insL_split (x : α) : ∀ l : List α, inOrd lt l → ∃ a b, l = a ++ b ∧ insL lt x l = a ++ x :: b ∧ (∀ y ∈ a, lt y x = true) ∧ (∀ y ∈ b, lt y x = false)
  | [], _ => ⟨[], [], rfl, rfl, (by intro y hy; cases hy), (by intro y hy; cases hy)⟩
  | y :: r, h => by
    have h' := List.pairwise_cons.1 h
    by_cases hy : lt y x = true
    · obtain ⟨a, b, e1, e2, e3, e4⟩ := insL_split x r h'.2
      refine ⟨y :: a, b, by rw [e1]; rfl, by rw [insL, if_pos hy, e2]; rfl, ?_, e4⟩
      intro z hz
      rcases List.mem_cons.1 hz with rfl | hz
      · exact hy
      · exact e3 z hz
    · refine ⟨[], y :: r, rfl, by rw [insL, if_neg hy]; rfl, (by intro z hz; cases hz), ?_⟩
      intro z hz
      rcases List.mem_cons.1 hz with rfl | hz
      · simpa using hy
      · cases hzx : lt z x with
        | false => rfl
        | true =>
          rcases hs.neg z y x hzx with h1 | h1
          · rw [h'.1 z hz] at h1; cases h1
          · exact absurd h1 hy
omit hs in
theorem ord_app {a b : List α} : inOrd lt (a ++ b) ↔ inOrd lt a ∧ inOrd lt b ∧ ∀ x ∈ a, ∀ y ∈ b, lt y x = false := List.pairwise_append
theorem insL_ord {x : α} {l : List α} (h : inOrd lt l) : inOrd lt (insL lt x l) ∧ alike lt (x :: l) (insL lt x l) := by
  obtain ⟨a, b, rfl, e2, e3, e4⟩ := insL_split hs x l h
  rw [e2]
  obtain ⟨o1, o2, o3⟩ := ord_app.1 h
  refine ⟨ord_app.2 ⟨o1, List.pairwise_cons.2 ⟨e4, o2⟩, ?_⟩, ?_⟩
  · intro y hy z hz
    rcases List.mem_cons.1 hz with rfl | hz
    · exact lt_asym hs (e3 y hy)
    · exact o3 y hy z hz
  · have h1 := alike_swap hs (u := [x]) (v := a) (fun y hy z hz => by rw [List.mem_singleton.1 hy]; exact e3 z hz)
    have h2 := alike_app h1 (alike_refl (lt := lt) b)
    simpa using h2
theorem srt_ord : ∀ l : List α, inOrd lt (srt lt l) ∧ alike lt l (srt lt l)
  | [] => ⟨List.Pairwise.nil, alike_refl _⟩
  | x :: r => by
    obtain ⟨h1, h2⟩ := srt_ord r
    obtain ⟨h3, h4⟩ := insL_ord hs (x := x) h1
    exact ⟨h3, alike_trans (alike_app (alike_refl [x]) h2) h4⟩
theorem srt_one {l l' : List α} (h1 : inOrd lt l') (h2 : alike lt l l') : srt lt l = l' := by
  obtain ⟨h3, h4⟩ := srt_ord hs l
  exact ord_one hs h3 h1 (alike_trans (alike_symm h4) h2)
theorem srt_mem {l : List α} {x : α} : x ∈ srt lt l ↔ x ∈ l := by
  obtain ⟨_, h⟩ := srt_ord hs l
  exact ⟨fun hx => alike_mem hs (alike_symm h) hx, fun hx => alike_mem hs h hx⟩
omit hs in
theorem insL_len (x : α) (l : List α) : (insL lt x l).length = l.length + 1 := by
  induction l with
  | nil => rfl
  | cons y r ih => unfold insL; split <;> simp [ih]
omit hs in
theorem srt_len (l : List α) : (srt lt l).length = l.length := by
  induction l with
  | nil => rfl
  | cons x r ih => rw [srt, insL_len, ih, List.length_cons]
/-- One step of the symmetric merge: the two middle parts change places, the halves are put in order. -/
theorem srt_sym {a1 a2 b1 b2 : List α} (ha : inOrd lt (a1 ++ a2)) (hb : inOrd lt (b1 ++ b2)) (h1 : ∀ x ∈ a2, ∀ y ∈ b1, lt y x = true) (h2 : ∀ x ∈ a1, ∀ y ∈ b2, lt y x = false) :
    srt lt ((a1 ++ a2) ++ (b1 ++ b2)) = srt lt (a1 ++ b1) ++ srt lt (a2 ++ b2) := by
  obtain ⟨ha1, ha2, ha3⟩ := ord_app.1 ha
  obtain ⟨hb1, hb2, hb3⟩ := ord_app.1 hb
  obtain ⟨s1, s2⟩ := srt_ord hs (a1 ++ b1)
  obtain ⟨t1, t2⟩ := srt_ord hs (a2 ++ b2)
  refine srt_one hs (ord_app.2 ⟨s1, t1, ?_⟩) ?_
  · intro x hx y hy
    rcases List.mem_append.1 ((srt_mem hs).1 hx) with hx | hx <;> rcases List.mem_append.1 ((srt_mem hs).1 hy) with hy | hy
    · exact ha3 x hx y hy
    · exact h2 x hx y hy
    · exact lt_asym hs (h1 y hy x hx)
    · exact hb3 x hx y hy
  · have e := alike_swap hs h1
    have e2 : alike lt ((a1 ++ a2) ++ (b1 ++ b2)) ((a1 ++ b1) ++ (a2 ++ b2)) := by
      have := alike_app (alike_app (alike_refl (lt := lt) a1) e) (alike_refl (lt := lt) b2)
      simpa [List.append_assoc] using this
    exact alike_trans e2 (alike_app s2 t2)
theorem srt_id {l : List α} (h : inOrd lt l) : srt lt l = l := srt_one hs h (alike_refl _)
theorem srt_nest (a b : List α) : srt lt (srt lt a ++ srt lt b) = srt lt (a ++ b) := by
  obtain ⟨h1, h2⟩ := srt_ord hs (srt lt a ++ srt lt b)
  have h3 := alike_app (srt_ord hs a).2 (srt_ord hs b).2
  exact (srt_one hs h1 (alike_trans h3 h2)).symm
/-- One is put behind a list in order: ahead of the greater ones at its end. -/
theorem srt_snoc {a b : List α} {x : α} (h : inOrd lt (a ++ b)) (h1 : ∀ y ∈ a, lt x y = false) (h2 : ∀ y ∈ b, lt x y = true) : srt lt ((a ++ b) ++ [x]) = a ++ x :: b := by
  obtain ⟨o1, o2, o3⟩ := ord_app.1 h
  refine srt_one hs (ord_app.2 ⟨o1, List.pairwise_cons.2 ⟨fun y hy => lt_asym hs (h2 y hy), o2⟩, ?_⟩) ?_
  · intro y hy z hz
    rcases List.mem_cons.1 hz with rfl | hz
    · exact h1 y hy
    · exact o3 y hy z hz
  · have e := alike_swap hs (u := b) (v := [x]) (fun y hy z hz => by rw [List.mem_singleton.1 hz]; exact h2 y hy)
    have := alike_app (alike_refl (lt := lt) a) e
    simpa using this
/-- One is put ahead of a list in order: behind the lesser ones at its beginning. -/
theorem srt_cons {a b : List α} {x : α} (h : inOrd lt (a ++ b)) (h1 : ∀ y ∈ a, lt y x = true) (h2 : ∀ y ∈ b, lt y x = false) : srt lt (x :: (a ++ b)) = a ++ x :: b := by
  obtain ⟨o1, o2, o3⟩ := ord_app.1 h
  refine srt_one hs (ord_app.2 ⟨o1, List.pairwise_cons.2 ⟨h2, o2⟩, ?_⟩) ?_
  · intro y hy z hz
    rcases List.mem_cons.1 hz with rfl | hz
    · exact lt_asym hs (h1 y hy)
    · exact o3 y hy z hz
  · have e := alike_swap hs (u := [x]) (v := a) (fun y hy z hz => by rw [List.mem_singleton.1 hy]; exact h1 z hz)
    have := alike_app e (alike_refl (lt := lt) b)
    simpa using this
end
end Go.Dl

namespace Go.Dl
set_option linter.unusedVariables false
set_option linter.unusedSectionVars false
/-- A fate: number, name, when it is due, held, gone, ever due. -/
abbrev FateM := Int × ByteArray × Int × Bool × Bool × Bool
def ltF (f g : FateM) : Bool := decide (f.2.2.1 < g.2.2.1) || (decide (f.2.2.1 = g.2.2.1) && decide (f.1 < g.1))
theorem ltF_iff (f g : FateM) : ltF f g = true ↔ f.2.2.1 < g.2.2.1 ∨ (f.2.2.1 = g.2.2.1 ∧ f.1 < g.1) := by simp [ltF]
theorem swoF : Swo ltF where
  irr := fun x => by
    cases h : ltF x x with
    | false => rfl
    | true => rw [ltF_iff] at h; omega
  tra := fun x y z h1 h2 => by rw [ltF_iff] at *; omega
  neg := fun x y z h => by
    rw [ltF_iff] at h
    by_cases h1 : ltF x y = true
    · exact .inl h1
    · right
      rw [ltF_iff] at h1 ⊢
      omega
def openF (f : FateM) : Bool := f.2.2.2.2.2 && !f.2.2.2.1 && !f.2.2.2.2.1
def keepF (until' : Int) (f : FateM) : Bool := openF f && decide (f.2.2.1 ≤ until')
def orderF (l : List FateM) (u : Int) : List FateM := srt ltF (l.filter (keepF u))
section
variable {α : Type} {lt : α → α → Bool}
/-- How far back one goes that is put into a list from its end. -/
def backN (lt : α → α → Bool) (f : α) (out : List α) : Nat → Nat
  | 0 => 0
  | k + 1 => if (out[k]?.map (lt f)) = some true then backN lt f out k else k + 1
theorem backN_le (f : α) (out : List α) : ∀ k, backN lt f out k ≤ k
  | 0 => Nat.le_refl 0
  | k + 1 => by
    rw [backN]
    split
    · exact Nat.le_trans (backN_le f out k) (Nat.le_succ k)
    · exact Nat.le_refl _
theorem backN_gt (f : α) (out : List α) : ∀ k i, backN lt f out k ≤ i → i < k → out[i]?.map (lt f) = some true
  | 0, i, h1, h2 => by omega
  | k + 1, i, h1, h2 => by
    rw [backN] at h1
    split at h1
    · rename_i hk
      by_cases h : i < k
      · exact backN_gt f out k i h1 h
      · have : i = k := by omega
        subst this
        exact hk
    · omega
theorem backN_stop (f : α) (out : List α) : ∀ k, 0 < backN lt f out k → ¬ out[backN lt f out k - 1]?.map (lt f) = some true
  | 0, h => by cases h
  | k + 1, h => by
    rw [backN] at h ⊢
    by_cases hc : out[k]?.map (lt f) = some true
    · rw [if_pos hc] at h ⊢
      exact backN_stop f out k h
    · rw [if_neg hc]
      exact hc
variable (hs : Swo lt)
include hs
/-- One is put into a list in order, from its end. -/
theorem back_srt {out : List α} (h : inOrd lt out) (f : α) : out.take (backN lt f out out.length) ++ f :: out.drop (backN lt f out out.length) = srt lt (out ++ [f]) := by
  generalize hp : backN lt f out out.length = p
  have hle := backN_le (lt := lt) f out out.length
  have hgt := backN_gt (lt := lt) f out out.length
  have hst := backN_stop (lt := lt) f out out.length
  rw [hp] at hle hgt hst
  have hsplit := List.take_append_drop p out
  have h' := h
  rw [← hsplit] at h'
  have := srt_snoc hs (x := f) h' ?_ ?_
  · rw [hsplit] at this
    exact this.symm
  · intro y hy
    obtain ⟨i, hi, he⟩ := List.getElem_of_mem hy
    rw [List.length_take] at hi
    rw [List.getElem_take] at he
    have hp0 : 0 < p := by omega
    have hz := hst hp0
    have hpl : p - 1 < out.length := by omega
    rw [List.getElem?_eq_getElem hpl, Option.map_some, Option.some.injEq] at hz
    cases hfy : lt f y with
    | false => rfl
    | true =>
      rcases hs.neg f out[p - 1] y hfy with h1 | h1
      · exact absurd h1 hz
      · by_cases hip : i = p - 1
        · subst hip
          rw [he] at h1
          rw [hs.irr] at h1; cases h1
        · have := (List.pairwise_iff_getElem.1 h) i (p - 1) (by omega) hpl (by omega)
          rw [he] at this
          rw [this] at h1; cases h1
  · intro y hy
    obtain ⟨i, hi, he⟩ := List.getElem_of_mem hy
    rw [List.length_drop] at hi
    rw [List.getElem_drop] at he
    have := hgt (p + i) (by omega) (by omega)
    rw [List.getElem?_eq_getElem (by omega), he, Option.map_some, Option.some.injEq] at this
    exact this
end
def putF (out : List FateM) (f : FateM) : List FateM := out.take (backN ltF f out out.length) ++ f :: out.drop (backN ltF f out out.length)
def lawGo (u : Int) : List FateM → List FateM → List FateM
  | [], out => out
  | f :: r, out => lawGo u r (if keepF u f = true then putF out f else out)
theorem lawGo_eq (u : Int) : ∀ (l acc : List FateM), lawGo u l (srt ltF acc) = srt ltF (acc ++ l.filter (keepF u))
  | [], acc => by rw [lawGo]; simp
  | f :: r, acc => by
    rw [lawGo]
    by_cases h : keepF u f = true
    · rw [if_pos h, List.filter_cons_of_pos h]
      have h1 : putF (srt ltF acc) f = srt ltF (acc ++ [f]) := by
        unfold putF
        rw [back_srt swoF (srt_ord swoF acc).1]
        exact srt_nest swoF acc [f]
      rw [h1, lawGo_eq u r (acc ++ [f])]
      simp
    · rw [if_neg h, List.filter_cons_of_neg h, lawGo_eq u r acc]
/-- The law's order is the program's. -/
theorem law_order (u : Int) (l : List FateM) : lawGo u l [] = orderF l u := by
  have := lawGo_eq u l []
  simpa [srt, orderF] using this
end Go.Dl

namespace Go.Dl
open Go.RowKit
open Go.Proofs
set_option linter.unusedSimpArgs false
set_option linter.unusedVariables false
def fateC (f : FateM) : List C := [.v (.int .i64 f.1), .v (.string f.2.1), .v (.int .i64 f.2.2.1), .v (.bool f.2.2.2.1), .v (.bool f.2.2.2.2.1), .v (.bool f.2.2.2.2.2)]
theorem fateC_inj {f g : FateM} (h : fateC f = fateC g) : f = g := by
  obtain ⟨a, b, c, d, e, i⟩ := f
  obtain ⟨a', b', c', d', e', i'⟩ := g
  simp only [fateC, List.cons.injEq, C.v.injEq, Value.int.injEq, Value.string.injEq, Value.bool.injEq, true_and, and_true] at h
  obtain ⟨rfl, rfl, rfl, rfl, rfl, rfl⟩ := h
  rfl
theorem fates_inj : ∀ {l m : List FateM}, l.map fateC = m.map fateC → l = m
  | [], [], _ => rfl
  | [], _ :: _, h => by cases h
  | _ :: _, [], h => by cases h
  | x :: l, y :: m, h => by
    simp only [Z24, List.cons.injEq] at h
    rw [fateC_inj h.1, fates_inj h.2]
theorem fate_cp (f : FateM) : (fateC f).all C.cp = true := rfl
theorem fate_dat (f : FateM) : (fateC f).all C.dat = true := rfl
theorem fate_nb (f : FateM) : (fateC f).all C.nb = true := rfl
theorem fate_len (f : FateM) : (fateC f).length = 6 := rfl
theorem fate_cpy (f : FateM) : (fateC f).map C.cpy = fateC f := rfl
theorem fate_st (H : List (Option Root)) (f : FateM) : (fateC f).all (C.st H) = true := rfl
theorem fate_ni (f : FateM) : C.niRow (fateC f) = true := rfl
theorem fates_ni : ∀ l : List FateM, C.niRows (l.map fateC) = true
  | [] => rfl
  | f :: l => by rw [List.map_cons, C.niRows, fate_ni, fates_ni l]; rfl
theorem fates_cp (l : List FateM) : ((l.map fateC).all fun row => row.all C.cp) = true := by simp [fate_cp]
theorem fates_dat (l : List FateM) : ((l.map fateC).all fun row => row.all C.dat) = true := by simp [fate_dat]
/-- Which comes first. -/
def ordF (f g : FateM) : Int := if ltF f g = true then -1 else if decide (f.2.2.1 = g.2.2.1) && decide (f.1 = g.1) then 0 else 1
theorem ordF_lt (f g : FateM) : decide (ordF f g < 0) = ltF f g := by
  unfold ordF
  cases ltF f g with
  | true => rfl
  | false =>
    simp only [Z7, if_false]
    split <;> rfl
noncomputable def pOpen : List D → Option D := famP (fun _ : FateM => True) (fun f => [.agg (fateC f)]) (fun f => dB (openF f))
set_option maxRecDepth 100000 in
theorem meets17 : Meets Try.prog 17 (pureS pOpen) := by
  refine Yn (show Try.prog.funcs[17]? = some Try.f17 by kernel_rfl) rfl (n := 15) rfl (rs := [ResultVar.tmp 2]) rfl ?_
  rintro ⟨s, n, t, h, g, e⟩ _ Q hQ
  simp only [fateC]
  unfold openF at hQ
  refine Y3 ok0 rfl (by repeat first | with_reducible exact Y2 | refine Y1 (by simp only [runf, Y5, Y4, Y6, evsA, qev, St.ev, St.put, St.with, D.cells, D.cell, D.int, boxA, qload, Y9, qmk, C.cpy, TK.agg, qnil, Yb, qpart, qfield, qindexAddr, qindex, qpick, qint, Yc, qstr, isEq, qeq, Ya, qbin, eqC, eqCs, qun, qconv, qbounds, qslice, qlen, qext, omap, q2, qbuiltin, liveR, C.st, C.cp, C.dat, storeA, putCells, Y8, Y7, List.replicate, List.singleton_append, Option.bind_none, Bool.and_true, Bool.true_and, Nat.reduceAdd, Nat.reduceSub, Nat.reduceMul, Nat.reduceEqDiff, reduceIte, if_true, if_false, and_true, true_and, decide_true, decide_false, Bool.not_true, Bool.not_false, cond_true, cond_false, forall_const, ne_eq, Array.toList, reduceCtorEq, Int.reduceLT, Int.reduceLE, Int.reduceToNat, Nat.reduceLeDiff, Nat.reduceLT, Nat.le_refl, Nat.reduceBNe, Nat.reduceBEq, implies_true, Nat.add_zero, bne_self_eq_false, beq_self_eq_true, Bool.or_true, Bool.or_false, Bool.true_or, Bool.false_or, Bool.false_and, Bool.and_false, nb_map, nb_nil, nb_cons, nb_app, C.nb, callP, callO, rootsOf, rootsW, argFs, argF, Fs.none, dedup, rootsD, rootsC, List.flatMap_cons, List.flatMap_nil, List.filterMap_cons, List.filterMap_nil, Yg, argD, argC, argCs, List.contains_nil, List.contains_cons, objsAt, objOf, List.idxOf?, List.findIdx?, List.findIdx?.go, setObjs, D.ni, D.ni1, C.ni, C.niRow, settle, settle1, settleC, settleDs, Yl, List.isEmpty_cons, dI, dB, ZA]; rfl) ?_) ?_
  by_cases a0 : ((e) = true)
  ·
    by_cases a1 : ((h) = true)
    ·
      refine Y3 ok0 rfl (by repeat first | with_reducible exact Y2 | refine Y1 (by simp only [runf, Y5, Y4, Y6, evsA, qev, St.ev, St.put, St.with, D.cells, D.cell, D.int, boxA, qload, Y9, qmk, C.cpy, TK.agg, qnil, Yb, qpart, qfield, qindexAddr, qindex, qpick, qint, Yc, qstr, isEq, qeq, Ya, qbin, eqC, eqCs, qun, qconv, qbounds, qslice, qlen, qext, omap, q2, qbuiltin, liveR, C.st, C.cp, C.dat, storeA, putCells, Y8, Y7, List.replicate, List.singleton_append, Option.bind_none, Bool.and_true, Bool.true_and, Nat.reduceAdd, Nat.reduceSub, Nat.reduceMul, Nat.reduceEqDiff, reduceIte, if_true, if_false, and_true, true_and, decide_true, decide_false, Bool.not_true, Bool.not_false, cond_true, cond_false, forall_const, ne_eq, Array.toList, reduceCtorEq, Int.reduceLT, Int.reduceLE, Int.reduceToNat, Nat.reduceLeDiff, Nat.reduceLT, Nat.le_refl, Nat.reduceBNe, Nat.reduceBEq, implies_true, Nat.add_zero, bne_self_eq_false, beq_self_eq_true, Bool.or_true, Bool.or_false, Bool.true_or, Bool.false_or, Bool.false_and, Bool.and_false, nb_map, nb_nil, nb_cons, nb_app, C.nb, callP, callO, rootsOf, rootsW, argFs, argF, Fs.none, dedup, rootsD, rootsC, List.flatMap_cons, List.flatMap_nil, List.filterMap_cons, List.filterMap_nil, Yg, argD, argC, argCs, List.contains_nil, List.contains_cons, objsAt, objOf, List.idxOf?, List.findIdx?, List.findIdx?.go, setObjs, D.ni, D.ni1, C.ni, C.niRow, settle, settle1, settleC, settleDs, Yl, List.isEmpty_cons, dI, dB, tk28, tsz4, tk4, a0, a1, ZA]; rfl) ?_) ?_
      refine Yo (Yp (by simp only [outRes, Yi, resD, Yh, outD, outC, outCs, runf, Y5, Y4, Y6, evsA, qev, St.ev, St.put, St.with, D.cells, D.cell, D.int, boxA, qload, Y9, qmk, C.cpy, TK.agg, qnil, Yb, qpart, qfield, qindexAddr, qindex, qpick, qint, Yc, qstr, isEq, qeq, Ya, qbin, eqC, eqCs, qun, qconv, qbounds, qslice, qlen, qext, omap, q2, qbuiltin, liveR, C.st, C.cp, C.dat, storeA, putCells, Y8, Y7, List.replicate, List.singleton_append, Option.bind_none, Bool.and_true, Bool.true_and, Nat.reduceAdd, Nat.reduceSub, Nat.reduceMul, Nat.reduceEqDiff, reduceIte, if_true, if_false, and_true, true_and, decide_true, decide_false, Bool.not_true, Bool.not_false, cond_true, cond_false, forall_const, ne_eq, Array.toList, reduceCtorEq, Int.reduceLT, Int.reduceLE, Int.reduceToNat, Nat.reduceLeDiff, Nat.reduceLT, Nat.le_refl, Nat.reduceBNe, Nat.reduceBEq, implies_true, Nat.add_zero, bne_self_eq_false, beq_self_eq_true, Bool.or_true, Bool.or_false, Bool.true_or, Bool.false_or, Bool.false_and, Bool.and_false, nb_map, nb_nil, nb_cons, nb_app, C.nb, dI, dB, tk28, tsz4, tk4, ZA]; rfl) rfl (by simp) (by simp) ?_)
      (simp only [if_true, if_false, decide_true, decide_false, Bool.and_true, Bool.true_and, Bool.false_and, Bool.and_false, Bool.or_true, Bool.true_or, Bool.false_or, Bool.or_false, and_true, true_and, and_false, false_and, or_true, true_or, or_false, false_or, not_true_eq_false, not_false_eq_true, Bool.not_true, Bool.not_false, reduceIte, Z7, ↓reduceIte, cond_true, cond_false, Int.reduceEq, Int.reduceLT, Int.reduceLE, Int.reduceNeg, Nat.reduceEqDiff, reduceCtorEq, a0, a1, Bool.not_true, Bool.not_false] at hQ; exact hQ)
    ·
      refine Y3 ok0 rfl (by repeat first | with_reducible exact Y2 | refine Y1 (by simp only [runf, Y5, Y4, Y6, evsA, qev, St.ev, St.put, St.with, D.cells, D.cell, D.int, boxA, qload, Y9, qmk, C.cpy, TK.agg, qnil, Yb, qpart, qfield, qindexAddr, qindex, qpick, qint, Yc, qstr, isEq, qeq, Ya, qbin, eqC, eqCs, qun, qconv, qbounds, qslice, qlen, qext, omap, q2, qbuiltin, liveR, C.st, C.cp, C.dat, storeA, putCells, Y8, Y7, List.replicate, List.singleton_append, Option.bind_none, Bool.and_true, Bool.true_and, Nat.reduceAdd, Nat.reduceSub, Nat.reduceMul, Nat.reduceEqDiff, reduceIte, if_true, if_false, and_true, true_and, decide_true, decide_false, Bool.not_true, Bool.not_false, cond_true, cond_false, forall_const, ne_eq, Array.toList, reduceCtorEq, Int.reduceLT, Int.reduceLE, Int.reduceToNat, Nat.reduceLeDiff, Nat.reduceLT, Nat.le_refl, Nat.reduceBNe, Nat.reduceBEq, implies_true, Nat.add_zero, bne_self_eq_false, beq_self_eq_true, Bool.or_true, Bool.or_false, Bool.true_or, Bool.false_or, Bool.false_and, Bool.and_false, nb_map, nb_nil, nb_cons, nb_app, C.nb, callP, callO, rootsOf, rootsW, argFs, argF, Fs.none, dedup, rootsD, rootsC, List.flatMap_cons, List.flatMap_nil, List.filterMap_cons, List.filterMap_nil, Yg, argD, argC, argCs, List.contains_nil, List.contains_cons, objsAt, objOf, List.idxOf?, List.findIdx?, List.findIdx?.go, setObjs, D.ni, D.ni1, C.ni, C.niRow, settle, settle1, settleC, settleDs, Yl, List.isEmpty_cons, dI, dB, tk28, tsz4, tk4, a0, eq_false_of_ne_true a1, ZA]; rfl) ?_) ?_
      refine Yo (Yp (by simp only [outRes, Yi, resD, Yh, outD, outC, outCs, runf, Y5, Y4, Y6, evsA, qev, St.ev, St.put, St.with, D.cells, D.cell, D.int, boxA, qload, Y9, qmk, C.cpy, TK.agg, qnil, Yb, qpart, qfield, qindexAddr, qindex, qpick, qint, Yc, qstr, isEq, qeq, Ya, qbin, eqC, eqCs, qun, qconv, qbounds, qslice, qlen, qext, omap, q2, qbuiltin, liveR, C.st, C.cp, C.dat, storeA, putCells, Y8, Y7, List.replicate, List.singleton_append, Option.bind_none, Bool.and_true, Bool.true_and, Nat.reduceAdd, Nat.reduceSub, Nat.reduceMul, Nat.reduceEqDiff, reduceIte, if_true, if_false, and_true, true_and, decide_true, decide_false, Bool.not_true, Bool.not_false, cond_true, cond_false, forall_const, ne_eq, Array.toList, reduceCtorEq, Int.reduceLT, Int.reduceLE, Int.reduceToNat, Nat.reduceLeDiff, Nat.reduceLT, Nat.le_refl, Nat.reduceBNe, Nat.reduceBEq, implies_true, Nat.add_zero, bne_self_eq_false, beq_self_eq_true, Bool.or_true, Bool.or_false, Bool.true_or, Bool.false_or, Bool.false_and, Bool.and_false, nb_map, nb_nil, nb_cons, nb_app, C.nb, dI, dB, tk28, tsz4, tk4, ZA]; rfl) rfl (by simp) (by simp) ?_)
      (simp only [if_true, if_false, decide_true, decide_false, Bool.and_true, Bool.true_and, Bool.false_and, Bool.and_false, Bool.or_true, Bool.true_or, Bool.false_or, Bool.or_false, and_true, true_and, and_false, false_and, or_true, true_or, or_false, false_or, not_true_eq_false, not_false_eq_true, Bool.not_true, Bool.not_false, reduceIte, Z7, ↓reduceIte, cond_true, cond_false, Int.reduceEq, Int.reduceLT, Int.reduceLE, Int.reduceNeg, Nat.reduceEqDiff, reduceCtorEq, a0, eq_false_of_ne_true a1, Bool.not_true, Bool.not_false] at hQ; exact hQ)
  ·
    refine Y3 ok0 rfl (by repeat first | with_reducible exact Y2 | refine Y1 (by simp only [runf, Y5, Y4, Y6, evsA, qev, St.ev, St.put, St.with, D.cells, D.cell, D.int, boxA, qload, Y9, qmk, C.cpy, TK.agg, qnil, Yb, qpart, qfield, qindexAddr, qindex, qpick, qint, Yc, qstr, isEq, qeq, Ya, qbin, eqC, eqCs, qun, qconv, qbounds, qslice, qlen, qext, omap, q2, qbuiltin, liveR, C.st, C.cp, C.dat, storeA, putCells, Y8, Y7, List.replicate, List.singleton_append, Option.bind_none, Bool.and_true, Bool.true_and, Nat.reduceAdd, Nat.reduceSub, Nat.reduceMul, Nat.reduceEqDiff, reduceIte, if_true, if_false, and_true, true_and, decide_true, decide_false, Bool.not_true, Bool.not_false, cond_true, cond_false, forall_const, ne_eq, Array.toList, reduceCtorEq, Int.reduceLT, Int.reduceLE, Int.reduceToNat, Nat.reduceLeDiff, Nat.reduceLT, Nat.le_refl, Nat.reduceBNe, Nat.reduceBEq, implies_true, Nat.add_zero, bne_self_eq_false, beq_self_eq_true, Bool.or_true, Bool.or_false, Bool.true_or, Bool.false_or, Bool.false_and, Bool.and_false, nb_map, nb_nil, nb_cons, nb_app, C.nb, callP, callO, rootsOf, rootsW, argFs, argF, Fs.none, dedup, rootsD, rootsC, List.flatMap_cons, List.flatMap_nil, List.filterMap_cons, List.filterMap_nil, Yg, argD, argC, argCs, List.contains_nil, List.contains_cons, objsAt, objOf, List.idxOf?, List.findIdx?, List.findIdx?.go, setObjs, D.ni, D.ni1, C.ni, C.niRow, settle, settle1, settleC, settleDs, Yl, List.isEmpty_cons, dI, dB, tk28, tsz4, tk4, eq_false_of_ne_true a0, ZA]; rfl) ?_) ?_
    refine Yo (Yp (by simp only [outRes, Yi, resD, Yh, outD, outC, outCs, runf, Y5, Y4, Y6, evsA, qev, St.ev, St.put, St.with, D.cells, D.cell, D.int, boxA, qload, Y9, qmk, C.cpy, TK.agg, qnil, Yb, qpart, qfield, qindexAddr, qindex, qpick, qint, Yc, qstr, isEq, qeq, Ya, qbin, eqC, eqCs, qun, qconv, qbounds, qslice, qlen, qext, omap, q2, qbuiltin, liveR, C.st, C.cp, C.dat, storeA, putCells, Y8, Y7, List.replicate, List.singleton_append, Option.bind_none, Bool.and_true, Bool.true_and, Nat.reduceAdd, Nat.reduceSub, Nat.reduceMul, Nat.reduceEqDiff, reduceIte, if_true, if_false, and_true, true_and, decide_true, decide_false, Bool.not_true, Bool.not_false, cond_true, cond_false, forall_const, ne_eq, Array.toList, reduceCtorEq, Int.reduceLT, Int.reduceLE, Int.reduceToNat, Nat.reduceLeDiff, Nat.reduceLT, Nat.le_refl, Nat.reduceBNe, Nat.reduceBEq, implies_true, Nat.add_zero, bne_self_eq_false, beq_self_eq_true, Bool.or_true, Bool.or_false, Bool.true_or, Bool.false_or, Bool.false_and, Bool.and_false, nb_map, nb_nil, nb_cons, nb_app, C.nb, dI, dB, tk28, tsz4, tk4, ZA]; rfl) rfl (by simp) (by simp) ?_)
    (simp only [if_true, if_false, decide_true, decide_false, Bool.and_true, Bool.true_and, Bool.false_and, Bool.and_false, Bool.or_true, Bool.true_or, Bool.false_or, Bool.or_false, and_true, true_and, and_false, false_and, or_true, true_or, or_false, false_or, not_true_eq_false, not_false_eq_true, Bool.not_true, Bool.not_false, reduceIte, Z7, ↓reduceIte, cond_true, cond_false, Int.reduceEq, Int.reduceLT, Int.reduceLE, Int.reduceNeg, Nat.reduceEqDiff, reduceCtorEq, eq_false_of_ne_true a0, Bool.not_true, Bool.not_false] at hQ; exact hQ)
theorem open_at (f : FateM) : pOpen [.agg (fateC f)] = some (dB (openF f)) := Ym (fun x y h => by
  simp only [List.cons.injEq, D.agg.injEq, and_true] at h
  rw [fateC_inj h]) f trivial rfl
theorem open_at2 (s : Int) (n : ByteArray) (t : Int) (h g e : Bool) : pOpen [.agg [.v (.int .i64 s), .v (.string n), .v (.int .i64 t), .v (.bool h), .v (.bool g), .v (.bool e)]] = some (dB (openF (s, n, t, h, g, e))) := open_at (s, n, t, h, g, e)
noncomputable def FsFa : Fs := { Fs.none with pure := fun k => if k = 17 then some pOpen else none }
theorem okFa : FsOK Try.prog FsFa := by
  refine ⟨fun k f h => ?_, fun _ _ h => (by cases h)⟩
  simp only [FsFa] at h
  split at h
  · rename_i hk; subst hk; cases h; exact ⟨by kernel_rfl, meets17⟩
  · cases h
/-- The closure of Order: whether one is left out. -/
def boxU (u : Int) : Obj := ⟨1, [[.v (.int .i64 u)]]⟩
noncomputable def oOut : List D → List Obj → Option (D × List Obj) := famO (fun _ : FateM × Int => True) (fun x => ([.agg (fateC x.1), .c (.p 0 0 0)], [boxU x.2])) (fun x => (dB (!(keepF x.2 x.1)), [boxU x.2]))
theorem out_at (f : FateM) (u : Int) : oOut [.agg (fateC f), .c (.p 0 0 0)] [⟨1, [[.v (.int .i64 u)]]⟩] = some (dB (!(keepF u f)), [⟨1, [[.v (.int .i64 u)]]⟩]) := famO_at (fun x y h => by
  simp only [Prod.mk.injEq, List.cons.injEq, D.agg.injEq, and_true, boxU, Obj.mk.injEq, C.v.injEq, Value.int.injEq, true_and] at h
  obtain ⟨h1, h2⟩ := h
  rw [Prod.ext (fateC_inj h1) h2]) (f, u) trivial rfl
set_option maxRecDepth 100000 in
theorem meets16 : Meets Try.prog 16 (detS oOut) := by
  refine meets_famO (show Try.prog.funcs[16]? = some Try.f16 by kernel_rfl) rfl (n := 13) rfl (rs := [ResultVar.tmp 3]) rfl ?_
  rintro ⟨⟨s, n, t, h, g, e⟩, u⟩ _ Q hQ
  have hO := open_at2 s n t h g e
  unfold keepF at hQ
  dsimp only at hQ
  simp only [fateC, boxU] at hQ ⊢
  generalize openF (s, n, t, h, g, e) = o at hO hQ
  refine Y3 okFa rfl (by repeat first | with_reducible exact Y2 | refine Y1 (by simp only [runf, Y5, Y4, Y6, evsA, qev, St.ev, St.put, St.with, D.cells, D.cell, D.int, boxA, qload, Y9, qmk, C.cpy, TK.agg, qnil, Yb, qpart, qfield, qindexAddr, qindex, qpick, qint, Yc, qstr, isEq, qeq, Ya, qbin, eqC, eqCs, qun, qconv, qbounds, qslice, qlen, qext, omap, q2, qbuiltin, liveR, C.st, C.cp, C.dat, storeA, putCells, Y8, Y7, List.replicate, List.singleton_append, Option.bind_none, Bool.and_true, Bool.true_and, Nat.reduceAdd, Nat.reduceSub, Nat.reduceMul, Nat.reduceEqDiff, reduceIte, if_true, if_false, and_true, true_and, decide_true, decide_false, Bool.not_true, Bool.not_false, cond_true, cond_false, forall_const, ne_eq, Array.toList, reduceCtorEq, Int.reduceLT, Int.reduceLE, Int.reduceToNat, Nat.reduceLeDiff, Nat.reduceLT, Nat.le_refl, Nat.reduceBNe, Nat.reduceBEq, implies_true, Nat.add_zero, bne_self_eq_false, beq_self_eq_true, Bool.or_true, Bool.or_false, Bool.true_or, Bool.false_or, Bool.false_and, Bool.and_false, nb_map, nb_nil, nb_cons, nb_app, C.nb, callP, callO, rootsOf, rootsW, argFs, argF, Fs.none, dedup, rootsD, rootsC, List.flatMap_cons, List.flatMap_nil, List.filterMap_cons, List.filterMap_nil, Yg, argD, argC, argCs, List.contains_nil, List.contains_cons, objsAt, objOf, List.idxOf?, List.findIdx?, List.findIdx?.go, setObjs, D.ni, D.ni1, C.ni, C.niRow, settle, settle1, settleC, settleDs, Yl, List.isEmpty_cons, dI, dB, FsFa, hO, ZA]; rfl) ?_) ?_
  by_cases a0 : ((o) = true)
  ·
    refine Y3 okFa rfl (by repeat first | with_reducible exact Y2 | refine Y1 (by simp only [runf, Y5, Y4, Y6, evsA, qev, St.ev, St.put, St.with, D.cells, D.cell, D.int, boxA, qload, Y9, qmk, C.cpy, TK.agg, qnil, Yb, qpart, qfield, qindexAddr, qindex, qpick, qint, Yc, qstr, isEq, qeq, Ya, qbin, eqC, eqCs, qun, qconv, qbounds, qslice, qlen, qext, omap, q2, qbuiltin, liveR, C.st, C.cp, C.dat, storeA, putCells, Y8, Y7, List.replicate, List.singleton_append, Option.bind_none, Bool.and_true, Bool.true_and, Nat.reduceAdd, Nat.reduceSub, Nat.reduceMul, Nat.reduceEqDiff, reduceIte, if_true, if_false, and_true, true_and, decide_true, decide_false, Bool.not_true, Bool.not_false, cond_true, cond_false, forall_const, ne_eq, Array.toList, reduceCtorEq, Int.reduceLT, Int.reduceLE, Int.reduceToNat, Nat.reduceLeDiff, Nat.reduceLT, Nat.le_refl, Nat.reduceBNe, Nat.reduceBEq, implies_true, Nat.add_zero, bne_self_eq_false, beq_self_eq_true, Bool.or_true, Bool.or_false, Bool.true_or, Bool.false_or, Bool.false_and, Bool.and_false, nb_map, nb_nil, nb_cons, nb_app, C.nb, callP, callO, rootsOf, rootsW, argFs, argF, Fs.none, dedup, rootsD, rootsC, List.flatMap_cons, List.flatMap_nil, List.filterMap_cons, List.filterMap_nil, Yg, argD, argC, argCs, List.contains_nil, List.contains_cons, objsAt, objOf, List.idxOf?, List.findIdx?, List.findIdx?.go, setObjs, D.ni, D.ni1, C.ni, C.niRow, settle, settle1, settleC, settleDs, Yl, List.isEmpty_cons, dI, dB, FsFa, hO, tk28, tsz28, tsz3, a0, tk3, ZA]; rfl) ?_) ?_
    refine Yo (Yp (by simp only [outRes, Yi, resD, Yh, outD, outC, outCs, runf, Y5, Y4, Y6, evsA, qev, St.ev, St.put, St.with, D.cells, D.cell, D.int, boxA, qload, Y9, qmk, C.cpy, TK.agg, qnil, Yb, qpart, qfield, qindexAddr, qindex, qpick, qint, Yc, qstr, isEq, qeq, Ya, qbin, eqC, eqCs, qun, qconv, qbounds, qslice, qlen, qext, omap, q2, qbuiltin, liveR, C.st, C.cp, C.dat, storeA, putCells, Y8, Y7, List.replicate, List.singleton_append, Option.bind_none, Bool.and_true, Bool.true_and, Nat.reduceAdd, Nat.reduceSub, Nat.reduceMul, Nat.reduceEqDiff, reduceIte, if_true, if_false, and_true, true_and, decide_true, decide_false, Bool.not_true, Bool.not_false, cond_true, cond_false, forall_const, ne_eq, Array.toList, reduceCtorEq, Int.reduceLT, Int.reduceLE, Int.reduceToNat, Nat.reduceLeDiff, Nat.reduceLT, Nat.le_refl, Nat.reduceBNe, Nat.reduceBEq, implies_true, Nat.add_zero, bne_self_eq_false, beq_self_eq_true, Bool.or_true, Bool.or_false, Bool.true_or, Bool.false_or, Bool.false_and, Bool.and_false, nb_map, nb_nil, nb_cons, nb_app, C.nb, dI, dB, FsFa, hO, tk28, tsz28, tsz3, tk3, ZA]; rfl) rfl (by simp) (by simp) ?_)
    simp only [Z12, Z23, Z15]
    (have hd : decide (t ≤ u) = !decide (u < t) := (by by_cases hx : u < t <;> simp [hx] <;> omega); simp only [if_true, if_false, decide_true, decide_false, Bool.and_true, Bool.true_and, Bool.false_and, Bool.and_false, Bool.or_true, Bool.true_or, Bool.false_or, Bool.or_false, and_true, true_and, and_false, false_and, or_true, true_or, or_false, false_or, not_true_eq_false, not_false_eq_true, Bool.not_true, Bool.not_false, reduceIte, Z7, ↓reduceIte, cond_true, cond_false, Int.reduceEq, Int.reduceLT, Int.reduceLE, Int.reduceNeg, Nat.reduceEqDiff, reduceCtorEq, a0, Bool.not_true, Bool.not_false, hd, Bool.not_not] at hQ; exact hQ)
  ·
    refine Y3 okFa rfl (by repeat first | with_reducible exact Y2 | refine Y1 (by simp only [runf, Y5, Y4, Y6, evsA, qev, St.ev, St.put, St.with, D.cells, D.cell, D.int, boxA, qload, Y9, qmk, C.cpy, TK.agg, qnil, Yb, qpart, qfield, qindexAddr, qindex, qpick, qint, Yc, qstr, isEq, qeq, Ya, qbin, eqC, eqCs, qun, qconv, qbounds, qslice, qlen, qext, omap, q2, qbuiltin, liveR, C.st, C.cp, C.dat, storeA, putCells, Y8, Y7, List.replicate, List.singleton_append, Option.bind_none, Bool.and_true, Bool.true_and, Nat.reduceAdd, Nat.reduceSub, Nat.reduceMul, Nat.reduceEqDiff, reduceIte, if_true, if_false, and_true, true_and, decide_true, decide_false, Bool.not_true, Bool.not_false, cond_true, cond_false, forall_const, ne_eq, Array.toList, reduceCtorEq, Int.reduceLT, Int.reduceLE, Int.reduceToNat, Nat.reduceLeDiff, Nat.reduceLT, Nat.le_refl, Nat.reduceBNe, Nat.reduceBEq, implies_true, Nat.add_zero, bne_self_eq_false, beq_self_eq_true, Bool.or_true, Bool.or_false, Bool.true_or, Bool.false_or, Bool.false_and, Bool.and_false, nb_map, nb_nil, nb_cons, nb_app, C.nb, callP, callO, rootsOf, rootsW, argFs, argF, Fs.none, dedup, rootsD, rootsC, List.flatMap_cons, List.flatMap_nil, List.filterMap_cons, List.filterMap_nil, Yg, argD, argC, argCs, List.contains_nil, List.contains_cons, objsAt, objOf, List.idxOf?, List.findIdx?, List.findIdx?.go, setObjs, D.ni, D.ni1, C.ni, C.niRow, settle, settle1, settleC, settleDs, Yl, List.isEmpty_cons, dI, dB, FsFa, hO, tk28, tsz28, tsz3, eq_false_of_ne_true a0, ZA]; rfl) ?_) ?_
    refine Yo (Yp (by simp only [outRes, Yi, resD, Yh, outD, outC, outCs, runf, Y5, Y4, Y6, evsA, qev, St.ev, St.put, St.with, D.cells, D.cell, D.int, boxA, qload, Y9, qmk, C.cpy, TK.agg, qnil, Yb, qpart, qfield, qindexAddr, qindex, qpick, qint, Yc, qstr, isEq, qeq, Ya, qbin, eqC, eqCs, qun, qconv, qbounds, qslice, qlen, qext, omap, q2, qbuiltin, liveR, C.st, C.cp, C.dat, storeA, putCells, Y8, Y7, List.replicate, List.singleton_append, Option.bind_none, Bool.and_true, Bool.true_and, Nat.reduceAdd, Nat.reduceSub, Nat.reduceMul, Nat.reduceEqDiff, reduceIte, if_true, if_false, and_true, true_and, decide_true, decide_false, Bool.not_true, Bool.not_false, cond_true, cond_false, forall_const, ne_eq, Array.toList, reduceCtorEq, Int.reduceLT, Int.reduceLE, Int.reduceToNat, Nat.reduceLeDiff, Nat.reduceLT, Nat.le_refl, Nat.reduceBNe, Nat.reduceBEq, implies_true, Nat.add_zero, bne_self_eq_false, beq_self_eq_true, Bool.or_true, Bool.or_false, Bool.true_or, Bool.false_or, Bool.false_and, Bool.and_false, nb_map, nb_nil, nb_cons, nb_app, C.nb, dI, dB, FsFa, hO, tk28, tsz28, tsz3, ZA]; rfl) rfl (by simp) (by simp) ?_)
    simp only [Z12, Z23, Z15]
    (simp only [if_true, if_false, decide_true, decide_false, Bool.and_true, Bool.true_and, Bool.false_and, Bool.and_false, Bool.or_true, Bool.true_or, Bool.false_or, Bool.or_false, and_true, true_and, and_false, false_and, or_true, true_or, or_false, false_or, not_true_eq_false, not_false_eq_true, Bool.not_true, Bool.not_false, reduceIte, Z7, ↓reduceIte, cond_true, cond_false, Int.reduceEq, Int.reduceLT, Int.reduceLE, Int.reduceNeg, Nat.reduceEqDiff, reduceCtorEq, eq_false_of_ne_true a0, Bool.not_true, Bool.not_false] at hQ; exact hQ)
/-- The order. -/
noncomputable def pOrd : List D → Option D := famP (fun _ : FateM × FateM => True) (fun x => [.agg (fateC x.1), .agg (fateC x.2)]) (fun x => dI (ordF x.1 x.2))
theorem ord_at (f g : FateM) : pOrd [.agg (fateC f), .agg (fateC g)] = some (dI (ordF f g)) := Ym (fun x y h => by
  simp only [List.cons.injEq, D.agg.injEq, and_true] at h
  rw [Prod.ext (fateC_inj h.1) (fateC_inj h.2)]) (f, g) trivial rfl
set_option maxRecDepth 100000 in
theorem meets19 : Meets Try.prog 19 (pureS pOrd) := by
  refine Yn (show Try.prog.funcs[19]? = some Try.f19 by kernel_rfl) rfl (n := 38) rfl (rs := [ResultVar.tmp 4]) rfl ?_
  rintro ⟨⟨s, n, t, h, g, e⟩, ⟨s2, n2, t2, h2, g2, e2⟩⟩ _ Q hQ
  simp only [fateC]
  unfold ordF ltF at hQ
  dsimp only at hQ
  refine Y3 ok0 rfl (by repeat first | with_reducible exact Y2 | refine Y1 (by simp only [runf, Y5, Y4, Y6, evsA, qev, St.ev, St.put, St.with, D.cells, D.cell, D.int, boxA, qload, Y9, qmk, C.cpy, TK.agg, qnil, Yb, qpart, qfield, qindexAddr, qindex, qpick, qint, Yc, qstr, isEq, qeq, Ya, qbin, eqC, eqCs, qun, qconv, qbounds, qslice, qlen, qext, omap, q2, qbuiltin, liveR, C.st, C.cp, C.dat, storeA, putCells, Y8, Y7, List.replicate, List.singleton_append, Option.bind_none, Bool.and_true, Bool.true_and, Nat.reduceAdd, Nat.reduceSub, Nat.reduceMul, Nat.reduceEqDiff, reduceIte, if_true, if_false, and_true, true_and, decide_true, decide_false, Bool.not_true, Bool.not_false, cond_true, cond_false, forall_const, ne_eq, Array.toList, reduceCtorEq, Int.reduceLT, Int.reduceLE, Int.reduceToNat, Nat.reduceLeDiff, Nat.reduceLT, Nat.le_refl, Nat.reduceBNe, Nat.reduceBEq, implies_true, Nat.add_zero, bne_self_eq_false, beq_self_eq_true, Bool.or_true, Bool.or_false, Bool.true_or, Bool.false_or, Bool.false_and, Bool.and_false, nb_map, nb_nil, nb_cons, nb_app, C.nb, callP, callO, rootsOf, rootsW, argFs, argF, Fs.none, dedup, rootsD, rootsC, List.flatMap_cons, List.flatMap_nil, List.filterMap_cons, List.filterMap_nil, Yg, argD, argC, argCs, List.contains_nil, List.contains_cons, objsAt, objOf, List.idxOf?, List.findIdx?, List.findIdx?.go, setObjs, D.ni, D.ni1, C.ni, C.niRow, settle, settle1, settleC, settleDs, Yl, List.isEmpty_cons, dI, dB, ZA]; rfl) ?_) ?_
  refine seq_in (tri_block ?_)
  by_cases a0 : (t < t2)
  ·
    refine Y3 ok0 rfl (by repeat first | with_reducible exact Y2 | refine Y1 (by simp only [runf, Y5, Y4, Y6, evsA, qev, St.ev, St.put, St.with, D.cells, D.cell, D.int, boxA, qload, Y9, qmk, C.cpy, TK.agg, qnil, Yb, qpart, qfield, qindexAddr, qindex, qpick, qint, Yc, qstr, isEq, qeq, Ya, qbin, eqC, eqCs, qun, qconv, qbounds, qslice, qlen, qext, omap, q2, qbuiltin, liveR, C.st, C.cp, C.dat, storeA, putCells, Y8, Y7, List.replicate, List.singleton_append, Option.bind_none, Bool.and_true, Bool.true_and, Nat.reduceAdd, Nat.reduceSub, Nat.reduceMul, Nat.reduceEqDiff, reduceIte, if_true, if_false, and_true, true_and, decide_true, decide_false, Bool.not_true, Bool.not_false, cond_true, cond_false, forall_const, ne_eq, Array.toList, reduceCtorEq, Int.reduceLT, Int.reduceLE, Int.reduceToNat, Nat.reduceLeDiff, Nat.reduceLT, Nat.le_refl, Nat.reduceBNe, Nat.reduceBEq, implies_true, Nat.add_zero, bne_self_eq_false, beq_self_eq_true, Bool.or_true, Bool.or_false, Bool.true_or, Bool.false_or, Bool.false_and, Bool.and_false, nb_map, nb_nil, nb_cons, nb_app, C.nb, callP, callO, rootsOf, rootsW, argFs, argF, Fs.none, dedup, rootsD, rootsC, List.flatMap_cons, List.flatMap_nil, List.filterMap_cons, List.filterMap_nil, Yg, argD, argC, argCs, List.contains_nil, List.contains_cons, objsAt, objOf, List.idxOf?, List.findIdx?, List.findIdx?.go, setObjs, D.ni, D.ni1, C.ni, C.niRow, settle, settle1, settleC, settleDs, Yl, List.isEmpty_cons, dI, dB, tk28, tsz3, tk3, eq_true a0, ZA]; rfl) ?_) ?_
    refine Yf (b := true) rfl (fun _ => ?_) (fun h => by cases h)
    refine Y3 ok0 rfl (by repeat first | with_reducible exact Y2 | refine Y1 (by simp only [runf, Y5, Y4, Y6, evsA, qev, St.ev, St.put, St.with, D.cells, D.cell, D.int, boxA, qload, Y9, qmk, C.cpy, TK.agg, qnil, Yb, qpart, qfield, qindexAddr, qindex, qpick, qint, Yc, qstr, isEq, qeq, Ya, qbin, eqC, eqCs, qun, qconv, qbounds, qslice, qlen, qext, omap, q2, qbuiltin, liveR, C.st, C.cp, C.dat, storeA, putCells, Y8, Y7, List.replicate, List.singleton_append, Option.bind_none, Bool.and_true, Bool.true_and, Nat.reduceAdd, Nat.reduceSub, Nat.reduceMul, Nat.reduceEqDiff, reduceIte, if_true, if_false, and_true, true_and, decide_true, decide_false, Bool.not_true, Bool.not_false, cond_true, cond_false, forall_const, ne_eq, Array.toList, reduceCtorEq, Int.reduceLT, Int.reduceLE, Int.reduceToNat, Nat.reduceLeDiff, Nat.reduceLT, Nat.le_refl, Nat.reduceBNe, Nat.reduceBEq, implies_true, Nat.add_zero, bne_self_eq_false, beq_self_eq_true, Bool.or_true, Bool.or_false, Bool.true_or, Bool.false_or, Bool.false_and, Bool.and_false, nb_map, nb_nil, nb_cons, nb_app, C.nb, callP, callO, rootsOf, rootsW, argFs, argF, Fs.none, dedup, rootsD, rootsC, List.flatMap_cons, List.flatMap_nil, List.filterMap_cons, List.filterMap_nil, Yg, argD, argC, argCs, List.contains_nil, List.contains_cons, objsAt, objOf, List.idxOf?, List.findIdx?, List.findIdx?.go, setObjs, D.ni, D.ni1, C.ni, C.niRow, settle, settle1, settleC, settleDs, Yl, List.isEmpty_cons, dI, dB, tk28, tsz3, tk3, eq_true a0, ZA]; rfl) ?_) ?_
    refine Yo (Yp (by simp only [outRes, Yi, resD, Yh, outD, outC, outCs, runf, Y5, Y4, Y6, evsA, qev, St.ev, St.put, St.with, D.cells, D.cell, D.int, boxA, qload, Y9, qmk, C.cpy, TK.agg, qnil, Yb, qpart, qfield, qindexAddr, qindex, qpick, qint, Yc, qstr, isEq, qeq, Ya, qbin, eqC, eqCs, qun, qconv, qbounds, qslice, qlen, qext, omap, q2, qbuiltin, liveR, C.st, C.cp, C.dat, storeA, putCells, Y8, Y7, List.replicate, List.singleton_append, Option.bind_none, Bool.and_true, Bool.true_and, Nat.reduceAdd, Nat.reduceSub, Nat.reduceMul, Nat.reduceEqDiff, reduceIte, if_true, if_false, and_true, true_and, decide_true, decide_false, Bool.not_true, Bool.not_false, cond_true, cond_false, forall_const, ne_eq, Array.toList, reduceCtorEq, Int.reduceLT, Int.reduceLE, Int.reduceToNat, Nat.reduceLeDiff, Nat.reduceLT, Nat.le_refl, Nat.reduceBNe, Nat.reduceBEq, implies_true, Nat.add_zero, bne_self_eq_false, beq_self_eq_true, Bool.or_true, Bool.or_false, Bool.true_or, Bool.false_or, Bool.false_and, Bool.and_false, nb_map, nb_nil, nb_cons, nb_app, C.nb, dI, dB, tk28, tsz3, tk3, ZA]; rfl) rfl (by simp) (by simp) ?_)
    (simp only [if_true, if_false, decide_true, decide_false, Bool.and_true, Bool.true_and, Bool.false_and, Bool.and_false, Bool.or_true, Bool.true_or, Bool.false_or, Bool.or_false, and_true, true_and, and_false, false_and, or_true, true_or, or_false, false_or, not_true_eq_false, not_false_eq_true, Bool.not_true, Bool.not_false, reduceIte, Z7, ↓reduceIte, cond_true, cond_false, Int.reduceEq, Int.reduceLT, Int.reduceLE, Int.reduceNeg, Nat.reduceEqDiff, reduceCtorEq, eq_true a0] at hQ; exact hQ)
  ·
    by_cases a1 : (t = t2)
    ·
      refine Y3 ok0 rfl (by repeat first | with_reducible exact Y2 | refine Y1 (by simp only [runf, Y5, Y4, Y6, evsA, qev, St.ev, St.put, St.with, D.cells, D.cell, D.int, boxA, qload, Y9, qmk, C.cpy, TK.agg, qnil, Yb, qpart, qfield, qindexAddr, qindex, qpick, qint, Yc, qstr, isEq, qeq, Ya, qbin, eqC, eqCs, qun, qconv, qbounds, qslice, qlen, qext, omap, q2, qbuiltin, liveR, C.st, C.cp, C.dat, storeA, putCells, Y8, Y7, List.replicate, List.singleton_append, Option.bind_none, Bool.and_true, Bool.true_and, Nat.reduceAdd, Nat.reduceSub, Nat.reduceMul, Nat.reduceEqDiff, reduceIte, if_true, if_false, and_true, true_and, decide_true, decide_false, Bool.not_true, Bool.not_false, cond_true, cond_false, forall_const, ne_eq, Array.toList, reduceCtorEq, Int.reduceLT, Int.reduceLE, Int.reduceToNat, Nat.reduceLeDiff, Nat.reduceLT, Nat.le_refl, Nat.reduceBNe, Nat.reduceBEq, implies_true, Nat.add_zero, bne_self_eq_false, beq_self_eq_true, Bool.or_true, Bool.or_false, Bool.true_or, Bool.false_or, Bool.false_and, Bool.and_false, nb_map, nb_nil, nb_cons, nb_app, C.nb, callP, callO, rootsOf, rootsW, argFs, argF, Fs.none, dedup, rootsD, rootsC, List.flatMap_cons, List.flatMap_nil, List.filterMap_cons, List.filterMap_nil, Yg, argD, argC, argCs, List.contains_nil, List.contains_cons, objsAt, objOf, List.idxOf?, List.findIdx?, List.findIdx?.go, setObjs, D.ni, D.ni1, C.ni, C.niRow, settle, settle1, settleC, settleDs, Yl, List.isEmpty_cons, dI, dB, tk28, tsz3, tk3, eq_false a0, eq_true a1, ZA]; rfl) ?_) ?_
      refine Yf rfl (fun a2 => ?_) (fun a2 => ?_)
      ·
        simp only [decide_eq_true_eq, decide_eq_false_iff_not, Bool.not_eq_true', Bool.not_eq_false', Bool.and_eq_true, Bool.or_eq_true, Bool.not_eq_true, bne_iff_ne, beq_iff_eq] at a2
        refine Y3 ok0 rfl (by repeat first | with_reducible exact Y2 | refine Y1 (by simp only [runf, Y5, Y4, Y6, evsA, qev, St.ev, St.put, St.with, D.cells, D.cell, D.int, boxA, qload, Y9, qmk, C.cpy, TK.agg, qnil, Yb, qpart, qfield, qindexAddr, qindex, qpick, qint, Yc, qstr, isEq, qeq, Ya, qbin, eqC, eqCs, qun, qconv, qbounds, qslice, qlen, qext, omap, q2, qbuiltin, liveR, C.st, C.cp, C.dat, storeA, putCells, Y8, Y7, List.replicate, List.singleton_append, Option.bind_none, Bool.and_true, Bool.true_and, Nat.reduceAdd, Nat.reduceSub, Nat.reduceMul, Nat.reduceEqDiff, reduceIte, if_true, if_false, and_true, true_and, decide_true, decide_false, Bool.not_true, Bool.not_false, cond_true, cond_false, forall_const, ne_eq, Array.toList, reduceCtorEq, Int.reduceLT, Int.reduceLE, Int.reduceToNat, Nat.reduceLeDiff, Nat.reduceLT, Nat.le_refl, Nat.reduceBNe, Nat.reduceBEq, implies_true, Nat.add_zero, bne_self_eq_false, beq_self_eq_true, Bool.or_true, Bool.or_false, Bool.true_or, Bool.false_or, Bool.false_and, Bool.and_false, nb_map, nb_nil, nb_cons, nb_app, C.nb, callP, callO, rootsOf, rootsW, argFs, argF, Fs.none, dedup, rootsD, rootsC, List.flatMap_cons, List.flatMap_nil, List.filterMap_cons, List.filterMap_nil, Yg, argD, argC, argCs, List.contains_nil, List.contains_cons, objsAt, objOf, List.idxOf?, List.findIdx?, List.findIdx?.go, setObjs, D.ni, D.ni1, C.ni, C.niRow, settle, settle1, settleC, settleDs, Yl, List.isEmpty_cons, dI, dB, tk28, tsz3, tk3, eq_false a0, eq_true a1, a2, ZA]; rfl) ?_) ?_
        refine Yo (Yp (by simp only [outRes, Yi, resD, Yh, outD, outC, outCs, runf, Y5, Y4, Y6, evsA, qev, St.ev, St.put, St.with, D.cells, D.cell, D.int, boxA, qload, Y9, qmk, C.cpy, TK.agg, qnil, Yb, qpart, qfield, qindexAddr, qindex, qpick, qint, Yc, qstr, isEq, qeq, Ya, qbin, eqC, eqCs, qun, qconv, qbounds, qslice, qlen, qext, omap, q2, qbuiltin, liveR, C.st, C.cp, C.dat, storeA, putCells, Y8, Y7, List.replicate, List.singleton_append, Option.bind_none, Bool.and_true, Bool.true_and, Nat.reduceAdd, Nat.reduceSub, Nat.reduceMul, Nat.reduceEqDiff, reduceIte, if_true, if_false, and_true, true_and, decide_true, decide_false, Bool.not_true, Bool.not_false, cond_true, cond_false, forall_const, ne_eq, Array.toList, reduceCtorEq, Int.reduceLT, Int.reduceLE, Int.reduceToNat, Nat.reduceLeDiff, Nat.reduceLT, Nat.le_refl, Nat.reduceBNe, Nat.reduceBEq, implies_true, Nat.add_zero, bne_self_eq_false, beq_self_eq_true, Bool.or_true, Bool.or_false, Bool.true_or, Bool.false_or, Bool.false_and, Bool.and_false, nb_map, nb_nil, nb_cons, nb_app, C.nb, dI, dB, tk28, tsz3, tk3, ZA]; rfl) rfl (by simp) (by simp) ?_)
        (simp only [if_true, if_false, decide_true, decide_false, Bool.and_true, Bool.true_and, Bool.false_and, Bool.and_false, Bool.or_true, Bool.true_or, Bool.false_or, Bool.or_false, and_true, true_and, and_false, false_and, or_true, true_or, or_false, false_or, not_true_eq_false, not_false_eq_true, Bool.not_true, Bool.not_false, reduceIte, Z7, ↓reduceIte, cond_true, cond_false, Int.reduceEq, Int.reduceLT, Int.reduceLE, Int.reduceNeg, Nat.reduceEqDiff, reduceCtorEq, eq_false a0, eq_true a1, a2] at hQ; exact hQ)
      ·
        simp only [decide_eq_true_eq, decide_eq_false_iff_not, Bool.not_eq_true', Bool.not_eq_false', Bool.and_eq_true, Bool.or_eq_true, Bool.not_eq_true, bne_iff_ne, beq_iff_eq] at a2
        refine Y3 ok0 rfl (by repeat first | with_reducible exact Y2 | refine Y1 (by simp only [runf, Y5, Y4, Y6, evsA, qev, St.ev, St.put, St.with, D.cells, D.cell, D.int, boxA, qload, Y9, qmk, C.cpy, TK.agg, qnil, Yb, qpart, qfield, qindexAddr, qindex, qpick, qint, Yc, qstr, isEq, qeq, Ya, qbin, eqC, eqCs, qun, qconv, qbounds, qslice, qlen, qext, omap, q2, qbuiltin, liveR, C.st, C.cp, C.dat, storeA, putCells, Y8, Y7, List.replicate, List.singleton_append, Option.bind_none, Bool.and_true, Bool.true_and, Nat.reduceAdd, Nat.reduceSub, Nat.reduceMul, Nat.reduceEqDiff, reduceIte, if_true, if_false, and_true, true_and, decide_true, decide_false, Bool.not_true, Bool.not_false, cond_true, cond_false, forall_const, ne_eq, Array.toList, reduceCtorEq, Int.reduceLT, Int.reduceLE, Int.reduceToNat, Nat.reduceLeDiff, Nat.reduceLT, Nat.le_refl, Nat.reduceBNe, Nat.reduceBEq, implies_true, Nat.add_zero, bne_self_eq_false, beq_self_eq_true, Bool.or_true, Bool.or_false, Bool.true_or, Bool.false_or, Bool.false_and, Bool.and_false, nb_map, nb_nil, nb_cons, nb_app, C.nb, callP, callO, rootsOf, rootsW, argFs, argF, Fs.none, dedup, rootsD, rootsC, List.flatMap_cons, List.flatMap_nil, List.filterMap_cons, List.filterMap_nil, Yg, argD, argC, argCs, List.contains_nil, List.contains_cons, objsAt, objOf, List.idxOf?, List.findIdx?, List.findIdx?.go, setObjs, D.ni, D.ni1, C.ni, C.niRow, settle, settle1, settleC, settleDs, Yl, List.isEmpty_cons, dI, dB, tk28, tsz3, tk3, eq_false a0, eq_true a1, a2, ZA]; rfl) ?_) ?_
        refine Yf rfl (fun a3 => ?_) (fun a3 => ?_)
        ·
          simp only [decide_eq_true_eq, decide_eq_false_iff_not, Bool.not_eq_true', Bool.not_eq_false', Bool.and_eq_true, Bool.or_eq_true, Bool.not_eq_true, bne_iff_ne, beq_iff_eq] at a3
          refine Y3 ok0 rfl (by repeat first | with_reducible exact Y2 | refine Y1 (by simp only [runf, Y5, Y4, Y6, evsA, qev, St.ev, St.put, St.with, D.cells, D.cell, D.int, boxA, qload, Y9, qmk, C.cpy, TK.agg, qnil, Yb, qpart, qfield, qindexAddr, qindex, qpick, qint, Yc, qstr, isEq, qeq, Ya, qbin, eqC, eqCs, qun, qconv, qbounds, qslice, qlen, qext, omap, q2, qbuiltin, liveR, C.st, C.cp, C.dat, storeA, putCells, Y8, Y7, List.replicate, List.singleton_append, Option.bind_none, Bool.and_true, Bool.true_and, Nat.reduceAdd, Nat.reduceSub, Nat.reduceMul, Nat.reduceEqDiff, reduceIte, if_true, if_false, and_true, true_and, decide_true, decide_false, Bool.not_true, Bool.not_false, cond_true, cond_false, forall_const, ne_eq, Array.toList, reduceCtorEq, Int.reduceLT, Int.reduceLE, Int.reduceToNat, Nat.reduceLeDiff, Nat.reduceLT, Nat.le_refl, Nat.reduceBNe, Nat.reduceBEq, implies_true, Nat.add_zero, bne_self_eq_false, beq_self_eq_true, Bool.or_true, Bool.or_false, Bool.true_or, Bool.false_or, Bool.false_and, Bool.and_false, nb_map, nb_nil, nb_cons, nb_app, C.nb, callP, callO, rootsOf, rootsW, argFs, argF, Fs.none, dedup, rootsD, rootsC, List.flatMap_cons, List.flatMap_nil, List.filterMap_cons, List.filterMap_nil, Yg, argD, argC, argCs, List.contains_nil, List.contains_cons, objsAt, objOf, List.idxOf?, List.findIdx?, List.findIdx?.go, setObjs, D.ni, D.ni1, C.ni, C.niRow, settle, settle1, settleC, settleDs, Yl, List.isEmpty_cons, dI, dB, tk28, tsz3, tk3, eq_false a0, eq_true a1, a2, a3, ZA]; rfl) ?_) ?_
          refine Yo (Yp (by simp only [outRes, Yi, resD, Yh, outD, outC, outCs, runf, Y5, Y4, Y6, evsA, qev, St.ev, St.put, St.with, D.cells, D.cell, D.int, boxA, qload, Y9, qmk, C.cpy, TK.agg, qnil, Yb, qpart, qfield, qindexAddr, qindex, qpick, qint, Yc, qstr, isEq, qeq, Ya, qbin, eqC, eqCs, qun, qconv, qbounds, qslice, qlen, qext, omap, q2, qbuiltin, liveR, C.st, C.cp, C.dat, storeA, putCells, Y8, Y7, List.replicate, List.singleton_append, Option.bind_none, Bool.and_true, Bool.true_and, Nat.reduceAdd, Nat.reduceSub, Nat.reduceMul, Nat.reduceEqDiff, reduceIte, if_true, if_false, and_true, true_and, decide_true, decide_false, Bool.not_true, Bool.not_false, cond_true, cond_false, forall_const, ne_eq, Array.toList, reduceCtorEq, Int.reduceLT, Int.reduceLE, Int.reduceToNat, Nat.reduceLeDiff, Nat.reduceLT, Nat.le_refl, Nat.reduceBNe, Nat.reduceBEq, implies_true, Nat.add_zero, bne_self_eq_false, beq_self_eq_true, Bool.or_true, Bool.or_false, Bool.true_or, Bool.false_or, Bool.false_and, Bool.and_false, nb_map, nb_nil, nb_cons, nb_app, C.nb, dI, dB, tk28, tsz3, tk3, ZA]; rfl) rfl (by simp) (by simp) ?_)
          (simp [eq_false a0, eq_true a1, a2, a3] at hQ; exact hQ)
        ·
          simp only [decide_eq_true_eq, decide_eq_false_iff_not, Bool.not_eq_true', Bool.not_eq_false', Bool.and_eq_true, Bool.or_eq_true, Bool.not_eq_true, bne_iff_ne, beq_iff_eq] at a3
          refine tri_skip ?_
          show Tri _ _ _ _
          refine Y3 ok0 rfl (by repeat first | with_reducible exact Y2 | refine Y1 (by simp only [runf, Y5, Y4, Y6, evsA, qev, St.ev, St.put, St.with, D.cells, D.cell, D.int, boxA, qload, Y9, qmk, C.cpy, TK.agg, qnil, Yb, qpart, qfield, qindexAddr, qindex, qpick, qint, Yc, qstr, isEq, qeq, Ya, qbin, eqC, eqCs, qun, qconv, qbounds, qslice, qlen, qext, omap, q2, qbuiltin, liveR, C.st, C.cp, C.dat, storeA, putCells, Y8, Y7, List.replicate, List.singleton_append, Option.bind_none, Bool.and_true, Bool.true_and, Nat.reduceAdd, Nat.reduceSub, Nat.reduceMul, Nat.reduceEqDiff, reduceIte, if_true, if_false, and_true, true_and, decide_true, decide_false, Bool.not_true, Bool.not_false, cond_true, cond_false, forall_const, ne_eq, Array.toList, reduceCtorEq, Int.reduceLT, Int.reduceLE, Int.reduceToNat, Nat.reduceLeDiff, Nat.reduceLT, Nat.le_refl, Nat.reduceBNe, Nat.reduceBEq, implies_true, Nat.add_zero, bne_self_eq_false, beq_self_eq_true, Bool.or_true, Bool.or_false, Bool.true_or, Bool.false_or, Bool.false_and, Bool.and_false, nb_map, nb_nil, nb_cons, nb_app, C.nb, callP, callO, rootsOf, rootsW, argFs, argF, Fs.none, dedup, rootsD, rootsC, List.flatMap_cons, List.flatMap_nil, List.filterMap_cons, List.filterMap_nil, Yg, argD, argC, argCs, List.contains_nil, List.contains_cons, objsAt, objOf, List.idxOf?, List.findIdx?, List.findIdx?.go, setObjs, D.ni, D.ni1, C.ni, C.niRow, settle, settle1, settleC, settleDs, Yl, List.isEmpty_cons, dI, dB, tk28, tsz3, tk3, eq_false a0, eq_true a1, a2, a3, ZA]; rfl) ?_) ?_
          refine Yo (Yp (by simp only [outRes, Yi, resD, Yh, outD, outC, outCs, runf, Y5, Y4, Y6, evsA, qev, St.ev, St.put, St.with, D.cells, D.cell, D.int, boxA, qload, Y9, qmk, C.cpy, TK.agg, qnil, Yb, qpart, qfield, qindexAddr, qindex, qpick, qint, Yc, qstr, isEq, qeq, Ya, qbin, eqC, eqCs, qun, qconv, qbounds, qslice, qlen, qext, omap, q2, qbuiltin, liveR, C.st, C.cp, C.dat, storeA, putCells, Y8, Y7, List.replicate, List.singleton_append, Option.bind_none, Bool.and_true, Bool.true_and, Nat.reduceAdd, Nat.reduceSub, Nat.reduceMul, Nat.reduceEqDiff, reduceIte, if_true, if_false, and_true, true_and, decide_true, decide_false, Bool.not_true, Bool.not_false, cond_true, cond_false, forall_const, ne_eq, Array.toList, reduceCtorEq, Int.reduceLT, Int.reduceLE, Int.reduceToNat, Nat.reduceLeDiff, Nat.reduceLT, Nat.le_refl, Nat.reduceBNe, Nat.reduceBEq, implies_true, Nat.add_zero, bne_self_eq_false, beq_self_eq_true, Bool.or_true, Bool.or_false, Bool.true_or, Bool.false_or, Bool.false_and, Bool.and_false, nb_map, nb_nil, nb_cons, nb_app, C.nb, dI, dB, tk28, tsz3, tk3, ZA]; rfl) rfl (by simp) (by simp) ?_)
          (simp only [if_true, if_false, decide_true, decide_false, Bool.and_true, Bool.true_and, Bool.false_and, Bool.and_false, Bool.or_true, Bool.true_or, Bool.false_or, Bool.or_false, and_true, true_and, and_false, false_and, or_true, true_or, or_false, false_or, not_true_eq_false, not_false_eq_true, Bool.not_true, Bool.not_false, reduceIte, Z7, ↓reduceIte, cond_true, cond_false, Int.reduceEq, Int.reduceLT, Int.reduceLE, Int.reduceNeg, Nat.reduceEqDiff, reduceCtorEq, eq_false a0, eq_true a1, a2, a3] at hQ; exact hQ)
    ·
      refine Y3 ok0 rfl (by repeat first | with_reducible exact Y2 | refine Y1 (by simp only [runf, Y5, Y4, Y6, evsA, qev, St.ev, St.put, St.with, D.cells, D.cell, D.int, boxA, qload, Y9, qmk, C.cpy, TK.agg, qnil, Yb, qpart, qfield, qindexAddr, qindex, qpick, qint, Yc, qstr, isEq, qeq, Ya, qbin, eqC, eqCs, qun, qconv, qbounds, qslice, qlen, qext, omap, q2, qbuiltin, liveR, C.st, C.cp, C.dat, storeA, putCells, Y8, Y7, List.replicate, List.singleton_append, Option.bind_none, Bool.and_true, Bool.true_and, Nat.reduceAdd, Nat.reduceSub, Nat.reduceMul, Nat.reduceEqDiff, reduceIte, if_true, if_false, and_true, true_and, decide_true, decide_false, Bool.not_true, Bool.not_false, cond_true, cond_false, forall_const, ne_eq, Array.toList, reduceCtorEq, Int.reduceLT, Int.reduceLE, Int.reduceToNat, Nat.reduceLeDiff, Nat.reduceLT, Nat.le_refl, Nat.reduceBNe, Nat.reduceBEq, implies_true, Nat.add_zero, bne_self_eq_false, beq_self_eq_true, Bool.or_true, Bool.or_false, Bool.true_or, Bool.false_or, Bool.false_and, Bool.and_false, nb_map, nb_nil, nb_cons, nb_app, C.nb, callP, callO, rootsOf, rootsW, argFs, argF, Fs.none, dedup, rootsD, rootsC, List.flatMap_cons, List.flatMap_nil, List.filterMap_cons, List.filterMap_nil, Yg, argD, argC, argCs, List.contains_nil, List.contains_cons, objsAt, objOf, List.idxOf?, List.findIdx?, List.findIdx?.go, setObjs, D.ni, D.ni1, C.ni, C.niRow, settle, settle1, settleC, settleDs, Yl, List.isEmpty_cons, dI, dB, tk28, tsz3, tk3, eq_false a0, eq_false a1, ZA]; rfl) ?_) ?_
      refine Yf (b := false) rfl (fun h => by cases h) (fun _ => ?_)
      refine Y3 ok0 rfl (by repeat first | with_reducible exact Y2 | refine Y1 (by simp only [runf, Y5, Y4, Y6, evsA, qev, St.ev, St.put, St.with, D.cells, D.cell, D.int, boxA, qload, Y9, qmk, C.cpy, TK.agg, qnil, Yb, qpart, qfield, qindexAddr, qindex, qpick, qint, Yc, qstr, isEq, qeq, Ya, qbin, eqC, eqCs, qun, qconv, qbounds, qslice, qlen, qext, omap, q2, qbuiltin, liveR, C.st, C.cp, C.dat, storeA, putCells, Y8, Y7, List.replicate, List.singleton_append, Option.bind_none, Bool.and_true, Bool.true_and, Nat.reduceAdd, Nat.reduceSub, Nat.reduceMul, Nat.reduceEqDiff, reduceIte, if_true, if_false, and_true, true_and, decide_true, decide_false, Bool.not_true, Bool.not_false, cond_true, cond_false, forall_const, ne_eq, Array.toList, reduceCtorEq, Int.reduceLT, Int.reduceLE, Int.reduceToNat, Nat.reduceLeDiff, Nat.reduceLT, Nat.le_refl, Nat.reduceBNe, Nat.reduceBEq, implies_true, Nat.add_zero, bne_self_eq_false, beq_self_eq_true, Bool.or_true, Bool.or_false, Bool.true_or, Bool.false_or, Bool.false_and, Bool.and_false, nb_map, nb_nil, nb_cons, nb_app, C.nb, callP, callO, rootsOf, rootsW, argFs, argF, Fs.none, dedup, rootsD, rootsC, List.flatMap_cons, List.flatMap_nil, List.filterMap_cons, List.filterMap_nil, Yg, argD, argC, argCs, List.contains_nil, List.contains_cons, objsAt, objOf, List.idxOf?, List.findIdx?, List.findIdx?.go, setObjs, D.ni, D.ni1, C.ni, C.niRow, settle, settle1, settleC, settleDs, Yl, List.isEmpty_cons, dI, dB, tk28, tsz3, tk3, eq_false a0, eq_false a1, ZA]; rfl) ?_) ?_
      refine Yf (b := false) rfl (fun h => by cases h) (fun _ => ?_)
      refine tri_skip ?_
      show Tri _ _ _ _
      refine Y3 ok0 rfl (by repeat first | with_reducible exact Y2 | refine Y1 (by simp only [runf, Y5, Y4, Y6, evsA, qev, St.ev, St.put, St.with, D.cells, D.cell, D.int, boxA, qload, Y9, qmk, C.cpy, TK.agg, qnil, Yb, qpart, qfield, qindexAddr, qindex, qpick, qint, Yc, qstr, isEq, qeq, Ya, qbin, eqC, eqCs, qun, qconv, qbounds, qslice, qlen, qext, omap, q2, qbuiltin, liveR, C.st, C.cp, C.dat, storeA, putCells, Y8, Y7, List.replicate, List.singleton_append, Option.bind_none, Bool.and_true, Bool.true_and, Nat.reduceAdd, Nat.reduceSub, Nat.reduceMul, Nat.reduceEqDiff, reduceIte, if_true, if_false, and_true, true_and, decide_true, decide_false, Bool.not_true, Bool.not_false, cond_true, cond_false, forall_const, ne_eq, Array.toList, reduceCtorEq, Int.reduceLT, Int.reduceLE, Int.reduceToNat, Nat.reduceLeDiff, Nat.reduceLT, Nat.le_refl, Nat.reduceBNe, Nat.reduceBEq, implies_true, Nat.add_zero, bne_self_eq_false, beq_self_eq_true, Bool.or_true, Bool.or_false, Bool.true_or, Bool.false_or, Bool.false_and, Bool.and_false, nb_map, nb_nil, nb_cons, nb_app, C.nb, callP, callO, rootsOf, rootsW, argFs, argF, Fs.none, dedup, rootsD, rootsC, List.flatMap_cons, List.flatMap_nil, List.filterMap_cons, List.filterMap_nil, Yg, argD, argC, argCs, List.contains_nil, List.contains_cons, objsAt, objOf, List.idxOf?, List.findIdx?, List.findIdx?.go, setObjs, D.ni, D.ni1, C.ni, C.niRow, settle, settle1, settleC, settleDs, Yl, List.isEmpty_cons, dI, dB, tk28, tsz3, tk3, eq_false a0, eq_false a1, ZA]; rfl) ?_) ?_
      refine Yo (Yp (by simp only [outRes, Yi, resD, Yh, outD, outC, outCs, runf, Y5, Y4, Y6, evsA, qev, St.ev, St.put, St.with, D.cells, D.cell, D.int, boxA, qload, Y9, qmk, C.cpy, TK.agg, qnil, Yb, qpart, qfield, qindexAddr, qindex, qpick, qint, Yc, qstr, isEq, qeq, Ya, qbin, eqC, eqCs, qun, qconv, qbounds, qslice, qlen, qext, omap, q2, qbuiltin, liveR, C.st, C.cp, C.dat, storeA, putCells, Y8, Y7, List.replicate, List.singleton_append, Option.bind_none, Bool.and_true, Bool.true_and, Nat.reduceAdd, Nat.reduceSub, Nat.reduceMul, Nat.reduceEqDiff, reduceIte, if_true, if_false, and_true, true_and, decide_true, decide_false, Bool.not_true, Bool.not_false, cond_true, cond_false, forall_const, ne_eq, Array.toList, reduceCtorEq, Int.reduceLT, Int.reduceLE, Int.reduceToNat, Nat.reduceLeDiff, Nat.reduceLT, Nat.le_refl, Nat.reduceBNe, Nat.reduceBEq, implies_true, Nat.add_zero, bne_self_eq_false, beq_self_eq_true, Bool.or_true, Bool.or_false, Bool.true_or, Bool.false_or, Bool.false_and, Bool.and_false, nb_map, nb_nil, nb_cons, nb_app, C.nb, dI, dB, tk28, tsz3, tk3, ZA]; rfl) rfl (by simp) (by simp) ?_)
      (simp only [if_true, if_false, decide_true, decide_false, Bool.and_true, Bool.true_and, Bool.false_and, Bool.and_false, Bool.or_true, Bool.true_or, Bool.false_or, Bool.or_false, and_true, true_and, and_false, false_and, or_true, true_or, or_false, false_or, not_true_eq_false, not_false_eq_true, Bool.not_true, Bool.not_false, reduceIte, Z7, ↓reduceIte, cond_true, cond_false, Int.reduceEq, Int.reduceLT, Int.reduceLE, Int.reduceNeg, Nat.reduceEqDiff, reduceCtorEq, eq_false a0, eq_false a1] at hQ; exact hQ)
end Go.Dl

namespace Go.Dl
set_option linter.unusedVariables false
set_option linter.unusedSectionVars false
section
variable {α : Type}
theorem at_mid (p q : List α) (x : α) : (p ++ x :: q)[p.length]? = some x := by simp
theorem set_mid (p q : List α) (x y : α) : (p ++ x :: q).set p.length y = p ++ y :: q := by simp
/-- Two side by side change places. -/
theorem swap_adj (p q : List α) (x y : α) : ((p ++ x :: y :: q).set (p.length + 1) x).set p.length y = p ++ y :: x :: q := by simp
theorem swap_adj2 (p q : List α) (x y : α) : ((p ++ x :: y :: q).set p.length y).set (p.length + 1) x = p ++ y :: x :: q := by simp
/-- Two apart change places. -/
theorem swap_two (p m q : List α) (x y : α) : ((p ++ x :: (m ++ y :: q)).set p.length y).set (p.length + 1 + m.length) x = p ++ y :: (m ++ x :: q) := by
  rw [set_mid]
  have h : p ++ y :: (m ++ y :: q) = (p ++ y :: m) ++ y :: q := by simp
  rw [h, show p.length + 1 + m.length = (p ++ y :: m).length by simp; omega, set_mid]
  simp
theorem list_at {l : List α} {j : Nat} (h : j < l.length) : ∃ p x q, l = p ++ x :: q ∧ p.length = j :=
  ⟨l.take j, l[j], l.drop (j + 1), by rw [← List.drop_eq_getElem_cons h, List.take_append_drop], by simp; omega⟩
theorem list_last {l : List α} (h : 0 < l.length) : ∃ p x, l = p ++ [x] := by
  obtain ⟨p, x, q, e, hp⟩ := list_at (l := l) (j := l.length - 1) (by omega)
  have hq : q = [] := by
    have := congrArg List.length e
    simp at this
    exact List.eq_nil_of_length_eq_zero (by omega)
  subst hq
  exact ⟨p, x, e⟩
/-- What a rotation comes to. -/
def rotL (l : List α) (a m b : Nat) : List α := l.take a ++ ((l.drop m).take (b - m) ++ ((l.drop a).take (m - a) ++ l.drop b))
end
end Go.Dl

namespace Go.Dl
open Go.RowKit
open Go.Proofs
set_option linter.unusedSimpArgs false
set_option linter.unusedVariables false
def f0 : FateM := (0, ⟨#[]⟩, 0, false, false, false)
theorem fates_at {l : List FateM} {i : Nat} (h : i < l.length) : (l.map fateC)[i]? = some (fateC (l.getD i f0)) := by
  simp [h]
theorem fate_drop (f : FateM) : (fateC f).drop 6 = [] := rfl
theorem fate_take (f : FateM) : (fateC f).take 6 = fateC f := rfl
theorem fates_obj (l : List FateM) (T : List (Option Root)) : outObjs (some ⟨false, 6, l.map fateC⟩ :: T) 1 = some [⟨6, l.map fateC⟩] := by
  simp only [outObjs, objOf, Z1, Z8, fates_dat, if_true, Z12]
/-- Two change places. -/
def swap2 (l : List FateM) (i j : Nat) : List FateM := (l.set i (l.getD j f0)).set j (l.getD i f0)
theorem swap2_len (l : List FateM) (i j : Nat) : (swap2 l i j).length = l.length := by simp [swap2]
theorem swap2_map {l : List FateM} {i j : Nat} (hi : i < l.length) (hj : j < l.length) : ((l.map fateC).set i (fateC (l.getD j f0))).set j (fateC (l.getD i f0)) = (swap2 l i j).map fateC := by
  unfold swap2; rw [List.map_set, List.map_set]
def swapG (l : List FateM) (a b : Nat) : Nat → List FateM
  | 0 => l
  | k + 1 => swap2 (swapG l a b k) (a + k) (b + k)
theorem swapG_len (l : List FateM) (a b : Nat) : ∀ k, (swapG l a b k).length = l.length
  | 0 => rfl
  | k + 1 => by rw [swapG, swap2_len, swapG_len l a b k]
/-- Two blocks change places. -/
theorem swapG_eq (p m y : List FateM) : ∀ (u v : List FateM), u.length = v.length → swapG (p ++ (u ++ (m ++ (v ++ y)))) p.length (p.length + u.length + m.length) u.length = p ++ (v ++ (m ++ (u ++ y))) := by
  have go : ∀ (k : Nat) (u v u' v' : List FateM), u.length = k → v.length = k → u'.length = v'.length → swapG (p ++ ((u ++ u') ++ (m ++ ((v ++ v') ++ y)))) p.length (p.length + (u ++ u').length + m.length) k = p ++ ((v ++ u') ++ (m ++ ((u ++ v') ++ y))) := by
    intro k
    induction k with
    | zero =>
      intro u v u' v' hu hv _
      rw [List.eq_nil_of_length_eq_zero hu, List.eq_nil_of_length_eq_zero hv]
      rfl
    | succ k ih =>
      intro u v u' v' hu hv h
      obtain ⟨u1, x, rfl⟩ := list_last (l := u) (by omega)
      obtain ⟨v1, z, rfl⟩ := list_last (l := v) (by omega)
      have hu1 : u1.length = k := by simpa using hu
      have hv1 : v1.length = k := by simpa using hv
      have := ih u1 v1 (x :: u') (z :: v') hu1 hv1 (by simp [h])
      rw [swapG]
      have e1 : (u1 ++ [x]) ++ u' = u1 ++ (x :: u') := by simp
      have e2 : (v1 ++ [z]) ++ v' = v1 ++ (z :: v') := by simp
      rw [e1, e2, this]
      have hA : p ++ ((v1 ++ x :: u') ++ (m ++ ((u1 ++ z :: v') ++ y))) = (p ++ v1) ++ x :: ((u' ++ m ++ u1) ++ z :: (v' ++ y)) := by simp
      have hi : p.length + k = (p ++ v1).length := by simp [hv1]
      have hj : p.length + (u1 ++ x :: u').length + m.length + k = (p ++ v1).length + 1 + (u' ++ m ++ u1).length := by simp [hu1, hv1]; omega
      have gx : ((p ++ v1) ++ x :: ((u' ++ m ++ u1) ++ z :: (v' ++ y))).getD (p ++ v1).length f0 = x := by simp
      have gz : ((p ++ v1) ++ x :: ((u' ++ m ++ u1) ++ z :: (v' ++ y))).getD ((p ++ v1).length + 1 + (u' ++ m ++ u1).length) f0 = z := by
        have : (p ++ v1) ++ x :: ((u' ++ m ++ u1) ++ z :: (v' ++ y)) = ((p ++ v1) ++ x :: (u' ++ m ++ u1)) ++ z :: (v' ++ y) := by simp
        rw [this, show (p ++ v1).length + 1 + (u' ++ m ++ u1).length = ((p ++ v1) ++ x :: (u' ++ m ++ u1)).length by simp; omega, List.getD_eq_getElem?_getD, at_mid]
        rfl
      rw [hA, hi, hj]
      unfold swap2
      rw [gx, gz, swap_two]
      simp
  intro u v h
  have := go u.length u v [] [] rfl h.symm rfl
  simpa using this
noncomputable def oSwap : List D → List Obj → Option (D × List Obj) := famO (fun x : List FateM × Nat × Nat × Nat => x.2.1 + x.2.2.2 ≤ x.2.2.1 ∧ x.2.2.1 + x.2.2.2 ≤ x.1.length ∧ x.1.length ≤ 1000000)
  (fun x => ([.c (.h 0 0 x.1.length), .c (.v (.int .i64 (x.2.1 : Nat))), .c (.v (.int .i64 (x.2.2.1 : Nat))), .c (.v (.int .i64 (x.2.2.2 : Nat))), .c (.f 19 [])], [⟨6, x.1.map fateC⟩])) (fun x => (.t [], [⟨6, (swapG x.1 x.2.1 x.2.2.1 x.2.2.2).map fateC⟩]))
theorem swap_at (l : List FateM) (a b k : Nat) (h1 : a + k ≤ b) (h2 : b + k ≤ l.length) (h3 : l.length ≤ 1000000) {n : Nat} (hn : l.length = n) :
    oSwap [.c (.h 0 0 n), .c (.v (.int .i64 (a : Nat))), .c (.v (.int .i64 (b : Nat))), .c (.v (.int .i64 (k : Nat))), .c (.f 19 [])] [⟨6, l.map fateC⟩] = some (.t [], [⟨6, (swapG l a b k).map fateC⟩]) := by
  subst hn
  refine famO_at (fun x y h => ?_) (l, a, b, k) ⟨h1, h2, h3⟩ rfl
  simp only [Prod.mk.injEq, List.cons.injEq, D.c.injEq, C.v.injEq, Value.int.injEq, Obj.mk.injEq, true_and, and_true, Int.natCast_inj] at h
  obtain ⟨⟨_, e1, e2, e3⟩, e4⟩ := h
  rw [fates_inj e4, e1, e2, e3]
set_option maxRecDepth 100000 in
theorem meets25 : Meets Try.prog 25 (detS oSwap) := by
  refine meets_famO (show Try.prog.funcs[25]? = some Try.f25 by kernel_rfl) rfl (n := 38) rfl (rs := []) rfl ?_
  rintro ⟨l, a, b, k⟩ ⟨h1, h2, h3⟩ Q hQ
  dsimp only at h1 h2 h3 hQ
  have hc0 : ((0 : Nat) : Int) = 0 := rfl
  refine Y3 ok0 rfl (by repeat first | with_reducible exact Y2 | refine Y1 (by simp only [runf, Y5, Y4, Y6, evsA, qev, St.ev, St.put, St.with, D.cells, D.cell, D.int, boxA, qload, Y9, qmk, C.cpy, TK.agg, qnil, Yb, qpart, qfield, qindexAddr, qindex, qpick, qint, Yc, qstr, isEq, qeq, Ya, qbin, eqC, eqCs, qun, qconv, qbounds, qslice, qlen, qext, omap, q2, qbuiltin, liveR, C.st, C.cp, C.dat, storeA, putCells, Y8, Y7, List.replicate, List.singleton_append, Option.bind_none, Bool.and_true, Bool.true_and, Nat.reduceAdd, Nat.reduceSub, Nat.reduceMul, Nat.reduceEqDiff, reduceIte, if_true, if_false, and_true, true_and, decide_true, decide_false, Bool.not_true, Bool.not_false, cond_true, cond_false, forall_const, ne_eq, Array.toList, reduceCtorEq, Int.reduceLT, Int.reduceLE, Int.reduceToNat, Nat.reduceLeDiff, Nat.reduceLT, Nat.le_refl, Nat.reduceBNe, Nat.reduceBEq, implies_true, Nat.add_zero, bne_self_eq_false, beq_self_eq_true, Bool.or_true, Bool.or_false, Bool.true_or, Bool.false_or, Bool.false_and, Bool.and_false, nb_map, nb_nil, nb_cons, nb_app, C.nb, callP, callO, rootsOf, rootsW, argFs, argF, Fs.none, dedup, rootsD, rootsC, List.flatMap_cons, List.flatMap_nil, List.filterMap_cons, List.filterMap_nil, Yg, argD, argC, argCs, List.contains_nil, List.contains_cons, objsAt, objOf, List.idxOf?, List.findIdx?, List.findIdx?.go, setObjs, settle, settle1, settleC, settleDs, Yl, List.isEmpty_cons, dI, dB, hc0, false_implies, ZA]; rfl) ?_) ?_
  refine tri_block ?_
  refine tri_loop_le (fun m A => ∃ i : Nat, m + i = k ∧ A = ⟨[.c (.h 0 0 l.length), .c (.v (.int .i64 (a : Nat))), .c (.v (.int .i64 (b : Nat))), .c (.v (.int .i64 (k : Nat))), .c (.f 19 []), .top, .top, .top, .top, .top, .c (.v (.int .i64 (i : Nat))), .top, .top, .top, .top, .top, .top, .top, .top, .top, .top, .top, .top, .top, .top, .top, .top, .top, .top, .top, .top, .top, .top, .top, .top, .top, .top, .top], [some ⟨false, 6, (swapG l a b i).map fateC⟩]⟩) (k) (B := ⟨[.c (.h 0 0 l.length), .c (.v (.int .i64 (a : Nat))), .c (.v (.int .i64 (b : Nat))), .c (.v (.int .i64 (k : Nat))), .c (.f 19 []), .top, .top, .top, .top, .top, .c (.v (.int .i64 (0 : Nat))), .top, .top, .top, .top, .top, .top, .top, .top, .top, .top, .top, .top, .top, .top, .top, .top, .top, .top, .top, .top, .top, .top, .top, .top, .top, .top, .top], [some ⟨false, 6, l.map fateC⟩]⟩) ⟨by repeat (first | exact .nil | refine .same ?_ | refine .top ?_), rfl⟩ ⟨0, by omega, rfl⟩ ?_
  rintro m A ⟨i, hm, rfl⟩
  have hi1 : (i : Int) + 1 = ((i + 1 : Nat) : Int) := by omega
  have hai : (a : Int) + (i : Int) = ((a + i : Nat) : Int) := by omega
  have hbi : (b : Int) + (i : Int) = ((b + i : Nat) : Int) := by omega
  have hsl : (swapG l a b i).length = l.length := swapG_len l a b i
  obtain ⟨li, hli⟩ : ∃ li, swapG l a b i = li := ⟨_, rfl⟩
  have hsu : (i : Int) < (k : Int) → swapG l a b (i + 1) = swap2 li (a + i) (b + i) := (by intro h; rw [← hli]; rfl)
  rw [hli] at hsl ⊢
  obtain ⟨x, hx⟩ : ∃ x, li.getD (a + i) f0 = x := ⟨_, rfl⟩
  obtain ⟨y, hy⟩ : ∃ y, li.getD (b + i) f0 = y := ⟨_, rfl⟩
  have hgx : (i : Int) < (k : Int) → (li.map fateC)[a + i]? = some (fateC x) := (by intro h; rw [← hx]; exact fates_at (by omega))
  have hgy : (i : Int) < (k : Int) → (li.map fateC)[b + i]? = some (fateC y) := (by intro h; rw [← hy]; exact fates_at (by omega))
  have hs1 : (i : Int) < (k : Int) → ((li.map fateC).set (a + i) (fateC y))[b + i]? = some (fateC y) := (by intro h; rw [List.getElem?_set_ne (by omega)]; exact hgy h)
  have hs2 : (i : Int) < (k : Int) → ((li.map fateC).set (a + i) (fateC y)).set (b + i) (fateC x) = (swap2 li (a + i) (b + i)).map fateC := (by intro h; rw [← hx, ← hy]; exact swap2_map (by omega) (by omega))
  refine seq_in ?_
  refine Y3 ok0 rfl (by repeat first | with_reducible exact Y2 | refine Y1 (by simp only [runf, Y5, Y4, Y6, evsA, qev, St.ev, St.put, St.with, D.cells, D.cell, D.int, boxA, qload, Y9, qmk, C.cpy, TK.agg, qnil, Yb, qpart, qfield, qindexAddr, qindex, qpick, qint, Yc, qstr, isEq, qeq, Ya, qbin, eqC, eqCs, qun, qconv, qbounds, qslice, qlen, qext, omap, q2, qbuiltin, liveR, C.st, C.cp, C.dat, storeA, putCells, Y8, Y7, List.replicate, List.singleton_append, Option.bind_none, Bool.and_true, Bool.true_and, Nat.reduceAdd, Nat.reduceSub, Nat.reduceMul, Nat.reduceEqDiff, reduceIte, if_true, if_false, and_true, true_and, decide_true, decide_false, Bool.not_true, Bool.not_false, cond_true, cond_false, forall_const, ne_eq, Array.toList, reduceCtorEq, Int.reduceLT, Int.reduceLE, Int.reduceToNat, Nat.reduceLeDiff, Nat.reduceLT, Nat.le_refl, Nat.reduceBNe, Nat.reduceBEq, implies_true, Nat.add_zero, bne_self_eq_false, beq_self_eq_true, Bool.or_true, Bool.or_false, Bool.true_or, Bool.false_or, Bool.false_and, Bool.and_false, nb_map, nb_nil, nb_cons, nb_app, C.nb, callP, callO, rootsOf, rootsW, argFs, argF, Fs.none, dedup, rootsD, rootsC, List.flatMap_cons, List.flatMap_nil, List.filterMap_cons, List.filterMap_nil, Yg, argD, argC, argCs, List.contains_nil, List.contains_cons, objsAt, objOf, List.idxOf?, List.findIdx?, List.findIdx?.go, setObjs, settle, settle1, settleC, settleDs, Yl, List.isEmpty_cons, dI, dB, hc0, false_implies, hi1, hai, hbi, hgx, hgy, hs1, hs2, hsl, List.length_map, List.length_set, fate_take, fate_cp, fate_len, fate_drop, fate_cpy, fate_st, fate_dat, Int.toNat_natCast, Int.natCast_nonneg, ZA]; rfl) ?_) ?_
  refine Yf rfl (fun p0 => ?_) (fun p0 => ?_)
  ·
    simp only [decide_eq_true_eq, decide_eq_false_iff_not, Bool.not_eq_true', Bool.not_eq_false', Bool.and_eq_true, Bool.or_eq_true, Bool.not_eq_true, bne_iff_ne, beq_iff_eq] at p0
    refine Ye ?_
    refine seq_in (tri_block ?_)
    refine any_endE mixed ok0 rfl (by kernel_rfl) ?_
    refine ⟨_, (by repeat first | with_reducible exact Y2 | refine Y1 (by simp only [runf, Y5, Y4, Y6, evsA, qev, St.ev, St.put, St.with, D.cells, D.cell, D.int, boxA, qload, Y9, qmk, C.cpy, TK.agg, qnil, Yb, qpart, qfield, qindexAddr, qindex, qpick, qint, Yc, qstr, isEq, qeq, Ya, qbin, eqC, eqCs, qun, qconv, qbounds, qslice, qlen, qext, omap, q2, qbuiltin, liveR, C.st, C.cp, C.dat, storeA, putCells, Y8, Y7, List.replicate, List.singleton_append, Option.bind_none, Bool.and_true, Bool.true_and, Nat.reduceAdd, Nat.reduceSub, Nat.reduceMul, Nat.reduceEqDiff, reduceIte, if_true, if_false, and_true, true_and, decide_true, decide_false, Bool.not_true, Bool.not_false, cond_true, cond_false, forall_const, ne_eq, Array.toList, reduceCtorEq, Int.reduceLT, Int.reduceLE, Int.reduceToNat, Nat.reduceLeDiff, Nat.reduceLT, Nat.le_refl, Nat.reduceBNe, Nat.reduceBEq, implies_true, Nat.add_zero, bne_self_eq_false, beq_self_eq_true, Bool.or_true, Bool.or_false, Bool.true_or, Bool.false_or, Bool.false_and, Bool.and_false, nb_map, nb_nil, nb_cons, nb_app, C.nb, callP, callO, rootsOf, rootsW, argFs, argF, Fs.none, dedup, rootsD, rootsC, List.flatMap_cons, List.flatMap_nil, List.filterMap_cons, List.filterMap_nil, Yg, argD, argC, argCs, List.contains_nil, List.contains_cons, objsAt, objOf, List.idxOf?, List.findIdx?, List.findIdx?.go, setObjs, settle, settle1, settleC, settleDs, Yl, List.isEmpty_cons, dI, dB, hc0, false_implies, hi1, hai, hbi, hgx, hgy, hs1, hs2, hsl, List.length_map, List.length_set, fate_take, fate_cp, fate_len, fate_drop, fate_cpy, fate_st, fate_dat, Int.toNat_natCast, Int.natCast_nonneg, p0, show IntKind.i64.wrap (↑(a + i) : Int) = _ from wrap_i64 _ (by omega) (by omega), show IntKind.i64.wrap (↑(b + i) : Int) = _ from wrap_i64 _ (by omega) (by omega), tk22, tsz28, show ((↑(b + i) : Int) < (↑l.length : Int)) = True from eq_true (by omega), tk28, show ((↑(a + i) : Int) < (↑l.length : Int)) = True from eq_true (by omega), ZA]; rfl) ?_), ?_⟩
    show Tri _ _ _ _
    refine Yk ok0 rfl (by repeat first | with_reducible exact Y2 | refine Y1 (by simp only [runf, Y5, Y4, Y6, evsA, qev, St.ev, St.put, St.with, D.cells, D.cell, D.int, boxA, qload, Y9, qmk, C.cpy, TK.agg, qnil, Yb, qpart, qfield, qindexAddr, qindex, qpick, qint, Yc, qstr, isEq, qeq, Ya, qbin, eqC, eqCs, qun, qconv, qbounds, qslice, qlen, qext, omap, q2, qbuiltin, liveR, C.st, C.cp, C.dat, storeA, putCells, Y8, Y7, List.replicate, List.singleton_append, Option.bind_none, Bool.and_true, Bool.true_and, Nat.reduceAdd, Nat.reduceSub, Nat.reduceMul, Nat.reduceEqDiff, reduceIte, if_true, if_false, and_true, true_and, decide_true, decide_false, Bool.not_true, Bool.not_false, cond_true, cond_false, forall_const, ne_eq, Array.toList, reduceCtorEq, Int.reduceLT, Int.reduceLE, Int.reduceToNat, Nat.reduceLeDiff, Nat.reduceLT, Nat.le_refl, Nat.reduceBNe, Nat.reduceBEq, implies_true, Nat.add_zero, bne_self_eq_false, beq_self_eq_true, Bool.or_true, Bool.or_false, Bool.true_or, Bool.false_or, Bool.false_and, Bool.and_false, nb_map, nb_nil, nb_cons, nb_app, C.nb, callP, callO, rootsOf, rootsW, argFs, argF, Fs.none, dedup, rootsD, rootsC, List.flatMap_cons, List.flatMap_nil, List.filterMap_cons, List.filterMap_nil, Yg, argD, argC, argCs, List.contains_nil, List.contains_cons, objsAt, objOf, List.idxOf?, List.findIdx?, List.findIdx?.go, setObjs, settle, settle1, settleC, settleDs, Yl, List.isEmpty_cons, dI, dB, hc0, false_implies, hi1, hai, hbi, hgx, hgy, hs1, hs2, hsl, List.length_map, List.length_set, fate_take, fate_cp, fate_len, fate_drop, fate_cpy, fate_st, fate_dat, Int.toNat_natCast, Int.natCast_nonneg, p0, tk22, tsz28, tk28, show IntKind.i64.wrap (↑(i + 1) : Int) = _ from wrap_i64 _ (by omega) (by omega), ZA]; rfl) ?_) ?_
    simp only [Z12, Z23, Z15]
    (exact ⟨m - 1, by omega, ⟨[.c (.h 0 0 l.length), .c (.v (.int .i64 (a : Nat))), .c (.v (.int .i64 (b : Nat))), .c (.v (.int .i64 (k : Nat))), .c (.f 19 []), .top, .top, .top, .top, .top, .c (.v (.int .i64 (i + 1 : Nat))), .top, .top, .top, .top, .top, .top, .top, .top, .top, .top, .top, .top, .top, .top, .top, .top, .top, .top, .top, .top, .top, .top, .top, .top, .top, .top, .top], [some ⟨false, 6, (swapG l a b (i + 1)).map fateC⟩]⟩, ⟨by repeat (first | exact .nil | refine .same ?_ | refine .top ?_), (by rw [hsu (by omega)])⟩, i + 1, by omega, rfl⟩)
  ·
    simp only [decide_eq_true_eq, decide_eq_false_iff_not, Bool.not_eq_true', Bool.not_eq_false', Bool.and_eq_true, Bool.or_eq_true, Bool.not_eq_true, bne_iff_ne, beq_iff_eq] at p0
    refine tri_exit ?_
    simp only [Z12, Z23, Z15]
    (show Ends _ _ _ _ _ _; refine ends_norm (d := .t []) (ids := []) (objs := [⟨6, li.map fateC⟩]) rfl (fates_obj li _) .nil (by simp) ?_; have e : i = k := (by omega); subst e; rw [hli] at hQ; exact hQ)
end Go.Dl
