/- Plain law: where the symmetric merge parts two lists in order; The walk of the insertion sort; Plain law: the steps of the symmetric merge at fates; Plain law: blocks in order become greater blocks in order. -/
import Derived.Test.YtnflfefopdieiaaE07
set_option linter.all false
namespace Go.Dl
set_option linter.unusedVariables false
set_option linter.unusedSectionVars false
section
variable {α : Type} {lt : α → α → Bool} (hs : Swo lt)
include hs
theorem mid_lt {a b : List α} (ha : inOrd lt a) (hb : inOrd lt b) (h : ∀ f l, a.head? = some f → b.getLast? = some l → lt l f = true) : ∀ x ∈ a, ∀ y ∈ b, lt y x = true := by
  intro x hx y hy
  cases a with
  | nil => cases hx
  | cons f r =>
    obtain ⟨p, l, rfl⟩ := list_last (l := b) (List.length_pos_of_mem hy)
    have hl := h f l rfl (by simp)
    have h1 : lt x f = false := by
      rcases List.mem_cons.1 hx with rfl | hx
      · exact hs.irr _
      · exact (List.pairwise_cons.1 ha).1 x hx
    have h2 : lt l y = false := by
      rcases List.mem_append.1 hy with hy | hy
      · exact (List.pairwise_append.1 hb).2.2 y hy l (List.mem_singleton.2 rfl)
      · rw [List.mem_singleton.1 hy]; exact hs.irr _
    rcases hs.neg l y f hl with h3 | h3
    · rw [h2] at h3; cases h3
    · rcases hs.neg y x f h3 with h4 | h4
      · exact h4
      · rw [h1] at h4; cases h4
theorem mid_ge {a b : List α} (ha : inOrd lt a) (hb : inOrd lt b) (h : ∀ l f, a.getLast? = some l → b.head? = some f → lt f l = false) : ∀ x ∈ a, ∀ y ∈ b, lt y x = false := by
  intro x hx y hy
  cases b with
  | nil => cases hy
  | cons f r =>
    obtain ⟨p, l, rfl⟩ := list_last (l := a) (List.length_pos_of_mem hx)
    have hl := h l f (by simp) rfl
    have h1 : lt y f = false := by
      rcases List.mem_cons.1 hy with rfl | hy
      · exact hs.irr _
      · exact (List.pairwise_cons.1 hb).1 y hy
    have h2 : lt l x = false := by
      rcases List.mem_append.1 hx with hx | hx
      · exact (List.pairwise_append.1 ha).2.2 x hx l (List.mem_singleton.2 rfl)
      · rw [List.mem_singleton.1 hx]; exact hs.irr _
    cases hyx : lt y x with
    | false => rfl
    | true =>
      rcases hs.neg y f x hyx with h3 | h3
      · rw [h1] at h3; cases h3
      · rcases hs.neg f l x h3 with h4 | h4
        · rw [hl] at h4; cases h4
        · rw [h2] at h4; cases h4
end
/-- A part of a list. -/
def seg {α : Type} (l : List α) (a b : Nat) : List α := (l.drop a).take (b - a)
section
variable {α : Type} {lt : α → α → Bool}
theorem seg_len (l : List α) {a b : Nat} (h1 : a ≤ b) (h2 : b ≤ l.length) : (seg l a b).length = b - a := by unfold seg; rw [List.length_take, List.length_drop]; omega
theorem seg_split (l : List α) {a b c : Nat} (h1 : a ≤ b) (h2 : b ≤ c) : seg l a c = seg l a b ++ seg l b c := by
  unfold seg
  have h := List.take_add (l := l.drop a) (i := b - a) (j := c - b)
  rw [show b - a + (c - b) = c - a by omega, List.drop_drop, show a + (b - a) = b by omega] at h
  exact h
theorem seg_head (l : List α) {a b : Nat} (h1 : a < b) (h2 : b ≤ l.length) : (seg l a b).head? = l[a]? := by
  unfold seg
  rw [List.head?_take, if_neg (by omega), List.head?_drop]
theorem seg_last (l : List α) {a b : Nat} (h1 : a < b) (h2 : b ≤ l.length) : (seg l a b).getLast? = l[b - 1]? := by
  rw [List.getLast?_eq_getElem?, seg_len l (by omega) h2]
  unfold seg
  rw [List.getElem?_take, if_pos (by omega), List.getElem?_drop, show a + (b - a - 1) = b - 1 by omega]
theorem ord_seg {l : List α} {a b c d : Nat} (h : inOrd lt (seg l a d)) (h1 : a ≤ b) (h2 : b ≤ c) (h3 : c ≤ d) : inOrd lt (seg l b c) := by
  rw [seg_split l h1 (by omega : b ≤ d), seg_split l h2 h3] at h
  exact (ord_app.1 (ord_app.1 h).2.1).1
variable (hs : Swo lt)
include hs
/-- The symmetric merge's step: from what the search found to the two halves. -/
theorem sym_step {l : List α} {a m b s e : Nat} (hab : a ≤ s) (hsm : s ≤ m) (hme : m ≤ e) (heb : e ≤ b) (hbl : b ≤ l.length) (hA : inOrd lt (seg l a m)) (hB : inOrd lt (seg l m b))
    (h1 : s < m → m < e → ∀ x y, l[s]? = some x → l[e - 1]? = some y → lt y x = true) (h2 : a < s → e < b → ∀ x y, l[s - 1]? = some x → l[e]? = some y → lt y x = false) :
    srt lt (seg l a b) = srt lt (seg l a s ++ seg l m e) ++ srt lt (seg l s m ++ seg l e b) := by
  rw [seg_split l (by omega : a ≤ m) (by omega : m ≤ b), seg_split l hab hsm, seg_split l hme heb]
  rw [seg_split l hab hsm] at hA
  rw [seg_split l hme heb] at hB
  obtain ⟨o1, o2, o3⟩ := ord_app.1 hA
  obtain ⟨q1, q2, q3⟩ := ord_app.1 hB
  refine srt_sym hs hA hB (mid_lt hs o2 q1 ?_) (mid_ge hs o1 q2 ?_)
  · intro f y hf hy
    by_cases hsm' : s < m
    · by_cases hme' : m < e
      · rw [seg_head l hsm' (by omega)] at hf
        rw [seg_last l hme' (by omega)] at hy
        exact h1 hsm' hme' f y hf hy
      · have : e = m := by omega
        subst this
        rw [show seg l e e = [] by unfold seg; simp] at hy
        cases hy
    · have : s = m := by omega
      subst this
      rw [show seg l s s = [] by unfold seg; simp] at hf
      cases hf
  · intro x f hx hf
    by_cases has : a < s
    · by_cases heb' : e < b
      · rw [seg_last l has (by omega)] at hx
        rw [seg_head l heb' hbl] at hf
        exact h2 has heb' x f hx hf
      · have : e = b := by omega
        subst this
        rw [show seg l e e = [] by unfold seg; simp] at hf
        cases hf
    · have : s = a := by omega
      subst this
      rw [show seg l s s = [] by unfold seg; simp] at hx
      cases hx
/-- One ahead of a list in order goes to its place. -/
theorem one_ahead {l : List α} {m i b : Nat} {x : α} (h1 : m ≤ i) (h2 : i ≤ b) (hb : b ≤ l.length) (hB : inOrd lt (seg l m b)) (ha : m < i → ∀ y, l[i - 1]? = some y → lt y x = true) (hc : i < b → ∀ y, l[i]? = some y → lt y x = false) :
    srt lt (x :: seg l m b) = seg l m i ++ x :: seg l i b := by
  rw [seg_split l h1 h2] at hB ⊢
  obtain ⟨o1, o2, o3⟩ := ord_app.1 hB
  have hx : inOrd lt [x] := List.pairwise_singleton _ _
  refine srt_cons hs hB (fun y hy => mid_lt hs hx o1 (fun f z hf hz => ?_) x (List.mem_singleton.2 rfl) y hy) (fun y hy => mid_ge hs hx o2 (fun z f hz hf => ?_) x (List.mem_singleton.2 rfl) y hy)
  · have hmi : m < i := by
      apply Classical.byContradiction; intro hn
      have : i = m := by omega
      subst this
      rw [show seg l i i = [] by unfold seg; simp] at hy
      cases hy
    rw [seg_last l hmi (by omega)] at hz
    obtain rfl : x = f := by simpa using hf
    exact ha hmi z hz
  · have hib : i < b := by
      apply Classical.byContradiction; intro hn
      have : b = i := by omega
      subst this
      rw [show seg l b b = [] by unfold seg; simp] at hy
      cases hy
    rw [seg_head l hib hb] at hf
    obtain rfl : x = z := by simpa using hz
    exact hc hib f hf
/-- One behind a list in order goes to its place. -/
theorem one_behind {l : List α} {a i m : Nat} {y : α} (h1 : a ≤ i) (h2 : i ≤ m) (hb : m ≤ l.length) (hA : inOrd lt (seg l a m)) (ha : a < i → ∀ z, l[i - 1]? = some z → lt y z = false) (hc : i < m → ∀ z, l[i]? = some z → lt y z = true) :
    srt lt (seg l a m ++ [y]) = seg l a i ++ y :: seg l i m := by
  rw [seg_split l h1 h2] at hA ⊢
  obtain ⟨o1, o2, o3⟩ := ord_app.1 hA
  have hx : inOrd lt [y] := List.pairwise_singleton _ _
  refine srt_snoc hs hA (fun z hz => mid_ge hs o1 hx (fun w f hw hf => ?_) z hz y (List.mem_singleton.2 rfl)) (fun z hz => mid_lt hs o2 hx (fun f w hf hw => ?_) z hz y (List.mem_singleton.2 rfl))
  · have hai : a < i := by
      apply Classical.byContradiction; intro hn
      have : i = a := by omega
      subst this
      rw [show seg l i i = [] by unfold seg; simp] at hz
      cases hz
    rw [seg_last l hai (by omega)] at hw
    obtain rfl : y = f := by simpa using hf
    exact ha hai w hw
  · have him : i < m := by
      apply Classical.byContradiction; intro hn
      have : m = i := by omega
      subst this
      rw [show seg l m m = [] by unfold seg; simp] at hz
      cases hz
    rw [seg_head l him hb] at hf
    obtain rfl : y = w := by simpa using hw
    exact hc him f hf
end
end Go.Dl

namespace Go.Dl
open Go.RowKit
open Go.Proofs
set_option linter.unusedSimpArgs false
set_option linter.unusedVariables false
theorem fate_arg (H : List (Option Root)) (ρ : List Nat) (f : FateM) : argCs H ρ (fateC f) = some (fateC f, []) := rfl
/-- A part of a list in order. -/
def sortTo (l : List FateM) (a i : Nat) : List FateM := l.take a ++ (srt ltF (seg l a i) ++ l.drop i)
theorem sortTo_one (l : List FateM) (a : Nat) : sortTo l a (a + 1) = l := by
  unfold sortTo seg
  rw [show a + 1 - a = 1 by omega]
  by_cases h : a < l.length
  · rw [List.drop_eq_getElem_cons h]
    simp only [Z17, Z20, srt, insL, Z23, Z12]
    rw [← List.drop_eq_getElem_cons h, List.take_append_drop]
  · rw [List.drop_eq_nil_of_le (by omega : l.length ≤ a), List.drop_eq_nil_of_le (by omega), List.take_of_length_le (by omega)]
    simp [srt]
theorem sortTo_nil (l : List FateM) (a : Nat) : sortTo l a a = l := by
  unfold sortTo seg
  simp [srt]
theorem sort_end {l : List FateM} {a b i : Nat} (h1 : a + 1 ≤ i) (h2 : a ≤ b) (h3 : b ≤ i) (h4 : i ≤ b + 1) (h5 : i = b + 1 → a = b) : sortTo l a i = sortTo l a b := by
  by_cases h : i = b
  · rw [h]
  · have hb : i = b + 1 := by omega
    have ha := h5 hb
    subst ha
    subst hb
    rw [sortTo_one, sortTo_nil]
theorem sortTo_len {l : List FateM} {a i : Nat} (h1 : a ≤ i) (h2 : i ≤ l.length) : (sortTo l a i).length = l.length := by
  unfold sortTo
  rw [List.length_append, List.length_append, srt_len, seg_len l h1 h2, List.length_take, List.length_drop]
  omega
/-- Where an insertion stands. -/
def insI (l : List FateM) (a i j : Nat) (cur : List FateM) : Prop := ∃ (P Q : List FateM) (x : FateM), cur = l.take a ++ (P ++ x :: (Q ++ l.drop (i + 1))) ∧ P.length + a = j ∧ srt ltF (seg l a i) = P ++ Q ∧ l[i]? = some x ∧ a ≤ i ∧ ∀ y ∈ Q, ltF x y = true
theorem ins_start {l : List FateM} {a i : Nat} (h1 : a ≤ i) (h2 : i < l.length) : insI l a i i (sortTo l a i) := by
  refine ⟨srt ltF (seg l a i), [], l[i], ?_, ?_, by simp, List.getElem?_eq_getElem h2, h1, by simp⟩
  · unfold sortTo
    rw [List.nil_append, ← List.drop_eq_getElem_cons h2]
  · rw [srt_len, seg_len l h1 (by omega)]; omega
theorem ins_bd {l cur : List FateM} {a i j : Nat} (h : insI l a i j cur) : cur.length = l.length ∧ a ≤ j ∧ j ≤ i := by
  obtain ⟨P, Q, x, rfl, h1, h2, h3, h4, _⟩ := h
  have hil : i < l.length := by
    rcases Nat.lt_or_ge i l.length with h | h
    · exact h
    · rw [List.getElem?_eq_none h] at h3; cases h3
  have hlen := congrArg List.length h2
  rw [srt_len, seg_len l h4 (by omega), List.length_append] at hlen
  refine ⟨?_, by omega, by omega⟩
  simp only [List.length_append, List.length_take, List.length_drop, Z9]
  omega
theorem ins_at {l cur : List FateM} {a i j : Nat} (P Q : List FateM) (x : FateM) (hc : cur = l.take a ++ (P ++ x :: (Q ++ l.drop (i + 1)))) (hP : P.length + a = j) (ha : a ≤ l.length) : cur.getD j f0 = x := by
  subst hc
  have : l.take a ++ (P ++ x :: (Q ++ l.drop (i + 1))) = (l.take a ++ P) ++ x :: (Q ++ l.drop (i + 1)) := by simp
  rw [this, List.getD_eq_getElem?_getD, show j = (l.take a ++ P).length by simp; omega, at_mid]
  rfl
theorem ins_at2 {l cur : List FateM} {a i j : Nat} (P Q : List FateM) (x y : FateM) (hc : cur = l.take a ++ ((P ++ [y]) ++ x :: (Q ++ l.drop (i + 1)))) (hP : (P ++ [y]).length + a = j) (ha : a ≤ l.length) : cur.getD (j - 1) f0 = y := by
  subst hc
  have : l.take a ++ ((P ++ [y]) ++ x :: (Q ++ l.drop (i + 1))) = (l.take a ++ P) ++ y :: (x :: (Q ++ l.drop (i + 1))) := by simp
  rw [this, List.getD_eq_getElem?_getD, show j - 1 = (l.take a ++ P).length by simp at hP ⊢; omega, at_mid]
  rfl
theorem ins_step {l cur : List FateM} {a i j : Nat} (h : insI l a i j cur) (haj : a < j) (hlt : ltF (cur.getD j f0) (cur.getD (j - 1) f0) = true) : insI l a i (j - 1) (swap2 cur j (j - 1)) := by
  obtain ⟨hcl, _, hji⟩ := ins_bd h
  obtain ⟨P, Q, x, hc, h1, h2, h3, h4, h5⟩ := h
  have hil := lt_len h3
  obtain ⟨P', y, rfl⟩ := list_last (l := P) (by omega)
  have e1 := ins_at (P' ++ [y]) Q x hc h1 (by omega)
  have e2 := ins_at2 P' Q x y hc h1 (by omega)
  rw [e1, e2] at hlt
  refine ⟨P', y :: Q, x, ?_, by simp at h1 ⊢; omega, by rw [h2]; simp, h3, h4, fun z hz => ?_⟩
  · unfold swap2
    rw [e1, e2, hc]
    have hA : l.take a ++ ((P' ++ [y]) ++ x :: (Q ++ l.drop (i + 1))) = (l.take a ++ P') ++ y :: x :: (Q ++ l.drop (i + 1)) := by simp
    have hp : (l.take a ++ P').length + 1 = j := by simp at h1 ⊢; omega
    rw [hA, ← hp, Nat.add_sub_cancel, swap_adj]
    simp
  · rcases List.mem_cons.1 hz with rfl | hz
    · exact hlt
    · exact h5 z hz
theorem ins_done {l cur : List FateM} {a i j : Nat} (h : insI l a i j cur) (hge : a < j → ltF (cur.getD j f0) (cur.getD (j - 1) f0) = false) : cur = sortTo l a (i + 1) := by
  obtain ⟨P, Q, x, hc, h1, h2, h3, h4, h5⟩ := h
  have hil := lt_len h3
  have hx := List.getElem?_eq_getElem hil
  rw [h3] at hx
  obtain rfl : x = l[i] := Option.some.inj hx
  have e1 := ins_at P Q _ hc h1 (by omega)
  have hord : inOrd ltF (P ++ Q) := by rw [← h2]; exact (srt_ord swoF _).1
  have hP : ∀ y ∈ P, ltF l[i] y = false := by
    intro y hy
    obtain ⟨P', v, rfl⟩ := list_last (l := P) (List.length_pos_of_mem hy)
    have e2 := ins_at2 P' Q _ v hc h1 (by omega)
    have hv := hge (by simp at h1; omega)
    rw [e1, e2] at hv
    rcases List.mem_append.1 hy with hy | hy
    · have := (List.pairwise_append.1 (ord_app.1 hord).1).2.2 y hy v (List.mem_singleton.2 rfl)
      cases hxy : ltF l[i] y with
      | false => rfl
      | true =>
        rcases swoF.neg l[i] v y hxy with h | h
        · rw [hv] at h; cases h
        · rw [this] at h; cases h
    · rw [List.mem_singleton.1 hy]; exact hv
  have hs := srt_snoc swoF hord hP h5
  have hseg : seg l a (i + 1) = seg l a i ++ [l[i]] := by
    rw [seg_split l h4 (Nat.le_succ i)]
    congr 1
    unfold seg
    rw [show i + 1 - i = 1 by omega, List.drop_eq_getElem_cons hil]
    rfl
  rw [hc]
  unfold sortTo
  rw [hseg, ← srt_nest swoF (seg l a i) [l[i]], h2, show srt ltF [l[i]] = [l[i]] from rfl, hs]
  simp
noncomputable def oIns : List D → List Obj → Option (D × List Obj) := famO (fun x : List FateM × Nat × Nat => x.2.1 ≤ x.2.2 ∧ x.2.2 ≤ x.1.length ∧ x.1.length ≤ 1000000)
  (fun x => ([.c (.h 0 0 x.1.length), .c (.v (.int .i64 (x.2.1 : Nat))), .c (.v (.int .i64 (x.2.2 : Nat))), .c (.f 19 [])], [⟨6, x.1.map fateC⟩])) (fun x => (.t [], [⟨6, (sortTo x.1 x.2.1 x.2.2).map fateC⟩]))
theorem ins_call (l : List FateM) (a b : Nat) (h1 : a ≤ b) (h4 : b ≤ l.length) (h3 : l.length ≤ 1000000) {n : Nat} (hn : l.length = n) :
    oIns [.c (.h 0 0 n), .c (.v (.int .i64 (a : Nat))), .c (.v (.int .i64 (b : Nat))), .c (.f 19 [])] [⟨6, l.map fateC⟩] = some (.t [], [⟨6, (sortTo l a b).map fateC⟩]) := by
  subst hn
  refine famO_at (fun x y h => ?_) (l, a, b) ⟨h1, h4, h3⟩ rfl
  simp only [Prod.mk.injEq, List.cons.injEq, D.c.injEq, C.v.injEq, Value.int.injEq, Obj.mk.injEq, true_and, and_true, Int.natCast_inj] at h
  obtain ⟨⟨_, e1, e2⟩, e4⟩ := h
  rw [fates_inj e4, e1, e2]
noncomputable def FsFd : Fs := { pure := fun k => if k = 19 then some pOrd else none, objs := fun _ => none }
theorem okFd : FsOK Try.prog FsFd := by
  refine ⟨fun k f h => ?_, fun _ _ h => (by cases h)⟩
  simp only [FsFd] at h
  split at h
  · rename_i hk; subst hk; cases h; exact ⟨by kernel_rfl, meets19⟩
  · cases h
set_option maxRecDepth 100000 in
set_option maxHeartbeats 4000000 in
theorem meets22 : Meets Try.prog 22 (detS oIns) := by
  refine meets_famO (show Try.prog.funcs[22]? = some Try.f22 by kernel_rfl) rfl (n := 53) rfl (rs := []) rfl ?_
  rintro ⟨l, a, b⟩ ⟨hab, h2, h3⟩ Q hQ
  dsimp only at hab h2 h3 hQ
  have hc0 : ((0 : Nat) : Int) = 0 := rfl
  have ha1 : (a : Int) + 1 = ((a + 1 : Nat) : Int) := by omega
  refine Y3 okFd rfl (by repeat first | with_reducible exact Y2 | refine Y1 (by simp only [runf, Y5, Y4, Y6, evsA, qev, St.ev, St.put, St.with, D.cells, D.cell, D.int, boxA, qload, Y9, qmk, C.cpy, TK.agg, qnil, Yb, qpart, qfield, qindexAddr, qindex, qpick, qint, Yc, qstr, isEq, qeq, Ya, qbin, eqC, eqCs, qun, qconv, qbounds, qslice, qlen, qext, omap, q2, qbuiltin, liveR, C.st, C.cp, C.dat, storeA, putCells, Y8, Y7, List.replicate, List.singleton_append, Option.bind_none, Bool.and_true, Bool.true_and, Nat.reduceAdd, Nat.reduceSub, Nat.reduceMul, Nat.reduceEqDiff, reduceIte, if_true, if_false, and_true, true_and, decide_true, decide_false, Bool.not_true, Bool.not_false, cond_true, cond_false, forall_const, ne_eq, Array.toList, reduceCtorEq, Int.reduceLT, Int.reduceLE, Int.reduceToNat, Nat.reduceLeDiff, Nat.reduceLT, Nat.le_refl, Nat.reduceBNe, Nat.reduceBEq, implies_true, Nat.add_zero, bne_self_eq_false, beq_self_eq_true, Bool.or_true, Bool.or_false, Bool.true_or, Bool.false_or, Bool.false_and, Bool.and_false, nb_map, nb_nil, nb_cons, nb_app, C.nb, callP, callO, rootsOf, rootsW, argFs, argF, Fs.none, dedup, rootsD, rootsC, List.flatMap_cons, List.flatMap_nil, List.filterMap_cons, List.filterMap_nil, Yg, argD, argC, argCs, List.contains_nil, List.contains_cons, objsAt, objOf, List.idxOf?, List.findIdx?, List.findIdx?.go, setObjs, settle, settle1, settleC, settleDs, Yl, List.isEmpty_cons, dI, dB, hc0, ha1, false_implies, show IntKind.i64.wrap (↑(a + 1) : Int) = _ from wrap_i64 _ (by omega) (by omega), ZA]; rfl) ?_) ?_
  refine tri_block ?_
  refine tri_loop_le (fun z A => ∃ i : Nat, z + i = b + 1 ∧ a + 1 ≤ i ∧ (i ≤ b ∨ i = a + 1) ∧ A = ⟨[.c (.h 0 0 l.length), .c (.v (.int .i64 (a : Nat))), .c (.v (.int .i64 (b : Nat))), .c (.f 19 []), .top, .top, .top, .top, .c (.v (.int .i64 (i : Nat))), .top, .top, .top, .top, .top, .top, .top, .top, .top, .top, .top, .top, .top, .top, .top, .top, .top, .top, .top, .top, .top, .top, .top, .top, .top, .top, .top, .top, .top, .top, .top, .top, .top, .top, .top, .top, .top, .top, .top, .top, .top, .top, .top, .top], [some ⟨false, 6, (sortTo l a i).map fateC⟩]⟩) (b - a) (B := ⟨[.c (.h 0 0 l.length), .c (.v (.int .i64 (a : Nat))), .c (.v (.int .i64 (b : Nat))), .c (.f 19 []), .top, .top, .top, .top, .c (.v (.int .i64 (a + 1 : Nat))), .top, .top, .top, .top, .top, .top, .top, .top, .top, .top, .top, .top, .top, .top, .top, .top, .top, .top, .top, .top, .top, .top, .top, .top, .top, .top, .top, .top, .top, .top, .top, .top, .top, .top, .top, .top, .top, .top, .top, .top, .top, .top, .top, .top], [some ⟨false, 6, l.map fateC⟩]⟩) ⟨by repeat (first | exact .nil | refine .same ?_ | refine .top ?_), rfl⟩ ⟨a + 1, by omega, Nat.le_refl _, .inr rfl, by rw [sortTo_one]⟩ ?_
  rintro z A ⟨i, hz, hai, hio, rfl⟩
  have hi1 : (i : Int) + 1 = ((i + 1 : Nat) : Int) := by omega
  obtain ⟨ci, hci⟩ : ∃ c, sortTo l a i = c := ⟨_, rfl⟩
  have hend : ¬ (i : Int) < (b : Int) → Q (.t []) [⟨6, ci.map fateC⟩] := (by intro h; rw [← hci, sort_end hai hab (by omega) (by omega) (by omega)]; exact hQ)
  have hst0 : (i : Int) < (b : Int) → insI l a i i ci := (by intro h; rw [← hci]; exact ins_start (by omega) (by omega))
  rw [hci]
  refine seq_in ?_
  refine Y3 okFd rfl (by repeat first | with_reducible exact Y2 | refine Y1 (by simp only [runf, Y5, Y4, Y6, evsA, qev, St.ev, St.put, St.with, D.cells, D.cell, D.int, boxA, qload, Y9, qmk, C.cpy, TK.agg, qnil, Yb, qpart, qfield, qindexAddr, qindex, qpick, qint, Yc, qstr, isEq, qeq, Ya, qbin, eqC, eqCs, qun, qconv, qbounds, qslice, qlen, qext, omap, q2, qbuiltin, liveR, C.st, C.cp, C.dat, storeA, putCells, Y8, Y7, List.replicate, List.singleton_append, Option.bind_none, Bool.and_true, Bool.true_and, Nat.reduceAdd, Nat.reduceSub, Nat.reduceMul, Nat.reduceEqDiff, reduceIte, if_true, if_false, and_true, true_and, decide_true, decide_false, Bool.not_true, Bool.not_false, cond_true, cond_false, forall_const, ne_eq, Array.toList, reduceCtorEq, Int.reduceLT, Int.reduceLE, Int.reduceToNat, Nat.reduceLeDiff, Nat.reduceLT, Nat.le_refl, Nat.reduceBNe, Nat.reduceBEq, implies_true, Nat.add_zero, bne_self_eq_false, beq_self_eq_true, Bool.or_true, Bool.or_false, Bool.true_or, Bool.false_or, Bool.false_and, Bool.and_false, nb_map, nb_nil, nb_cons, nb_app, C.nb, callP, callO, rootsOf, rootsW, argFs, argF, Fs.none, dedup, rootsD, rootsC, List.flatMap_cons, List.flatMap_nil, List.filterMap_cons, List.filterMap_nil, Yg, argD, argC, argCs, List.contains_nil, List.contains_cons, objsAt, objOf, List.idxOf?, List.findIdx?, List.findIdx?.go, setObjs, settle, settle1, settleC, settleDs, Yl, List.isEmpty_cons, dI, dB, hc0, ha1, false_implies, hi1, Int.toNat_natCast, Int.natCast_nonneg, ZA]; rfl) ?_) ?_
  refine Yf rfl (fun p0 => ?_) (fun p0 => ?_)
  ·
    simp only [decide_eq_true_eq, decide_eq_false_iff_not, Bool.not_eq_true', Bool.not_eq_false', Bool.and_eq_true, Bool.or_eq_true, Bool.not_eq_true, bne_iff_ne, beq_iff_eq] at p0
    refine Ye ?_
    refine seq_in (tri_block ?_)
    refine Y3 okFd rfl (by repeat first | with_reducible exact Y2 | refine Y1 (by simp only [runf, Y5, Y4, Y6, evsA, qev, St.ev, St.put, St.with, D.cells, D.cell, D.int, boxA, qload, Y9, qmk, C.cpy, TK.agg, qnil, Yb, qpart, qfield, qindexAddr, qindex, qpick, qint, Yc, qstr, isEq, qeq, Ya, qbin, eqC, eqCs, qun, qconv, qbounds, qslice, qlen, qext, omap, q2, qbuiltin, liveR, C.st, C.cp, C.dat, storeA, putCells, Y8, Y7, List.replicate, List.singleton_append, Option.bind_none, Bool.and_true, Bool.true_and, Nat.reduceAdd, Nat.reduceSub, Nat.reduceMul, Nat.reduceEqDiff, reduceIte, if_true, if_false, and_true, true_and, decide_true, decide_false, Bool.not_true, Bool.not_false, cond_true, cond_false, forall_const, ne_eq, Array.toList, reduceCtorEq, Int.reduceLT, Int.reduceLE, Int.reduceToNat, Nat.reduceLeDiff, Nat.reduceLT, Nat.le_refl, Nat.reduceBNe, Nat.reduceBEq, implies_true, Nat.add_zero, bne_self_eq_false, beq_self_eq_true, Bool.or_true, Bool.or_false, Bool.true_or, Bool.false_or, Bool.false_and, Bool.and_false, nb_map, nb_nil, nb_cons, nb_app, C.nb, callP, callO, rootsOf, rootsW, argFs, argF, Fs.none, dedup, rootsD, rootsC, List.flatMap_cons, List.flatMap_nil, List.filterMap_cons, List.filterMap_nil, Yg, argD, argC, argCs, List.contains_nil, List.contains_cons, objsAt, objOf, List.idxOf?, List.findIdx?, List.findIdx?.go, setObjs, settle, settle1, settleC, settleDs, Yl, List.isEmpty_cons, dI, dB, hc0, ha1, false_implies, hi1, Int.toNat_natCast, Int.natCast_nonneg, p0, ZA]; rfl) ?_) ?_
    refine tri_block ?_
    refine tri_loop_le (fun y A => ∃ (j : Nat) (cur : List FateM), y + a = j ∧ insI l a i j cur ∧ A = ⟨[.c (.h 0 0 l.length), .c (.v (.int .i64 (a : Nat))), .c (.v (.int .i64 (b : Nat))), .c (.f 19 []), .top, .top, .top, .top, .c (.v (.int .i64 (i : Nat))), .c (.v (.int .i64 (j : Nat))), .top, .top, .top, .top, .top, .top, .top, .top, .top, .top, .top, .top, .top, .top, .top, .top, .top, .top, .top, .top, .top, .top, .top, .top, .top, .top, .top, .top, .top, .top, .top, .top, .top, .top, .top, .top, .top, .top, .top, .top, .top, .top, .top], [some ⟨false, 6, cur.map fateC⟩]⟩) (i - a) (B := ⟨[.c (.h 0 0 l.length), .c (.v (.int .i64 (a : Nat))), .c (.v (.int .i64 (b : Nat))), .c (.f 19 []), .top, .top, .top, .top, .c (.v (.int .i64 (i : Nat))), .c (.v (.int .i64 (i : Nat))), .top, .top, .top, .top, .top, .top, .top, .top, .top, .top, .top, .top, .top, .top, .top, .top, .top, .top, .top, .top, .top, .top, .top, .top, .top, .top, .top, .top, .top, .top, .top, .top, .top, .top, .top, .top, .top, .top, .top, .top, .top, .top, .top], [some ⟨false, 6, ci.map fateC⟩]⟩) ⟨by repeat (first | exact .nil | refine .same ?_ | refine .top ?_), rfl⟩ ⟨i, ci, by omega, hst0 (by omega), rfl⟩ ?_
    rintro y A ⟨j, cur, hy, hI, rfl⟩
    have hb1 := ins_bd hI
    obtain ⟨hcl, haj, hji⟩ := hb1
    have hj1 : (a : Int) < (j : Int) → (j : Int) - 1 = ((j - 1 : Nat) : Int) := by intro _; omega
    obtain ⟨u, hu⟩ : ∃ u, cur.getD j f0 = u := ⟨_, rfl⟩
    obtain ⟨v, hv⟩ : ∃ v, cur.getD (j - 1) f0 = v := ⟨_, rfl⟩
    have hO := ord_at u v
    have hgu : (a : Int) < (j : Int) → (cur.map fateC)[j]? = some (fateC u) := (by intro h; rw [← hu]; exact fates_at (by omega))
    have hgv : (a : Int) < (j : Int) → (cur.map fateC)[j - 1]? = some (fateC v) := (by intro h; rw [← hv]; exact fates_at (by omega))
    have hs1 : (a : Int) < (j : Int) → ((cur.map fateC).set j (fateC v))[j - 1]? = some (fateC v) := (by intro h; rw [List.getElem?_set_ne (by omega)]; exact hgv h)
    have hs2 : (a : Int) < (j : Int) → ((cur.map fateC).set j (fateC v)).set (j - 1) (fateC u) = (swap2 cur j (j - 1)).map fateC := (by intro h; rw [← hu, ← hv]; exact swap2_map (by omega) (by omega))
    have hstep : a < j → ltF u v = true → insI l a i (j - 1) (swap2 cur j (j - 1)) := (by intro h1 h2; exact ins_step hI h1 (by rw [hu, hv]; exact h2))
    have hdone : (a < j → ltF u v = false) → cur = sortTo l a (i + 1) := (by intro h1; exact ins_done hI (by rw [hu, hv]; exact h1))
    generalize hlt : ltF u v = c at hstep hdone
    refine seq_in ?_
    refine Yj mixed okFd rfl (by kernel_rfl) ?_
    by_cases p1 : ((↑a : Int) < (↑j : Int))
    ·
      refine ⟨_, (by repeat first | with_reducible exact Y2 | refine Y1 (by simp only [runf, Y5, Y4, Y6, evsA, qev, St.ev, St.put, St.with, D.cells, D.cell, D.int, boxA, qload, Y9, qmk, C.cpy, TK.agg, qnil, Yb, qpart, qfield, qindexAddr, qindex, qpick, qint, Yc, qstr, isEq, qeq, Ya, qbin, eqC, eqCs, qun, qconv, qbounds, qslice, qlen, qext, omap, q2, qbuiltin, liveR, C.st, C.cp, C.dat, storeA, putCells, Y8, Y7, List.replicate, List.singleton_append, Option.bind_none, Bool.and_true, Bool.true_and, Nat.reduceAdd, Nat.reduceSub, Nat.reduceMul, Nat.reduceEqDiff, reduceIte, if_true, if_false, and_true, true_and, decide_true, decide_false, Bool.not_true, Bool.not_false, cond_true, cond_false, forall_const, ne_eq, Array.toList, reduceCtorEq, Int.reduceLT, Int.reduceLE, Int.reduceToNat, Nat.reduceLeDiff, Nat.reduceLT, Nat.le_refl, Nat.reduceBNe, Nat.reduceBEq, implies_true, Nat.add_zero, bne_self_eq_false, beq_self_eq_true, Bool.or_true, Bool.or_false, Bool.true_or, Bool.false_or, Bool.false_and, Bool.and_false, nb_map, nb_nil, nb_cons, nb_app, C.nb, callP, callO, rootsOf, rootsW, argFs, argF, Fs.none, dedup, rootsD, rootsC, List.flatMap_cons, List.flatMap_nil, List.filterMap_cons, List.filterMap_nil, Yg, argD, argC, argCs, List.contains_nil, List.contains_cons, objsAt, objOf, List.idxOf?, List.findIdx?, List.findIdx?.go, setObjs, settle, settle1, settleC, settleDs, Yl, List.isEmpty_cons, dI, dB, hc0, ha1, false_implies, hi1, Int.toNat_natCast, Int.natCast_nonneg, hj1, hO, ordF_lt, hlt, FsFd, hgu, hgv, hs1, hs2, hcl, List.length_map, List.length_set, fate_take, fate_cp, fate_len, fate_drop, fate_cpy, fate_st, fate_dat, fates_cp, fate_ni, fate_arg, Int.toNat_natCast, Int.natCast_nonneg, p0, eq_true p1, tk22, tsz28, show ((↑j : Int) < (↑l.length : Int)) = True from eq_true (by omega), tk28, show IntKind.i64.wrap (↑(j - 1) : Int) = _ from wrap_i64 _ (by omega) (by omega), show ((↑(j - 1) : Int) < (↑l.length : Int)) = True from eq_true (by omega), ZA]; rfl) ?_), ?_⟩
      refine Yf rfl (fun p2 => ?_) (fun p2 => ?_)
      ·
        refine Ye ?_
        refine seq_in (tri_block ?_)
        refine any_endE mixed okFd rfl (by kernel_rfl) ?_
        refine ⟨_, (by repeat first | with_reducible exact Y2 | refine Y1 (by simp only [runf, Y5, Y4, Y6, evsA, qev, St.ev, St.put, St.with, D.cells, D.cell, D.int, boxA, qload, Y9, qmk, C.cpy, TK.agg, qnil, Yb, qpart, qfield, qindexAddr, qindex, qpick, qint, Yc, qstr, isEq, qeq, Ya, qbin, eqC, eqCs, qun, qconv, qbounds, qslice, qlen, qext, omap, q2, qbuiltin, liveR, C.st, C.cp, C.dat, storeA, putCells, Y8, Y7, List.replicate, List.singleton_append, Option.bind_none, Bool.and_true, Bool.true_and, Nat.reduceAdd, Nat.reduceSub, Nat.reduceMul, Nat.reduceEqDiff, reduceIte, if_true, if_false, and_true, true_and, decide_true, decide_false, Bool.not_true, Bool.not_false, cond_true, cond_false, forall_const, ne_eq, Array.toList, reduceCtorEq, Int.reduceLT, Int.reduceLE, Int.reduceToNat, Nat.reduceLeDiff, Nat.reduceLT, Nat.le_refl, Nat.reduceBNe, Nat.reduceBEq, implies_true, Nat.add_zero, bne_self_eq_false, beq_self_eq_true, Bool.or_true, Bool.or_false, Bool.true_or, Bool.false_or, Bool.false_and, Bool.and_false, nb_map, nb_nil, nb_cons, nb_app, C.nb, callP, callO, rootsOf, rootsW, argFs, argF, Fs.none, dedup, rootsD, rootsC, List.flatMap_cons, List.flatMap_nil, List.filterMap_cons, List.filterMap_nil, Yg, argD, argC, argCs, List.contains_nil, List.contains_cons, objsAt, objOf, List.idxOf?, List.findIdx?, List.findIdx?.go, setObjs, settle, settle1, settleC, settleDs, Yl, List.isEmpty_cons, dI, dB, hc0, ha1, false_implies, hi1, Int.toNat_natCast, Int.natCast_nonneg, hj1, hO, ordF_lt, hlt, FsFd, hgu, hgv, hs1, hs2, hcl, List.length_map, List.length_set, fate_take, fate_cp, fate_len, fate_drop, fate_cpy, fate_st, fate_dat, fates_cp, fate_ni, fate_arg, Int.toNat_natCast, Int.natCast_nonneg, p0, eq_true p1, tk22, tsz28, tk28, p2, show IntKind.i64.wrap (↑(j - 1) : Int) = _ from wrap_i64 _ (by omega) (by omega), show ((↑(j - 1) : Int) < (↑l.length : Int)) = True from eq_true (by omega), show ((↑j : Int) < (↑l.length : Int)) = True from eq_true (by omega), ZA]; rfl) ?_), ?_⟩
        show Tri _ _ _ _
        refine Yk okFd rfl (by repeat first | with_reducible exact Y2 | refine Y1 (by simp only [runf, Y5, Y4, Y6, evsA, qev, St.ev, St.put, St.with, D.cells, D.cell, D.int, boxA, qload, Y9, qmk, C.cpy, TK.agg, qnil, Yb, qpart, qfield, qindexAddr, qindex, qpick, qint, Yc, qstr, isEq, qeq, Ya, qbin, eqC, eqCs, qun, qconv, qbounds, qslice, qlen, qext, omap, q2, qbuiltin, liveR, C.st, C.cp, C.dat, storeA, putCells, Y8, Y7, List.replicate, List.singleton_append, Option.bind_none, Bool.and_true, Bool.true_and, Nat.reduceAdd, Nat.reduceSub, Nat.reduceMul, Nat.reduceEqDiff, reduceIte, if_true, if_false, and_true, true_and, decide_true, decide_false, Bool.not_true, Bool.not_false, cond_true, cond_false, forall_const, ne_eq, Array.toList, reduceCtorEq, Int.reduceLT, Int.reduceLE, Int.reduceToNat, Nat.reduceLeDiff, Nat.reduceLT, Nat.le_refl, Nat.reduceBNe, Nat.reduceBEq, implies_true, Nat.add_zero, bne_self_eq_false, beq_self_eq_true, Bool.or_true, Bool.or_false, Bool.true_or, Bool.false_or, Bool.false_and, Bool.and_false, nb_map, nb_nil, nb_cons, nb_app, C.nb, callP, callO, rootsOf, rootsW, argFs, argF, Fs.none, dedup, rootsD, rootsC, List.flatMap_cons, List.flatMap_nil, List.filterMap_cons, List.filterMap_nil, Yg, argD, argC, argCs, List.contains_nil, List.contains_cons, objsAt, objOf, List.idxOf?, List.findIdx?, List.findIdx?.go, setObjs, settle, settle1, settleC, settleDs, Yl, List.isEmpty_cons, dI, dB, hc0, ha1, false_implies, hi1, Int.toNat_natCast, Int.natCast_nonneg, hj1, hO, ordF_lt, hlt, FsFd, hgu, hgv, hs1, hs2, hcl, List.length_map, List.length_set, fate_take, fate_cp, fate_len, fate_drop, fate_cpy, fate_st, fate_dat, fates_cp, fate_ni, fate_arg, Int.toNat_natCast, Int.natCast_nonneg, p0, eq_true p1, tk22, tsz28, tk28, p2, show IntKind.i64.wrap (↑(j - 1) : Int) = _ from wrap_i64 _ (by omega) (by omega), ZA]; rfl) ?_) ?_
        simp only [Z12, Z23, Z15]
        (exact ⟨y - 1, by omega, ⟨[.c (.h 0 0 l.length), .c (.v (.int .i64 (a : Nat))), .c (.v (.int .i64 (b : Nat))), .c (.f 19 []), .top, .top, .top, .top, .c (.v (.int .i64 (i : Nat))), .c (.v (.int .i64 (j - 1 : Nat))), .top, .top, .top, .top, .top, .top, .top, .top, .top, .top, .top, .top, .top, .top, .top, .top, .top, .top, .top, .top, .top, .top, .top, .top, .top, .top, .top, .top, .top, .top, .top, .top, .top, .top, .top, .top, .top, .top, .top, .top, .top, .top, .top], [some ⟨false, 6, (swap2 cur j (j - 1)).map fateC⟩]⟩, ⟨by repeat (first | exact .nil | refine .same ?_ | refine .top ?_), rfl⟩, j - 1, swap2 cur j (j - 1), by omega, hstep (by omega) (by assumption), rfl⟩)
      ·
        refine tri_exit ?_
        show Tri _ _ _ _
        refine Yk okFd rfl (by repeat first | with_reducible exact Y2 | refine Y1 (by simp only [runf, Y5, Y4, Y6, evsA, qev, St.ev, St.put, St.with, D.cells, D.cell, D.int, boxA, qload, Y9, qmk, C.cpy, TK.agg, qnil, Yb, qpart, qfield, qindexAddr, qindex, qpick, qint, Yc, qstr, isEq, qeq, Ya, qbin, eqC, eqCs, qun, qconv, qbounds, qslice, qlen, qext, omap, q2, qbuiltin, liveR, C.st, C.cp, C.dat, storeA, putCells, Y8, Y7, List.replicate, List.singleton_append, Option.bind_none, Bool.and_true, Bool.true_and, Nat.reduceAdd, Nat.reduceSub, Nat.reduceMul, Nat.reduceEqDiff, reduceIte, if_true, if_false, and_true, true_and, decide_true, decide_false, Bool.not_true, Bool.not_false, cond_true, cond_false, forall_const, ne_eq, Array.toList, reduceCtorEq, Int.reduceLT, Int.reduceLE, Int.reduceToNat, Nat.reduceLeDiff, Nat.reduceLT, Nat.le_refl, Nat.reduceBNe, Nat.reduceBEq, implies_true, Nat.add_zero, bne_self_eq_false, beq_self_eq_true, Bool.or_true, Bool.or_false, Bool.true_or, Bool.false_or, Bool.false_and, Bool.and_false, nb_map, nb_nil, nb_cons, nb_app, C.nb, callP, callO, rootsOf, rootsW, argFs, argF, Fs.none, dedup, rootsD, rootsC, List.flatMap_cons, List.flatMap_nil, List.filterMap_cons, List.filterMap_nil, Yg, argD, argC, argCs, List.contains_nil, List.contains_cons, objsAt, objOf, List.idxOf?, List.findIdx?, List.findIdx?.go, setObjs, settle, settle1, settleC, settleDs, Yl, List.isEmpty_cons, dI, dB, hc0, ha1, false_implies, hi1, Int.toNat_natCast, Int.natCast_nonneg, hj1, hO, ordF_lt, hlt, FsFd, hgu, hgv, hs1, hs2, hcl, List.length_map, List.length_set, fate_take, fate_cp, fate_len, fate_drop, fate_cpy, fate_st, fate_dat, fates_cp, fate_ni, fate_arg, Int.toNat_natCast, Int.natCast_nonneg, p0, eq_true p1, tk22, tsz28, tk28, p2, show IntKind.i64.wrap (↑(i + 1) : Int) = _ from wrap_i64 _ (by omega) (by omega), ZA]; rfl) ?_) ?_
        simp only [Z12, Z23, Z15]
        (have e : cur = sortTo l a (i + 1) := hdone (by intro _; assumption); exact ⟨z - 1, by omega, ⟨[.c (.h 0 0 l.length), .c (.v (.int .i64 (a : Nat))), .c (.v (.int .i64 (b : Nat))), .c (.f 19 []), .top, .top, .top, .top, .c (.v (.int .i64 (i + 1 : Nat))), .top, .top, .top, .top, .top, .top, .top, .top, .top, .top, .top, .top, .top, .top, .top, .top, .top, .top, .top, .top, .top, .top, .top, .top, .top, .top, .top, .top, .top, .top, .top, .top, .top, .top, .top, .top, .top, .top, .top, .top, .top, .top, .top, .top], [some ⟨false, 6, (sortTo l a (i + 1)).map fateC⟩]⟩, ⟨by repeat (first | exact .nil | refine .same ?_ | refine .top ?_), (by rw [e])⟩, i + 1, by omega, by omega, by omega, rfl⟩)
    ·
      refine ⟨_, (by repeat first | with_reducible exact Y2 | refine Y1 (by simp only [runf, Y5, Y4, Y6, evsA, qev, St.ev, St.put, St.with, D.cells, D.cell, D.int, boxA, qload, Y9, qmk, C.cpy, TK.agg, qnil, Yb, qpart, qfield, qindexAddr, qindex, qpick, qint, Yc, qstr, isEq, qeq, Ya, qbin, eqC, eqCs, qun, qconv, qbounds, qslice, qlen, qext, omap, q2, qbuiltin, liveR, C.st, C.cp, C.dat, storeA, putCells, Y8, Y7, List.replicate, List.singleton_append, Option.bind_none, Bool.and_true, Bool.true_and, Nat.reduceAdd, Nat.reduceSub, Nat.reduceMul, Nat.reduceEqDiff, reduceIte, if_true, if_false, and_true, true_and, decide_true, decide_false, Bool.not_true, Bool.not_false, cond_true, cond_false, forall_const, ne_eq, Array.toList, reduceCtorEq, Int.reduceLT, Int.reduceLE, Int.reduceToNat, Nat.reduceLeDiff, Nat.reduceLT, Nat.le_refl, Nat.reduceBNe, Nat.reduceBEq, implies_true, Nat.add_zero, bne_self_eq_false, beq_self_eq_true, Bool.or_true, Bool.or_false, Bool.true_or, Bool.false_or, Bool.false_and, Bool.and_false, nb_map, nb_nil, nb_cons, nb_app, C.nb, callP, callO, rootsOf, rootsW, argFs, argF, Fs.none, dedup, rootsD, rootsC, List.flatMap_cons, List.flatMap_nil, List.filterMap_cons, List.filterMap_nil, Yg, argD, argC, argCs, List.contains_nil, List.contains_cons, objsAt, objOf, List.idxOf?, List.findIdx?, List.findIdx?.go, setObjs, settle, settle1, settleC, settleDs, Yl, List.isEmpty_cons, dI, dB, hc0, ha1, false_implies, hi1, Int.toNat_natCast, Int.natCast_nonneg, hj1, hO, ordF_lt, hlt, FsFd, hgu, hgv, hs1, hs2, hcl, List.length_map, List.length_set, fate_take, fate_cp, fate_len, fate_drop, fate_cpy, fate_st, fate_dat, fates_cp, fate_ni, fate_arg, Int.toNat_natCast, Int.natCast_nonneg, p0, eq_false p1, ZA]; rfl) ?_), ?_⟩
      refine Yf (b := false) rfl (fun h => by cases h) (fun _ => ?_)
      refine tri_exit ?_
      show Tri _ _ _ _
      refine Yk okFd rfl (by repeat first | with_reducible exact Y2 | refine Y1 (by simp only [runf, Y5, Y4, Y6, evsA, qev, St.ev, St.put, St.with, D.cells, D.cell, D.int, boxA, qload, Y9, qmk, C.cpy, TK.agg, qnil, Yb, qpart, qfield, qindexAddr, qindex, qpick, qint, Yc, qstr, isEq, qeq, Ya, qbin, eqC, eqCs, qun, qconv, qbounds, qslice, qlen, qext, omap, q2, qbuiltin, liveR, C.st, C.cp, C.dat, storeA, putCells, Y8, Y7, List.replicate, List.singleton_append, Option.bind_none, Bool.and_true, Bool.true_and, Nat.reduceAdd, Nat.reduceSub, Nat.reduceMul, Nat.reduceEqDiff, reduceIte, if_true, if_false, and_true, true_and, decide_true, decide_false, Bool.not_true, Bool.not_false, cond_true, cond_false, forall_const, ne_eq, Array.toList, reduceCtorEq, Int.reduceLT, Int.reduceLE, Int.reduceToNat, Nat.reduceLeDiff, Nat.reduceLT, Nat.le_refl, Nat.reduceBNe, Nat.reduceBEq, implies_true, Nat.add_zero, bne_self_eq_false, beq_self_eq_true, Bool.or_true, Bool.or_false, Bool.true_or, Bool.false_or, Bool.false_and, Bool.and_false, nb_map, nb_nil, nb_cons, nb_app, C.nb, callP, callO, rootsOf, rootsW, argFs, argF, Fs.none, dedup, rootsD, rootsC, List.flatMap_cons, List.flatMap_nil, List.filterMap_cons, List.filterMap_nil, Yg, argD, argC, argCs, List.contains_nil, List.contains_cons, objsAt, objOf, List.idxOf?, List.findIdx?, List.findIdx?.go, setObjs, settle, settle1, settleC, settleDs, Yl, List.isEmpty_cons, dI, dB, hc0, ha1, false_implies, hi1, Int.toNat_natCast, Int.natCast_nonneg, hj1, hO, ordF_lt, hlt, FsFd, hgu, hgv, hs1, hs2, hcl, List.length_map, List.length_set, fate_take, fate_cp, fate_len, fate_drop, fate_cpy, fate_st, fate_dat, fates_cp, fate_ni, fate_arg, Int.toNat_natCast, Int.natCast_nonneg, p0, eq_false p1, show IntKind.i64.wrap (↑(i + 1) : Int) = _ from wrap_i64 _ (by omega) (by omega), ZA]; rfl) ?_) ?_
      simp only [Z12, Z23, Z15]
      (have e : cur = sortTo l a (i + 1) := hdone (by intro h; exfalso; omega); exact ⟨z - 1, by omega, ⟨[.c (.h 0 0 l.length), .c (.v (.int .i64 (a : Nat))), .c (.v (.int .i64 (b : Nat))), .c (.f 19 []), .top, .top, .top, .top, .c (.v (.int .i64 (i + 1 : Nat))), .top, .top, .top, .top, .top, .top, .top, .top, .top, .top, .top, .top, .top, .top, .top, .top, .top, .top, .top, .top, .top, .top, .top, .top, .top, .top, .top, .top, .top, .top, .top, .top, .top, .top, .top, .top, .top, .top, .top, .top, .top, .top, .top, .top], [some ⟨false, 6, (sortTo l a (i + 1)).map fateC⟩]⟩, ⟨by repeat (first | exact .nil | refine .same ?_ | refine .top ?_), (by rw [e])⟩, i + 1, by omega, by omega, by omega, rfl⟩)
  ·
    simp only [decide_eq_true_eq, decide_eq_false_iff_not, Bool.not_eq_true', Bool.not_eq_false', Bool.and_eq_true, Bool.or_eq_true, Bool.not_eq_true, bne_iff_ne, beq_iff_eq] at p0
    refine tri_exit ?_
    simp only [Z12, Z23, Z15]
    (show Ends _ _ _ _ _ _; exact ends_norm (d := .t []) (ids := []) (objs := [⟨6, ci.map fateC⟩]) rfl (fates_obj _ _) .nil (by simp) (hend (by omega)))
end Go.Dl

namespace Go.Dl
set_option linter.unusedVariables false
set_option linter.unusedSimpArgs false
theorem at_get {l : List FateM} {i : Nat} {x : FateM} (h : l[i]? = some x) : l.getD i f0 = x := by rw [List.getD_eq_getElem?_getD, h]; rfl
theorem get_in {l : List FateM} {i : Nat} (h : i < l.length) : l[i]? = some (l.getD i f0) := by simp [h]
theorem drop_in {l : List FateM} {i : Nat} (h : i < l.length) : l.drop i = l.getD i f0 :: l.drop (i + 1) := by
  rw [List.drop_eq_getElem_cons h]; congr 1; simp [h]
theorem take_app {A B : List FateM} {n : Nat} (h : A.length = n) : (A ++ B).take n = A := by subst h; exact List.take_left
theorem seg_nil (l : List FateM) (a : Nat) : seg l a a = [] := by unfold seg; simp
theorem seg_one {l : List FateM} {a : Nat} (h : a < l.length) : seg l a (a + 1) = [l.getD a f0] := by
  unfold seg; rw [show a + 1 - a = 1 by omega, drop_in h]; rfl
theorem seg_drop (l : List FateM) {a b : Nat} (h : a ≤ b) : l.drop a = seg l a b ++ l.drop b := by
  unfold seg
  have := (List.take_append_drop (b - a) (l.drop a)).symm
  rwa [List.drop_drop, show a + (b - a) = b by omega] at this
theorem take_seg (l : List FateM) {a b : Nat} (h : a ≤ b) : l.take b = l.take a ++ seg l a b := by
  unfold seg
  have := List.take_add (l := l) (i := a) (j := b - a)
  rwa [show a + (b - a) = b by omega] at this
/-- The first short case: the search, the shifting. -/
def bsA (l : List FateM) (a m b i j : Nat) : Prop := m ≤ i ∧ i ≤ j ∧ j ≤ b ∧ (m < i → ltF (l.getD (i - 1) f0) (l.getD a f0) = true) ∧ (j < b → ltF (l.getD j f0) (l.getD a f0) = false)
theorem bsA_0 (l : List FateM) {a m b : Nat} (h : m ≤ b) : bsA l a m b m b := ⟨Nat.le_refl m, h, Nat.le_refl b, fun h => absurd h (Nat.lt_irrefl m), fun h => absurd h (Nat.lt_irrefl b)⟩
theorem bsA_up {l : List FateM} {a m b i j : Nat} (h : bsA l a m b i j) (hij : i < j) (hl : ltF (l.getD ((i + j) / 2) f0) (l.getD a f0) = true) : bsA l a m b ((i + j) / 2 + 1) j := by
  obtain ⟨h1, h2, h3, h4, h5⟩ := h
  exact ⟨by omega, by omega, h3, fun _ => by rw [Nat.add_sub_cancel]; exact hl, h5⟩
theorem bsA_dn {l : List FateM} {a m b i j : Nat} (h : bsA l a m b i j) (hij : i < j) (hl : ltF (l.getD ((i + j) / 2) f0) (l.getD a f0) = false) : bsA l a m b i ((i + j) / 2) := by
  obtain ⟨h1, h2, h3, h4, h5⟩ := h
  exact ⟨h1, by omega, by omega, h4, fun _ => hl⟩
def shA (l : List FateM) (a k : Nat) : List FateM := l.take a ++ (seg l (a + 1) (k + 1) ++ l.getD a f0 :: l.drop (k + 1))
theorem shA_0 {l : List FateM} {a : Nat} (h : a < l.length) : shA l a a = l := by
  unfold shA
  rw [seg_nil, List.nil_append, ← drop_in h, List.take_append_drop]
theorem shA_len {l : List FateM} {a k : Nat} (h1 : a ≤ k) (h2 : k < l.length) : (shA l a k).length = l.length := by
  unfold shA
  rw [List.length_append, List.length_append, List.length_cons, seg_len l (by omega) (by omega), List.length_take, List.length_drop]
  omega
theorem shA_step {l : List FateM} {a k : Nat} (h1 : a ≤ k) (h2 : k + 1 < l.length) : swap2 (shA l a k) k (k + 1) = shA l a (k + 1) := by
  have e : shA l a k = (l.take a ++ seg l (a + 1) (k + 1)) ++ l.getD a f0 :: l.getD (k + 1) f0 :: l.drop (k + 2) := by
    unfold shA
    rw [drop_in h2]; simp
  have hp : (l.take a ++ seg l (a + 1) (k + 1)).length = k := by
    rw [List.length_append, seg_len l (by omega) (by omega), List.length_take]; omega
  unfold swap2
  rw [e]
  generalize l.take a ++ seg l (a + 1) (k + 1) = p at hp e
  subst hp
  have g1 : (p ++ l.getD a f0 :: l.getD (p.length + 1) f0 :: l.drop (p.length + 2)).getD p.length f0 = l.getD a f0 := by
    rw [List.getD_eq_getElem?_getD, at_mid]; rfl
  have g2 : (p ++ l.getD a f0 :: l.getD (p.length + 1) f0 :: l.drop (p.length + 2)).getD (p.length + 1) f0 = l.getD (p.length + 1) f0 := by
    have : p ++ l.getD a f0 :: l.getD (p.length + 1) f0 :: l.drop (p.length + 2) = (p ++ [l.getD a f0]) ++ l.getD (p.length + 1) f0 :: l.drop (p.length + 2) := by simp
    rw [this, List.getD_eq_getElem?_getD, show p.length + 1 = (p ++ [l.getD a f0]).length by simp, at_mid]; rfl
  rw [g1, g2, swap_adj2]
  have e2 : shA l a (p.length + 1) = (l.take a ++ seg l (a + 1) (p.length + 1)) ++ l.getD (p.length + 1) f0 :: l.getD a f0 :: l.drop (p.length + 2) := by
    unfold shA
    rw [seg_split l (show a + 1 ≤ p.length + 1 by omega) (show p.length + 1 ≤ p.length + 1 + 1 by omega), seg_one h2]
    simp
  have e3 : p = l.take a ++ seg l (a + 1) (p.length + 1) := by
    have h3 := congrArg (List.take p.length) e
    rw [List.take_left] at h3
    have h4 : (l.take a ++ seg l (a + 1) (p.length + 1)).length = p.length := by
      rw [List.length_append, seg_len l (by omega) (by omega), List.length_take]; omega
    unfold shA at h3
    rw [← List.append_assoc] at h3
    exact h3.symm.trans (take_app h4)
  rw [e2, ← e3]
theorem shA_end {l : List FateM} {a b i : Nat} (hab : a + 1 < b) (hbl : b ≤ l.length) (h : bsA l a (a + 1) b i i) (hB : inOrd ltF (seg l (a + 1) b)) : shA l a (i - 1) = sortTo l a b := by
  obtain ⟨h1, h2, h3, h4, h5⟩ := h
  have hx := get_in (l := l) (i := a) (by omega)
  have := one_ahead swoF (x := l.getD a f0) h1 h3 hbl hB (fun hm y hy => by rw [← at_get hy]; exact h4 hm) (fun hm y hy => by rw [← at_get hy]; exact h5 hm)
  unfold sortTo shA
  rw [seg_split l (show a ≤ a + 1 by omega) (show a + 1 ≤ b by omega), seg_one (by omega), List.singleton_append, this, show i - 1 + 1 = i by omega, seg_drop l h3]
  simp
/-- The second short case. -/
def bsB (l : List FateM) (a m i j : Nat) : Prop := a ≤ i ∧ i ≤ j ∧ j ≤ m ∧ (a < i → ltF (l.getD m f0) (l.getD (i - 1) f0) = false) ∧ (j < m → ltF (l.getD m f0) (l.getD j f0) = true)
theorem bsB_0 (l : List FateM) {a m : Nat} (h : a ≤ m) : bsB l a m a m := ⟨Nat.le_refl a, h, Nat.le_refl m, fun h => absurd h (Nat.lt_irrefl a), fun h => absurd h (Nat.lt_irrefl m)⟩
theorem bsB_up {l : List FateM} {a m i j : Nat} (h : bsB l a m i j) (hij : i < j) (hl : ltF (l.getD m f0) (l.getD ((i + j) / 2) f0) = false) : bsB l a m ((i + j) / 2 + 1) j := by
  obtain ⟨h1, h2, h3, h4, h5⟩ := h
  exact ⟨by omega, by omega, h3, fun _ => by rw [Nat.add_sub_cancel]; exact hl, h5⟩
theorem bsB_dn {l : List FateM} {a m i j : Nat} (h : bsB l a m i j) (hij : i < j) (hl : ltF (l.getD m f0) (l.getD ((i + j) / 2) f0) = true) : bsB l a m i ((i + j) / 2) := by
  obtain ⟨h1, h2, h3, h4, h5⟩ := h
  exact ⟨h1, by omega, by omega, h4, fun _ => hl⟩
def shB (l : List FateM) (m k : Nat) : List FateM := l.take k ++ (l.getD m f0 :: (seg l k m ++ l.drop (m + 1)))
theorem shB_0 {l : List FateM} {m : Nat} (h : m < l.length) : shB l m m = l := by
  unfold shB
  rw [seg_nil, List.nil_append, ← drop_in h, List.take_append_drop]
theorem shB_len {l : List FateM} {m k : Nat} (h1 : k ≤ m) (h2 : m < l.length) : (shB l m k).length = l.length := by
  unfold shB
  rw [List.length_append, List.length_cons, List.length_append, seg_len l h1 (by omega), List.length_take, List.length_drop]
  omega
theorem shB_step {l : List FateM} {m k : Nat} (h0 : 0 < k) (h1 : k ≤ m) (h2 : m < l.length) : swap2 (shB l m k) k (k - 1) = shB l m (k - 1) := by
  obtain ⟨k, rfl⟩ : ∃ k', k = k' + 1 := ⟨k - 1, by omega⟩
  rw [Nat.add_sub_cancel]
  have ht : l.take (k + 1) = l.take k ++ [l.getD k f0] := by rw [take_seg l (Nat.le_succ k), seg_one (by omega)]
  have hp : (l.take k).length = k := by rw [List.length_take]; omega
  have e : shB l m (k + 1) = l.take k ++ l.getD k f0 :: l.getD m f0 :: (seg l (k + 1) m ++ l.drop (m + 1)) := by
    unfold shB
    rw [ht]; simp
  have e2 : shB l m k = l.take k ++ l.getD m f0 :: l.getD k f0 :: (seg l (k + 1) m ++ l.drop (m + 1)) := by
    unfold shB
    rw [seg_split l (Nat.le_succ k) h1, seg_one (by omega)]; simp
  rw [e, e2]
  generalize l.getD k f0 = u
  generalize l.getD m f0 = v
  generalize l.take k = p at hp
  subst hp
  unfold swap2
  have g1 : (p ++ u :: v :: (seg l (p.length + 1) m ++ l.drop (m + 1))).getD p.length f0 = u := by
    rw [List.getD_eq_getElem?_getD, at_mid]; rfl
  have g2 : (p ++ u :: v :: (seg l (p.length + 1) m ++ l.drop (m + 1))).getD (p.length + 1) f0 = v := by
    have : p ++ u :: v :: (seg l (p.length + 1) m ++ l.drop (m + 1)) = (p ++ [u]) ++ v :: (seg l (p.length + 1) m ++ l.drop (m + 1)) := by simp
    rw [this, List.getD_eq_getElem?_getD, show p.length + 1 = (p ++ [u]).length by simp, at_mid]; rfl
  rw [g1, g2, swap_adj]
theorem shB_end {l : List FateM} {a m i : Nat} (ham : a < m) (hml : m < l.length) (h : bsB l a m i i) (hA : inOrd ltF (seg l a m)) : shB l m i = sortTo l a (m + 1) := by
  obtain ⟨h1, h2, h3, h4, h5⟩ := h
  have := one_behind swoF (y := l.getD m f0) h1 h3 (by omega) hA (fun hm y hy => by rw [← at_get hy]; exact h4 hm) (fun hm y hy => by rw [← at_get hy]; exact h5 hm)
  unfold sortTo shB
  rw [seg_split l (show a ≤ m by omega) (Nat.le_succ m), seg_one hml, this, take_seg l h1]
  simp
/-- The common case: the search. -/
def bsC (l : List FateM) (n lo hi s r : Nat) : Prop := lo ≤ s ∧ s ≤ r ∧ r ≤ hi ∧ (lo < s → ltF (l.getD (n - 1 - (s - 1)) f0) (l.getD (s - 1) f0) = false) ∧ (r < hi → ltF (l.getD (n - 1 - r) f0) (l.getD r f0) = true)
theorem bsC_0 (l : List FateM) (n : Nat) {lo hi : Nat} (h : lo ≤ hi) : bsC l n lo hi lo hi := ⟨Nat.le_refl lo, h, Nat.le_refl hi, fun h => absurd h (Nat.lt_irrefl lo), fun h => absurd h (Nat.lt_irrefl hi)⟩
theorem bsC_up {l : List FateM} {n lo hi s r : Nat} (h : bsC l n lo hi s r) (hij : s < r) (hl : ltF (l.getD (n - 1 - (s + r) / 2) f0) (l.getD ((s + r) / 2) f0) = false) : bsC l n lo hi ((s + r) / 2 + 1) r := by
  obtain ⟨h1, h2, h3, h4, h5⟩ := h
  exact ⟨by omega, by omega, h3, fun _ => by rw [Nat.add_sub_cancel]; exact hl, h5⟩
theorem bsC_dn {l : List FateM} {n lo hi s r : Nat} (h : bsC l n lo hi s r) (hij : s < r) (hl : ltF (l.getD (n - 1 - (s + r) / 2) f0) (l.getD ((s + r) / 2) f0) = true) : bsC l n lo hi s ((s + r) / 2) := by
  obtain ⟨h1, h2, h3, h4, h5⟩ := h
  exact ⟨h1, by omega, by omega, h4, fun _ => hl⟩
def symLo (a m b : Nat) : Nat := if (a + b) / 2 < m then (a + b) / 2 + m - b else a
def symHi (a m b : Nat) : Nat := if (a + b) / 2 < m then (a + b) / 2 else m
theorem sym_lohi {a m b : Nat} (h1 : a < m) (h2 : m < b) : a ≤ symLo a m b ∧ symLo a m b ≤ symHi a m b ∧ symHi a m b ≤ m ∧ symHi a m b ≤ (a + b) / 2 ∧ (a + b) / 2 + m - b ≤ symLo a m b := by
  unfold symLo symHi
  split <;> omega
/-- Where the merge parts: behind the search. -/
structure symS (l : List FateM) (a m b s : Nat) : Prop where
  sa : a ≤ s
  sm : s ≤ m
  smid : s ≤ (a + b) / 2
  me : m ≤ (a + b) / 2 + m - s
  eb : (a + b) / 2 + m - s ≤ b
  mide : (a + b) / 2 ≤ (a + b) / 2 + m - s
  h1 : s < m → m < (a + b) / 2 + m - s → ltF (l.getD ((a + b) / 2 + m - s - 1) f0) (l.getD s f0) = true
  h2 : a < s → (a + b) / 2 + m - s < b → ltF (l.getD ((a + b) / 2 + m - s) f0) (l.getD (s - 1) f0) = false
theorem symS_of {l : List FateM} {a m b s : Nat} (h1 : a < m) (h2 : m < b) (h : bsC l ((a + b) / 2 + m) (symLo a m b) (symHi a m b) s s) : symS l a m b s := by
  obtain ⟨k1, k2, k3, k4, k5⟩ := h
  obtain ⟨q1, q2, q3, q4, q5⟩ := sym_lohi h1 h2
  refine ⟨by omega, by omega, by omega, by omega, by omega, by omega, fun hs hm => ?_, fun hs hm => ?_⟩
  · have hh : s < symHi a m b := by
      unfold symHi
      split <;> omega
    have := k5 hh
    rwa [show (a + b) / 2 + m - 1 - s = (a + b) / 2 + m - s - 1 by omega] at this
  · have hh : symLo a m b < s := by
      unfold symLo
      split <;> omega
    have := k4 hh
    rwa [show (a + b) / 2 + m - 1 - (s - 1) = (a + b) / 2 + m - s by omega] at this
def symR (l : List FateM) (s m e : Nat) : List FateM := l.take s ++ (seg l m e ++ (seg l s m ++ l.drop e))
theorem symR_no {l : List FateM} {s m e : Nat} (hsm : s ≤ m) (hme : m ≤ e) (h : ¬ (s < m ∧ m < e)) : symR l s m e = l := by
  unfold symR
  by_cases h1 : s = m
  · subst h1
    rw [seg_nil, List.nil_append, ← seg_drop l hme, List.take_append_drop]
  · have : m = e := by omega
    subst this
    rw [seg_nil, List.nil_append, ← seg_drop l hsm, List.take_append_drop]
theorem drop_app {A B : List FateM} {n : Nat} (h : A.length = n) : (A ++ B).drop n = B := by subst h; exact List.drop_left
theorem seg_app {A B C : List FateM} {n k : Nat} (h : A.length = n) (h2 : n + B.length = k) : seg (A ++ (B ++ C)) n k = B := by
  unfold seg
  rw [drop_app h, take_app (by omega)]
/-- The whole step. -/
theorem sym_all {l : List FateM} {a m b s : Nat} (h1 : a < m) (h2 : m < b) (h3 : b ≤ l.length) (hA : inOrd ltF (seg l a m)) (hB : inOrd ltF (seg l m b)) (h : symS l a m b s) :
    let mid := (a + b) / 2
    let e := mid + m - s
    let l1 := symR l s m e
    let l2 := sortTo l1 a mid
    l1.length = l.length ∧ l2.length = l.length ∧ inOrd ltF (seg l1 a s) ∧ inOrd ltF (seg l1 s mid) ∧ inOrd ltF (seg l2 mid e) ∧ inOrd ltF (seg l2 e b) ∧ (¬ (a < s ∧ s < mid) → l2 = l1) ∧ (¬ (mid < e ∧ e < b) → sortTo l2 mid b = l2) ∧ sortTo l2 mid b = sortTo l a b := by
  obtain ⟨sa, sm, smid, me, eb, mide, k1, k2⟩ := h
  dsimp only
  generalize he : (a + b) / 2 + m - s = e at me eb mide k1 k2
  generalize hmid : (a + b) / 2 = mid at smid mide he
  have hes : e + s = mid + m := by omega
  have hstep := sym_step swoF sa sm me eb h3 hA hB (fun p q x y hx hy => by rw [← at_get hx, ← at_get hy]; exact k1 p q) (fun p q x y hx hy => by rw [← at_get hx, ← at_get hy]; exact k2 p q)
  have oas : inOrd ltF (seg l a s) := ord_seg hA (Nat.le_refl a) sa sm
  have osm : inOrd ltF (seg l s m) := ord_seg hA sa sm (Nat.le_refl m)
  have ome : inOrd ltF (seg l m e) := ord_seg hB (Nat.le_refl m) me eb
  have oeb : inOrd ltF (seg l e b) := ord_seg hB me eb (Nat.le_refl b)
  have las := seg_len l sa (by omega)
  have lsm := seg_len l sm (by omega)
  have lme := seg_len l me (by omega)
  have leb := seg_len l eb (by omega)
  have lta : (l.take a).length = a := by rw [List.length_take]; omega
  have e1 : symR l s m e = l.take a ++ (seg l a s ++ (seg l m e ++ (seg l s m ++ (seg l e b ++ l.drop b)))) := by
    unfold symR
    rw [take_seg l sa, seg_drop l eb]; simp
  have l1len : (symR l s m e).length = l.length := by
    rw [e1]
    simp only [List.length_append, las, lsm, lme, leb, lta, List.length_drop]
    omega
  have s1 : seg (symR l s m e) a s = seg l a s := by
    rw [e1]; exact seg_app lta (by omega)
  have s2 : seg (symR l s m e) s mid = seg l m e := by
    rw [e1, ← List.append_assoc]
    exact seg_app (by rw [List.length_append]; omega) (by omega)
  have s3 : seg (symR l s m e) a mid = seg l a s ++ seg l m e := by
    rw [seg_split _ sa smid, s1, s2]
  have t1 : (symR l s m e).take a = l.take a := by rw [e1]; exact take_app lta
  have d1 : (symR l s m e).drop mid = seg l s m ++ (seg l e b ++ l.drop b) := by
    rw [e1, ← List.append_assoc, ← List.append_assoc]
    exact drop_app (by simp only [List.length_append]; omega)
  have e2 : sortTo (symR l s m e) a mid = l.take a ++ (srt ltF (seg l a s ++ seg l m e) ++ (seg l s m ++ (seg l e b ++ l.drop b))) := by
    unfold sortTo
    rw [s3, t1, d1]
  have lsr : (srt ltF (seg l a s ++ seg l m e)).length = mid - a := by
    rw [srt_len, List.length_append]; omega
  have l2len : (sortTo (symR l s m e) a mid).length = l.length := by
    rw [sortTo_len (by omega) (by rw [l1len]; omega), l1len]
  have q1 : seg (sortTo (symR l s m e) a mid) mid e = seg l s m := by
    rw [e2, ← List.append_assoc]
    exact seg_app (by rw [List.length_append]; omega) (by omega)
  have q2 : seg (sortTo (symR l s m e) a mid) e b = seg l e b := by
    rw [e2, ← List.append_assoc, ← List.append_assoc]
    exact seg_app (by simp only [List.length_append]; omega) (by omega)
  have q3 : seg (sortTo (symR l s m e) a mid) mid b = seg l s m ++ seg l e b := by
    rw [seg_split _ mide eb, q1, q2]
  have q4 : (sortTo (symR l s m e) a mid).take mid = l.take a ++ srt ltF (seg l a s ++ seg l m e) := by
    rw [e2, ← List.append_assoc]
    exact take_app (by rw [List.length_append]; omega)
  have q5 : (sortTo (symR l s m e) a mid).drop b = l.drop b := by
    rw [e2, ← List.append_assoc, ← List.append_assoc, ← List.append_assoc]
    exact drop_app (by simp only [List.length_append]; omega)
  have triv : ∀ (c : List FateM) (x y z : Nat), x ≤ y → y ≤ z → inOrd ltF (seg c x y) → inOrd ltF (seg c y z) → ¬ (x < y ∧ y < z) → sortTo c x z = c := by
    intro c x y z hxy hyz o1 o2 hn
    have ho : inOrd ltF (seg c x z) := by
      by_cases hx : x = y
      · subst hx; exact o2
      · have : y = z := by omega
        subst this; exact o1
    unfold sortTo
    rw [srt_id swoF ho, ← seg_drop c (by omega), List.take_append_drop]
  refine ⟨l1len, l2len, by rw [s1]; exact oas, by rw [s2]; exact ome, by rw [q1]; exact osm, by rw [q2]; exact oeb, ?_, ?_, ?_⟩
  · intro hn
    exact triv _ a s mid sa smid (by rw [s1]; exact oas) (by rw [s2]; exact ome) hn
  · intro hn
    exact triv _ mid e b mide eb (by rw [q1]; exact osm) (by rw [q2]; exact oeb) hn
  · unfold sortTo at q3 q4 q5 ⊢
    rw [q3, q4, q5, hstep]
    simp
end Go.Dl

namespace Go.Dl
set_option linter.unusedVariables false
set_option linter.unusedSimpArgs false
theorem seg_clip (l : List FateM) {x y : Nat} (h : l.length ≤ y) : seg l x y = l.drop x := by
  unfold seg
  rw [List.take_of_length_le (by rw [List.length_drop]; omega)]
theorem seg_past (l : List FateM) {x y : Nat} (h : l.length ≤ x) : seg l x y = [] := by
  unfold seg
  rw [List.drop_eq_nil_of_le h, List.take_nil]
theorem seg_eq {l m : List FateM} {x y : Nat} (h : l.drop x = m.drop x) : seg l x y = seg m x y := by unfold seg; rw [h]
theorem drop_more {l m : List FateM} {x y : Nat} (h : l.drop x = m.drop x) (hxy : x ≤ y) : l.drop y = m.drop y := by
  have := congrArg (List.drop (y - x)) h
  rwa [List.drop_drop, List.drop_drop, show x + (y - x) = y by omega] at this
theorem seg_take {l m : List FateM} {x y z : Nat} (h : l.take z = m.take z) (hy : y ≤ z) : seg l x y = seg m x y := by
  unfold seg
  by_cases hx : x ≤ y
  · have := congrArg (fun c => (c.drop x).take (y - x)) h
    simp only [List.drop_take, List.take_take] at this
    rwa [Nat.min_eq_left (by omega)] at this
  · rw [show y - x = 0 by omega, List.take_zero, List.take_zero]
section
variable {l : List FateM} {a b : Nat} (h1 : a ≤ b) (h2 : b ≤ l.length)
include h1 h2
theorem sort_take : (sortTo l a b).take a = l.take a := by
  unfold sortTo
  exact take_app (by rw [List.length_take]; omega)
theorem sort_drop : (sortTo l a b).drop b = l.drop b := by
  unfold sortTo
  rw [← List.append_assoc]
  exact drop_app (by rw [List.length_append, srt_len, seg_len l h1 h2, List.length_take]; omega)
theorem sort_seg : seg (sortTo l a b) a b = srt ltF (seg l a b) := by
  unfold sortTo
  exact seg_app (by rw [List.length_take]; omega) (by rw [srt_len, seg_len l h1 h2]; omega)
end
/-- All blocks of a size are in order. -/
def blks (l cur : List FateM) (k : Nat) : Prop := cur.length = l.length ∧ ∀ i, seg cur (i * k) (i * k + k) = srt ltF (seg l (i * k) (i * k + k))
/-- Blocks in order up to a place. -/
def PI (l cur : List FateM) (k a : Nat) : Prop := cur.length = l.length ∧ a ≤ l.length ∧ cur.drop a = l.drop a ∧ ∃ q, a = q * k ∧ ∀ i, i < q → seg cur (i * k) (i * k + k) = srt ltF (seg l (i * k) (i * k + k))
theorem PI_0 (l : List FateM) (k : Nat) : PI l l k 0 := ⟨rfl, Nat.zero_le _, rfl, 0, by simp, fun i h => absurd h (Nat.not_lt_zero i)⟩
theorem mul_le {i q k : Nat} (h : i < q) : i * k + k ≤ q * k := by
  have := Nat.mul_le_mul_right k (show i + 1 ≤ q from h)
  rwa [Nat.succ_mul] at this
theorem PI_step {l cur : List FateM} {k a : Nat} (h : PI l cur k a) (hn : a + k ≤ l.length) : PI l (sortTo cur a (a + k)) k (a + k) := by
  obtain ⟨h1, h2, h3, q, rfl, h4⟩ := h
  refine ⟨by rw [sortTo_len (by omega) (by omega), h1], hn, ?_, q + 1, by rw [Nat.succ_mul], fun i hi => ?_⟩
  · rw [sort_drop (by omega) (by omega)]
    exact drop_more h3 (by omega)
  · by_cases hq : i < q
    · rw [seg_take (sort_take (l := cur) (a := q * k) (b := q * k + k) (by omega) (by omega)) (mul_le hq)]
      exact h4 i hq
    · have : i = q := by omega
      subst this
      rw [sort_seg (by omega) (by omega), seg_eq h3]
theorem PI_end {l cur : List FateM} {k a : Nat} (h : PI l cur k a) (hn : ¬ a + k ≤ l.length) : blks l (sortTo cur a l.length) k := by
  obtain ⟨h1, h2, h3, q, rfl, h4⟩ := h
  have hlen : (sortTo cur (q * k) l.length).length = l.length := by rw [sortTo_len h2 (by omega), h1]
  refine ⟨hlen, fun i => ?_⟩
  by_cases hq : i < q
  · rw [seg_take (sort_take (l := cur) (a := q * k) (b := l.length) h2 (by omega)) (mul_le hq)]
    exact h4 i hq
  · by_cases hq2 : i = q
    · subst hq2
      have e1 := sort_seg (l := cur) (a := i * k) (b := l.length) h2 (by omega)
      rw [seg_clip _ (by omega)] at e1
      rw [seg_clip _ (by omega), e1, seg_clip _ (by omega), seg_clip _ (by omega), h3]
    · have := mul_le (k := k) (show q < i by omega)
      rw [seg_past _ (by omega), seg_past _ (by omega)]
      rfl
theorem blks_end {l cur : List FateM} {k : Nat} (h : blks l cur k) (hn : l.length ≤ k) : cur = srt ltF l := by
  obtain ⟨h1, h2⟩ := h
  have := h2 0
  rw [Nat.zero_mul, Nat.zero_add, seg_clip _ (by omega), seg_clip _ hn] at this
  exact this
/-- Two blocks become one, up to a place. -/
def MI (l cur : List FateM) (k a : Nat) : Prop := cur.length = l.length ∧ a ≤ l.length ∧ ∃ q, a = q * (2 * k) ∧ (∀ i, i < q → seg cur (i * (2 * k)) (i * (2 * k) + 2 * k) = srt ltF (seg l (i * (2 * k)) (i * (2 * k) + 2 * k))) ∧
  ∀ i, 2 * q ≤ i → seg cur (i * k) (i * k + k) = srt ltF (seg l (i * k) (i * k + k))
theorem MI_0 {l cur : List FateM} {k : Nat} (h : blks l cur k) : MI l cur k 0 := ⟨h.1, Nat.zero_le _, 0, by simp, fun i h => absurd h (Nat.not_lt_zero i), fun i _ => h.2 i⟩
theorem two_blk {l cur : List FateM} {k a : Nat} (hk : 0 < k) {q : Nat} (ha : a = q * (2 * k)) (h4 : ∀ i, 2 * q ≤ i → seg cur (i * k) (i * k + k) = srt ltF (seg l (i * k) (i * k + k))) :
    seg cur a (a + k) = srt ltF (seg l a (a + k)) ∧ seg cur (a + k) (a + 2 * k) = srt ltF (seg l (a + k) (a + 2 * k)) := by
  have e1 : a = 2 * q * k := by rw [ha, Nat.mul_left_comm, ← Nat.mul_assoc]
  have e2 : a + k = (2 * q + 1) * k := by rw [Nat.succ_mul, e1]
  have k1 := h4 (2 * q) (Nat.le_refl _)
  have k2 := h4 (2 * q + 1) (by omega)
  rw [← e1] at k1
  rw [← e2] at k2
  rw [show a + 2 * k = a + k + k by omega]
  exact ⟨k1, k2⟩
theorem MI_sym {l cur : List FateM} {k a b : Nat} (h : MI l cur k a) (hk : 0 < k) (hb : a + k < b) (hbl : b ≤ l.length) (hbb : b = a + 2 * k ∨ (b = l.length ∧ b ≤ a + 2 * k)) :
    inOrd ltF (seg cur a (a + k)) ∧ inOrd ltF (seg cur (a + k) b) ∧ seg (sortTo cur a b) a b = srt ltF (seg l a b) := by
  obtain ⟨h1, h2, q, ha, h3, h4⟩ := h
  obtain ⟨k1, k2⟩ := two_blk hk ha h4
  have k2' : seg cur (a + k) b = srt ltF (seg l (a + k) b) := by
    rcases hbb with hbb | ⟨hbb, hb2⟩
    · rw [hbb]; exact k2
    · rw [seg_clip _ (by omega), seg_clip _ (by omega)] at k2 ⊢
      exact k2
  refine ⟨by rw [k1]; exact (srt_ord swoF _).1, by rw [k2']; exact (srt_ord swoF _).1, ?_⟩
  rw [sort_seg (by omega) (by omega), seg_split cur (show a ≤ a + k by omega) (by omega), k1, k2', srt_nest swoF, ← seg_split l (by omega) (by omega)]
theorem MI_step {l cur : List FateM} {k a : Nat} (h : MI l cur k a) (hk : 0 < k) (hn : a + 2 * k ≤ l.length) : MI l (sortTo cur a (a + 2 * k)) k (a + 2 * k) := by
  obtain ⟨_, _, hs⟩ := MI_sym (b := a + 2 * k) h hk (by omega) hn (.inl rfl)
  obtain ⟨h1, h2, q, rfl, h3, h4⟩ := h
  refine ⟨by rw [sortTo_len (by omega) (by omega), h1], hn, q + 1, (Nat.succ_mul q (2 * k)).symm, fun i hi => ?_, fun i hi => ?_⟩
  · by_cases hq : i < q
    · rw [seg_take (sort_take (l := cur) (a := q * (2 * k)) (b := q * (2 * k) + 2 * k) (by omega) (by omega)) (mul_le hq)]
      exact h3 i hq
    · have : i = q := by omega
      subst this
      exact hs
  · have hd := sort_drop (l := cur) (a := q * (2 * k)) (b := q * (2 * k) + 2 * k) (by omega) (by omega)
    have hle : q * (2 * k) + 2 * k ≤ i * k := by
      have := Nat.mul_le_mul_right k hi
      have e : 2 * (q + 1) * k = q * (2 * k) + 2 * k := by
        rw [Nat.mul_add, Nat.add_mul, Nat.mul_left_comm q 2 k, ← Nat.mul_assoc]
      omega
    rw [seg_eq (drop_more hd hle)]
    exact h4 i (by omega)
theorem MI_end {l cur : List FateM} {k a : Nat} (h : MI l cur k a) (hk : 0 < k) (hn : ¬ a + 2 * k ≤ l.length) (hm : a + k < l.length) : blks l (sortTo cur a l.length) (2 * k) := by
  obtain ⟨_, _, hs⟩ := MI_sym (b := l.length) h hk hm (Nat.le_refl _) (.inr ⟨rfl, by omega⟩)
  obtain ⟨h1, h2, q, rfl, h3, h4⟩ := h
  have hlen : (sortTo cur (q * (2 * k)) l.length).length = l.length := by rw [sortTo_len h2 (by omega), h1]
  refine ⟨hlen, fun i => ?_⟩
  by_cases hq : i < q
  · rw [seg_take (sort_take (l := cur) (a := q * (2 * k)) (b := l.length) h2 (by omega)) (mul_le hq)]
    exact h3 i hq
  · by_cases hq2 : i = q
    · subst hq2
      rw [seg_clip _ (by omega)] at hs
      rw [seg_clip _ (by omega), hs, seg_clip _ (by omega), seg_clip _ (by omega)]
    · have := mul_le (k := 2 * k) (show q < i by omega)
      rw [seg_past _ (by omega), seg_past _ (by omega)]
      rfl
theorem MI_end2 {l cur : List FateM} {k a : Nat} (h : MI l cur k a) (hk : 0 < k) (hm : ¬ a + k < l.length) : blks l cur (2 * k) := by
  obtain ⟨h1, h2, q, ha, h3, h4⟩ := h
  obtain ⟨k1, _⟩ := two_blk hk ha h4
  subst ha
  refine ⟨h1, fun i => ?_⟩
  by_cases hq : i < q
  · exact h3 i hq
  · by_cases hq2 : i = q
    · subst hq2
      rw [seg_clip _ (by omega), seg_clip _ (by omega)] at k1
      rw [seg_clip _ (by omega), seg_clip _ (by omega)]
      exact k1
    · have := mul_le (k := 2 * k) (show q < i by omega)
      rw [seg_past _ (by omega), seg_past _ (by omega)]
      rfl
end Go.Dl
