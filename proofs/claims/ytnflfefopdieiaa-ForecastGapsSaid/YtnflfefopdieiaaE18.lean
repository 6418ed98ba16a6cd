/- Plain law: the most within a span, by two pointers and by counting; Plain law: the greatest of a loop, and where it came first; both ways to the most within a span come to the same. -/
import Derived.Test.YtnflfefopdieiaaE05
set_option linter.all false
namespace Go.Dl
set_option linter.unusedVariables false
set_option linter.unusedSectionVars false
section
variable (v : Nat → Int) (N : Nat) (s : Int)
/-- How many of the first k lie in a span from a value on. -/
def cntV (x : Int) : Nat → Nat
  | 0 => 0
  | k + 1 => cntV x k + (if x ≤ v k ∧ v k ≤ x + s then 1 else 0)
variable {v N s}
/-- In order, those within a span stand side by side. -/
theorem cnt_iv (hm : mono v N) {x : Int} {p : Nat} : ∀ (k q : Nat), k ≤ N → p ≤ q → (∀ i, i < p → v i < x) → (∀ i, p ≤ i → i < q → x ≤ v i ∧ v i ≤ x + s) → (∀ i, q ≤ i → i < N → x + s < v i) → cntV v s x k = min k q - min k p
  | 0, q, hk, hpq, h1, h2, h3 => by simp [cntV]
  | k + 1, q, hk, hpq, h1, h2, h3 => by
    have ih := cnt_iv hm k q (by omega) hpq h1 h2 h3
    rw [cntV, ih]
    by_cases hp : k < p
    · have := h1 k hp
      rw [if_neg (by omega)]
      omega
    · by_cases hq : k < q
      · rw [if_pos (h2 k (by omega) hq)]
        omega
      · have := h3 k (by omega) (by omega)
        rw [if_neg (by omega)]
        omega
/-- The first place that is not below a value; the first that is above one. -/
theorem first_ge (x : Int) : ∀ n : Nat, (∀ i j, i ≤ j → j < n → v i ≤ v j) → ∃ p, p ≤ n ∧ (∀ i, i < p → v i < x) ∧ (∀ i, p ≤ i → i < n → x ≤ v i)
  | 0, _ => ⟨0, Nat.le_refl 0, fun i h => by omega, fun i h1 h2 => by omega⟩
  | n + 1, hm => by
    obtain ⟨p, h0, h1, h2⟩ := first_ge x n (fun i j h hj => hm i j h (by omega))
    by_cases hp : p < n
    · refine ⟨p, by omega, h1, fun i hi hn => ?_⟩
      by_cases hin : i < n
      · exact h2 i hi hin
      · have : i = n := by omega
        subst this
        exact Int.le_trans (h2 p (Nat.le_refl p) hp) (hm p i hi (by omega))
    · have hpn : p = n := by omega
      subst hpn
      by_cases hv : x ≤ v p
      · refine ⟨p, by omega, h1, fun i hi hn => ?_⟩
        have : i = p := by omega
        subst this
        exact hv
      · refine ⟨p + 1, Nat.le_refl _, fun i hi => ?_, fun i h1 h2 => by omega⟩
        by_cases h : i < p
        · exact h1 i h
        · have : i = p := by omega
          subst this
          omega
/-- Of a start: the window's bounds. -/
theorem win (hm : mono v N) (hs : 0 ≤ s) {i : Nat} (hi : i < N) : ∃ p q, p ≤ i ∧ i < q ∧ q ≤ N ∧ (∀ k, k < p → v k < v i) ∧ v p = v i ∧ (∀ k, p ≤ k → k < q → v i ≤ v k ∧ v k ≤ v i + s) ∧ (∀ k, q ≤ k → k < N → v i + s < v k) ∧ cntV v s (v i) N = q - p := by
  obtain ⟨p, p0, p1, p2⟩ := first_ge (v := v) (v i) N hm
  obtain ⟨q, q0, q1, q2⟩ := first_ge (v := v) (v i + s + 1) N hm
  have hpi : p ≤ i := by
    apply Classical.byContradiction; intro h
    have := p1 i (by omega); omega
  have hiq : i < q := by
    apply Classical.byContradiction; intro h
    have := q2 i (by omega) hi; omega
  have hvp : v p = v i := by
    have h1 := p2 p (Nat.le_refl p) (by omega)
    have h2 := hm p i hpi hi
    omega
  have hin : ∀ k, p ≤ k → k < q → v i ≤ v k ∧ v k ≤ v i + s := fun k h1 h2 => ⟨p2 k h1 (by omega), by have := q1 k h2; omega⟩
  have hout : ∀ k, q ≤ k → k < N → v i + s < v k := fun k h1 h2 => by have := q2 k h1 h2; omega
  refine ⟨p, q, hpi, hiq, q0, p1, hvp, hin, hout, ?_⟩
  rw [cnt_iv hm N q (Nat.le_refl N) (by omega) p1 hin hout]
  omega
/-- What the two ways come to: by counting from each start (n, x), by two pointers over each end (n', x'). -/
theorem most_one (hm : mono v N) (hs : 0 ≤ s) (F : Nat → Nat) (hF : ∀ e, e < N → isFst v s e (F e))
    {n : Nat} {i0 : Nat} (a0 : i0 < N) (a1 : cntV v s (v i0) N = n) (a2 : ∀ i, i < N → cntV v s (v i) N ≤ n) (a3 : ∀ i, i < i0 → cntV v s (v i) N < n)
    {n' : Nat} {e0 : Nat} (b0 : e0 < N) (b1 : e0 + 1 - F e0 = n') (b2 : ∀ e, e < N → e + 1 - F e ≤ n') (b3 : ∀ e, e < e0 → e + 1 - F e < n') : n = n' ∧ v i0 = v (F e0) := by
  -- an end's window is no greater than its start's
  have hA : ∀ e, e < N → e + 1 - F e ≤ cntV v s (v (F e)) N := by
    intro e he
    obtain ⟨f1, f2, f3⟩ := hF e he
    obtain ⟨p, q, w1, w2, w3, w4, w5, w6, w7, w8⟩ := win hm hs (i := F e) (by omega)
    have : e < q := by
      apply Classical.byContradiction; intro h
      have := w7 e (by omega) he; omega
    omega
  -- a start's window is no greater than its last end's
  have hB : ∀ i, i < N → ∃ e, e < N ∧ cntV v s (v i) N ≤ e + 1 - F e ∧ v (F e) ≤ v i ∧ (∀ f, f ≤ e → F f ≤ F e) := by
    intro i hi
    obtain ⟨p, q, w1, w2, w3, w4, w5, w6, w7, w8⟩ := win hm hs hi
    obtain ⟨f1, f2, f3⟩ := hF (q - 1) (by omega)
    have hle : F (q - 1) ≤ p := by
      apply Classical.byContradiction; intro h
      have h1 := f3 p (by omega)
      have h2 := (w6 (q - 1) (by omega) (by omega)).2
      omega
    refine ⟨q - 1, by omega, by omega, ?_, ?_⟩
    · rw [← w5]; exact hm _ _ hle (by omega)
    · intro f hf
      obtain ⟨g1, g2, g3⟩ := hF f (by omega)
      apply Classical.byContradiction; intro h
      have h1 := g3 (F (q - 1)) (by omega)
      have h2 := hm f (q - 1) hf (by omega)
      omega
  obtain ⟨e1, c1, c2, c3, c4⟩ := hB i0 a0
  have hn : n = n' := by
    have h1 := b2 e1 c1
    have h2 := hA e0 b0
    have h3 := a2 (F e0) (by have := (hF e0 b0).1; omega)
    omega
  refine ⟨hn, ?_⟩
  -- the start of the first greatest end is a greatest start
  have hF0 : F e0 < N := by have := (hF e0 b0).1; omega
  have hge : cntV v s (v (F e0)) N = n := by
    have h2 := hA e0 b0
    have h3 := a2 (F e0) hF0
    omega
  have h1 : v i0 ≤ v (F e0) := by
    apply Classical.byContradiction; intro h
    -- then it stands ahead of i0
    have hlt : F e0 < i0 := by
      apply Classical.byContradiction; intro h2
      have := hm i0 (F e0) (by omega) hF0; omega
    have := a3 (F e0) hlt
    omega
  have h2 : v (F e0) ≤ v i0 := by
    have he : e0 ≤ e1 := by
      apply Classical.byContradiction; intro h
      have := b3 e1 (by omega); omega
    have h3 := c4 e0 he
    have h4 := hm (F e0) (F e1) h3 (by have := (hF e1 c1).1; omega)
    omega
  omega
end
end Go.Dl

namespace Go.Dl
set_option linter.unusedVariables false
set_option linter.unusedSectionVars false
/-- After i rounds: the greatest, and what stood where it came first; nothing yet: 0, -1. -/
def topP (W : Nat → Nat) (x : Nat → Int) (i best : Nat) (at' : Int) : Prop :=
  (i = 0 ∧ best = 0 ∧ at' = -1) ∨ ∃ e, e < i ∧ best = W e ∧ at' = x e ∧ (∀ k, k < i → W k ≤ W e) ∧ ∀ k, k < e → W k < W e
theorem top_0 (W : Nat → Nat) (x : Nat → Int) : topP W x 0 0 (-1) := .inl ⟨rfl, rfl, rfl⟩
theorem top_more {W : Nat → Nat} {x : Nat → Int} {i best : Nat} {at' : Int} (h : topP W x i best at') (h0 : best < W i) : topP W x (i + 1) (W i) (x i) := by
  refine .inr ⟨i, by omega, rfl, rfl, ?_, ?_⟩
  · intro k hk
    by_cases hki : k = i
    · subst hki; exact Nat.le_refl _
    · rcases h with ⟨rfl, _, _⟩ | ⟨e, h1, h2, h3, h4, h5⟩
      · omega
      · have := h4 k (by omega); omega
  · intro k hk
    rcases h with ⟨rfl, _, _⟩ | ⟨e, h1, h2, h3, h4, h5⟩
    · omega
    · have := h4 k hk; omega
theorem top_stay {W : Nat → Nat} {x : Nat → Int} {i best : Nat} {at' : Int} (h : topP W x i best at') (hp : 0 < W i) (h0 : ¬ best < W i) : topP W x (i + 1) best at' := by
  rcases h with ⟨rfl, h1, _⟩ | ⟨e, h1, h2, h3, h4, h5⟩
  · omega
  · refine .inr ⟨e, by omega, h2, h3, fun k hk => ?_, h5⟩
    by_cases hki : k = i
    · subst hki; omega
    · exact h4 k (by omega)
/-- Both ways come to the same. -/
theorem most_two {v : Nat → Int} {s : Int} {N : Nat} (hm : mono v N) (hs : 0 ≤ s) {n n' : Nat} {x x' : Int}
    (h1 : topP (fun i => cntV v s (v i) N) v N n x) (h2 : topP (fun e => e + 1 - fstF v s e) (fun e => v (fstF v s e)) N n' x') : n = n' ∧ x = x' := by
  rcases h1 with ⟨h0, rfl, rfl⟩ | ⟨i0, a0, a1, a2, a3, a4⟩
  · rcases h2 with ⟨_, rfl, rfl⟩ | ⟨e, b0, _⟩
    · exact ⟨rfl, rfl⟩
    · omega
  · rcases h2 with ⟨h0, _, _⟩ | ⟨e0, b0, b1, b2, b3, b4⟩
    · omega
    · dsimp only at a1 a2 a3 a4 b1 b2 b3 b4
      obtain ⟨r1, r2⟩ := most_one hm hs (fstF v s) (fun e _ => fstF_ok hs e) a0 a1.symm (fun i hi => by have := a3 i hi; omega) (fun i hi => by have := a4 i hi; omega)
        b0 b1.symm (fun e he => by have := b3 e he; omega) (fun e he => by have := b4 e he; omega)
      exact ⟨r1, by rw [a2, b2, r2]⟩
end Go.Dl
