/- 'Dl', part B: what slots hold, the state, how it stands for a frame and a world; code by triples. -/
import Derived.Test.YtdhlelineoggkaaDlA
namespace Go.Dl
open Go.RowKit

inductive RepD (w : World) (S : Nat → Prop) (E : Env) : D → Value → Prop
  | top {v} : RepD w S E .top v
  | c {y v} (h : Rep w S E (.k false y v) []) : RepD w S E (.c y) v
  | agg {xs arr} (h : Rep w S E (.vs xs arr.toList) []) : RepD w S E (.agg xs) (.agg arr)
  | q {xs b off} (hS : S b) (h : Rep w S E (.l true xs b off) []) : RepD w S E (.q xs) (.pointer (some ⟨b, off, none⟩))
  | t {ds arr} (hn : arr.size = ds.length) (h : ∀ i d, ds[i]? = some d → RepD w S E d (arr.getD i undef)) : RepD w S E (.t ds) (.tuple arr)

mutual
def D.no (r : Nat) : D → Bool
  | .c y => y.no r
  | .agg xs => C.nos r xs
  | .t ds => D.nos r ds
  | _ => true
def D.nos (r : Nat) : List D → Bool
  | [] => true
  | d :: ds => d.no r && D.nos r ds
end

theorem D.nos_get {r : Nat} {d : D} : ∀ {ds : List D} (i : Nat), D.nos r ds = true → ds[i]? = some d → D.no r d = true := by
  intro ds
  induction ds with
  | nil => intro i _ h; simp at h
  | cons e es ih =>
    intro i hn h
    simp only [D.nos, Bool.and_eq_true] at hn
    cases i with
    | zero => simp at h; exact h ▸ hn.1
    | succ i => exact ih i hn.2 (by simpa using h)

theorem RepD.mono {w w' : World} {S S' : Nat → Prop} {E E' : Env} {d : D} {v : Value} (h : RepD w S E d v)
    (hS : ∀ b, S b → S' b) (hE : EnvLe E E' (fun r => d.no r)) (hb : ∀ b, S b → w'.heap[b]? = w.heap[b]?) : RepD w' S' E' d v := by
  induction h with
  | top => exact .top
  | c h =>
    refine .c (h.mono hS ⟨hE.1, fun r hr h => hE.2 r hr (by simpa [It.no, D.no] using h)⟩ ?_)
    intro b hb'
    rcases hb' with h | h | h
    · exact hb b h
    · cases h
    · cases h
  | agg h =>
    refine .agg (h.mono hS ⟨hE.1, fun r hr h => hE.2 r hr (by simpa [It.no, D.no] using h)⟩ ?_)
    intro b hb'
    rcases hb' with h | h | h
    · exact hb b h
    · cases h
    · cases h
  | q hs h =>
    refine .q (hS _ hs) (h.mono hS ⟨hE.1, fun r hr h => by simp [It.no] at h⟩ ?_)
    intro b hb'
    rcases hb' with h | h | h
    · exact hb b h
    · cases h
    · simp only [It.base, List.mem_singleton] at h; subst h; exact hb _ hs
  | t hn h ih =>
    refine .t hn fun i d hd => ih i d hd ⟨hE.1, fun r hr h => hE.2 r hr ?_⟩
    show D.no r (D.t _) = false
    rw [D.no]
    cases hh : D.nos r _ with
    | false => rfl
    | true => exact absurd (D.nos_get i hh hd) (by simp [show D.no r d = false from h])

structure St where
  sl : List D
  H : List (Option Root)

/-- A root as it lies. -/
def RootAt (w : World) (S : Nat → Prop) (E : Env) (R : Root) (p : Pl) (f : List Nat) : Prop :=
  p.es = R.es ∧ p.n = R.rows.length ∧ p.n ≤ p.m ∧ (∀ r ∈ R.rows, r.length = R.es) ∧ match p.at? with
  | none => R.rows = [] ∧ f = [] ∧ p.m = 0
  | some (b, off) => ∃ fr, f = b :: fr ∧ OwnBlock w b (off + p.m * R.es) ∧ Rep w S E (.l R.dat R.rows.flatten b off) fr

/-- Nothing was put out; the draws went on. -/
def OutLe (w0 w : World) : Prop := w.output = w0.output ∧ w0.drawn ≤ w.drawn
theorem OutLe.rf (w : World) : OutLe w w := ⟨rfl, Nat.le_refl _⟩
theorem OutLe.trans {w0 w w' : World} (h : OutLe w w') (k : OutLe w0 w) : OutLe w0 w' := ⟨h.1.trans k.1, Nat.le_trans k.2 h.2⟩

/-- What a call began with: its world, the memory that stays, the blocks that it may write. -/
structure G where
  w0 : World
  S0 : Nat → Prop
  own : List Nat
  pls : List Pl

structure Rel (g : G) (S : Nat → Prop) (E : Env) (F : List (List Nat)) (A : St) (a : Act) (w : World) : Prop where
  len : A.sl.length = a.tmps.size
  sl : ∀ (t : Nat) (d : D), A.sl[t]? = some d → RepD w S E d (a.tmps.getD t undef)
  defers : a.defers = []
  lE : E.length = A.H.length
  lF : F.length = A.H.length
  root : ∀ (r : Nat) (R : Root), A.H[r]? = some (some R) → ∃ p f, E[r]? = some (some p) ∧ F[r]? = some f ∧ RootAt w S E R p f
  dead : ∀ r : Nat, A.H[r]? = some none → E[r]? = some none ∧ F[r]? = some []
  nodup : F.flatten.Nodup
  fS : ∀ b ∈ F.flatten, ¬ S b
  fsz : ∀ b ∈ F.flatten, b < w.heap.size ∧ (b ∈ g.own ∨ g.w0.heap.size ≤ b)
  Ssz : ∀ b, S b → b < w.heap.size ∧ (g.S0 b ∨ b ∈ g.own ∨ g.w0.heap.size ≤ b)
  S0 : ∀ b, g.S0 b → S b
  prot : ∀ b, b < g.w0.heap.size → b ∉ g.own → w.heap[b]? = g.w0.heap[b]?
  size : g.w0.heap.size ≤ w.heap.size
  os : w.os = g.w0.os
  tape : w.tape = g.w0.tape
  output : OutLe g.w0 w
  fix : ∀ (r : Nat) (q : Pl), g.pls[r]? = some q → r < A.H.length ∧ ∀ R, A.H[r]? = some (some R) → R.dat = false ∧ ∀ p, E[r]? = some (some p) → q.le p

/-- Some way to stand for it. -/
def Sat (g : G) (A : St) (a : Act) (w : World) : Prop := ∃ S E F, Rel g S E F A a w

def St.put (A : St) (dst : Option Tmp) (d : D) : St :=
  match dst with
  | none => A
  | some t => { A with sl := A.sl.set t d }

/-- Code by triples: from states of A to states of Q. -/
def Tri (P : Program) (c : Code) (A : St) (Q : Exit → St → Prop) : Prop :=
  ∀ g a w, Sat g A a w → c.wp P (fun e a' w' => ∃ A', Sat g A' a' w' ∧ Q e A') a w

theorem Tri.mono {P : Program} {c : Code} {A : St} {Q Q' : Exit → St → Prop} (h : Tri P c A Q) (hq : ∀ e A, Q e A → Q' e A) : Tri P c A Q' :=
  fun g a w hs => wp_mono (h g a w hs) fun e _ _ ⟨A', h1, h2⟩ => ⟨A', h1, hq e A' h2⟩

def thenQ (N : St → Prop) (Q : Exit → St → Prop) : Exit → St → Prop
  | .normal, A => N A
  | e, A => Q e A

theorem tri_skip {P : Program} {A : St} {Q : Exit → St → Prop} (h : Q .normal A) : Tri P .skip A Q :=
  fun _ _ _ hs => wp_skip ⟨A, hs, h⟩

theorem tri_exit {P : Program} {A : St} {Q : Exit → St → Prop} {id : Nat} (h : Q (.exit id) A) : Tri P (.exit id) A Q :=
  fun _ _ _ hs => wp_exit ⟨A, hs, h⟩

theorem tri_ret {P : Program} {A : St} {Q : Exit → St → Prop} (h : Q .ret A) : Tri P .ret A Q :=
  fun _ _ _ hs => wp_ret ⟨A, hs, h⟩

theorem tri_seq {P : Program} {x y : Code} {A : St} {Q : Exit → St → Prop} (h : Tri P x A (thenQ (fun A' => Tri P y A' Q) Q)) : Tri P (.seq x y) A Q := by
  intro g a w hs
  refine wp_seq (wp_mono (h g a w hs) ?_)
  rintro e a' w' ⟨A', h1, h2⟩
  cases e with
  | normal => exact h2 g a' w' h1
  | exit id => exact ⟨A', h1, h2⟩
  | goto l => exact ⟨A', h1, h2⟩
  | ret => exact ⟨A', h1, h2⟩
  | panic ch => exact ⟨A', h1, h2⟩
  | outgrown => exact ⟨A', h1, h2⟩

def blockQ (id : Nat) (Q : Exit → St → Prop) : Exit → St → Prop
  | .exit id', A => if id' = id then Q .normal A else Q (.exit id') A
  | e, A => Q e A

theorem tri_block {P : Program} {id : Nat} {c : Code} {A : St} {Q : Exit → St → Prop} (h : Tri P c A (blockQ id Q)) : Tri P (.block id c) A Q := by
  intro g a w hs
  refine wp_block (wp_mono (h g a w hs) ?_)
  rintro e a' w' ⟨A', h1, h2⟩
  cases e with
  | normal => exact ⟨A', h1, h2⟩
  | exit id' =>
    simp only [Exit.inBlock, blockQ] at *
    split
    · rename_i hid; rw [if_pos hid] at h2; exact ⟨A', h1, h2⟩
    · rename_i hid; rw [if_neg hid] at h2; exact ⟨A', h1, h2⟩
  | goto l => exact ⟨A', h1, h2⟩
  | ret => exact ⟨A', h1, h2⟩
  | panic ch => exact ⟨A', h1, h2⟩
  | outgrown => exact ⟨A', h1, h2⟩

/-- A loop: a relation that is counted down. -/
theorem tri_loop {P : Program} {c : Code} {A : St} {Q : Exit → St → Prop} (I : Nat → St → Prop) (n : Nat) (h0 : I n A)
    (round : ∀ n A, I n A → Tri P c A (thenQ (fun A' => ∃ m, m < n ∧ I m A') Q)) : Tri P (.loop c) A Q := by
  intro g a w hs b k cs
  have key : ∀ n A a w, I n A → Sat g A a w →
      ∃ e a' w', (∃ A', Sat g A' a' w' ∧ Q e A') ∧ Arrives P (lone (b.at a (.code c :: .inLoop c :: k)) cs w) b k cs e a' w' := by
    intro n
    induction n using Nat.strongRecOn with
    | _ n ih =>
      intro A a w hI hsat
      obtain ⟨e, a₁, w₁, ⟨A₁, hsat₁, hq⟩, harr⟩ := round n A hI g a w hsat b (.inLoop c :: k) cs
      cases e with
      | normal =>
        obtain ⟨m, hlt, hI₁⟩ := hq
        obtain ⟨e₂, a₂, w₂, hq₂, harr₂⟩ := ih m hlt A₁ a₁ w₁ hI₁ hsat₁
        exact ⟨e₂, a₂, w₂, hq₂, .of_steps (Steps.trans harr (.one step_inLoop)) harr₂⟩
      | exit id => exact ⟨_, a₁, w₁, ⟨A₁, hsat₁, hq⟩, .pass (x := .inLoop c) rfl (fun _ _ => .inl (by simp)) harr⟩
      | goto l => exact ⟨_, a₁, w₁, ⟨A₁, hsat₁, hq⟩, .pass (x := .inLoop c) rfl (fun _ _ => .inl (by simp)) harr⟩
      | ret => exact ⟨_, a₁, w₁, ⟨A₁, hsat₁, hq⟩, .pass (x := .inLoop c) rfl (fun _ _ => .inl (by simp)) harr⟩
      | panic ch => exact ⟨_, a₁, w₁, ⟨A₁, hsat₁, hq⟩, .pass (x := .inLoop c) rfl (fun _ _ => .inl (by simp)) harr⟩
      | outgrown => exact ⟨_, a₁, w₁, ⟨A₁, hsat₁, hq⟩, .pass (x := .inLoop c) rfl (fun _ _ => .inl (by simp)) harr⟩
  obtain ⟨e, a', w', hq, harr⟩ := key n A a w h0 hs
  exact ⟨e, a', w', hq, .of_steps (.one step_loop) harr⟩

/-- A state that says less. -/
theorem Tri.weak {P : Program} {c : Code} {A A' : St} {Q : Exit → St → Prop} (hw : ∀ g a w, Sat g A a w → Sat g A' a w) (h : Tri P c A' Q) : Tri P c A Q :=
  fun g a w hs => h g a w (hw g a w hs)


theorem tri_cond {P : Program} {t : Tmp} {x y : Code} {A : St} {Q : Exit → St → Prop} {b : Bool} (hc : A.sl[t]? = some (.c (.v (.bool b))))
    (ht : b = true → Tri P x A Q) (hf : b = false → Tri P y A Q) : Tri P (.cond (.tmp t) x y) A Q := by
  intro g a w hs
  obtain ⟨S, E, F, hr⟩ := hs
  have h := hr.sl t _ hc
  have he : a.eval (.tmp t) = .bool b := by
    show a.tmps.getD t undef = _
    generalize a.tmps.getD t undef = v at h
    cases h with
    | c h => cases h with
      | v _ => rfl
  cases b with
  | true => exact wp_cond he (by simpa using ht rfl g a w ⟨S, E, F, hr⟩)
  | false => exact wp_cond he (by simpa using hf rfl g a w ⟨S, E, F, hr⟩)

end Go.Dl
