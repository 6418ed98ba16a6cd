/- A program logic over plain data ('Dl'), part A: data, how they lie in memory, and that they stay there. -/
import Derived.Below
import Derived.Calls
namespace Go.Dl
open Go.RowKit

/-- One cell: a scalar; a slice by value (owned by its holder, or in memory that stays); an unknown; a handle on a row; a pointer into a root; a function with what it captured; a pointer to an object of its own, by value; some map. -/
inductive C where
  | v (x : Value)
  | s (own : Bool) (es : Nat) (rows : List (List C))
  | x
  | h (r lo len : Nat)
  | p (r e c : Nat)
  | f (k : Nat) (caps : List C)
  | o (row : List C)
  | m
  deriving Inhabited

/-- What a slot holds. -/
inductive D where
  | top
  | c (y : C)
  | agg (xs : List C)
  | q (xs : List C)
  | t (ds : List D)
  deriving Inhabited

/-- Does a number fit its kind? -/
def inR : IntKind → Int → Bool
  | .i8, n => decide (-128 ≤ n) && decide (n ≤ 127)
  | .i16, n => decide (-32768 ≤ n) && decide (n ≤ 32767)
  | .i32, n => decide (-2147483648 ≤ n) && decide (n ≤ 2147483647)
  | .i64, n => decide (-9223372036854775808 ≤ n) && decide (n ≤ 9223372036854775807)
  | .u8, n => decide (0 ≤ n) && decide (n ≤ 255)
  | .u16, n => decide (0 ≤ n) && decide (n ≤ 65535)
  | .u32, n => decide (0 ≤ n) && decide (n ≤ 4294967295)
  | .u64, n => decide (0 ≤ n) && decide (n ≤ 18446744073709551615)

/-- The longest text. -/
def maxStr : Nat := 9223372036854775807

/-- Scalars that fit. -/
def Sc : Value → Prop
  | .bool _ => True
  | .int k n => inR k n = true
  | .float _ _ => True
  | .string s => s.size ≤ maxStr
  | .pointer none => True
  | .map none => True
  | .nilFunc => True
  | .nilIface => True
  | _ => False

/-- Where a root lies: its first cell (none: a nil slice), cells an element, elements, room for elements. -/
structure Pl where
  at? : Option (Nat × Nat)
  es : Nat
  n : Nat
  m : Nat

structure Root where
  dat : Bool
  es : Nat
  rows : List (List C)

/-- What is read. -/
inductive It where
  | k (dat : Bool) (c : C) (v : Value)
  | l (dat : Bool) (cs : List C) (b off : Nat)
  | vs (cs : List C) (vs : List Value)

abbrev Env := List (Option Pl)

/-- An owned block: cells, room for so many from an offset on, nothing of it frozen. -/
def OwnBlock (w : World) (b n : Nat) : Prop :=
  ∃ arr el z, w.heap[b]? = some (.cells arr el z) ∧ n ≤ arr.size ∧ ∀ o, o < arr.size → w.frozen? ⟨b, o, none⟩ = false

def HandleAt (pl : Pl) (lo len : Nat) (v : Value) : Prop :=
  lo + len ≤ pl.n ∧ match pl.at? with
  | none => ∃ a, v = .slice a 0 0
  | some (b, off) => ∃ a cap, v = .slice (some a) len cap ∧ len ≤ cap ∧ lo + cap ≤ pl.m ∧ (cap = 0 ∨ a = ⟨b, off + lo * pl.es, none⟩)

def PtrAt (pl : Pl) (e c : Nat) (v : Value) : Prop :=
  ∃ b off, pl.at? = some (b, off) ∧ v = .pointer (some ⟨b, off + e * pl.es + c, none⟩)

inductive Rep (w : World) (S : Nat → Prop) (E : Env) : It → List Nat → Prop
  | v {dat x} (h : Sc x) : Rep w S E (.k dat (.v x) x) []
  | nilI {dat es a cap} : Rep w S E (.k dat (.s false es []) (.slice a 0 cap)) []
  | nilO {dat es a} : Rep w S E (.k dat (.s true es []) (.slice a 0 0)) []
  | imm {dat es rows b off cap} (hS : S b) (hc : rows.length ≤ cap) (hl : ∀ r ∈ rows, r.length = es) (hr : Rep w S E (.l true rows.flatten b off) []) :
      Rep w S E (.k dat (.s false es rows) (.slice (some ⟨b, off, none⟩) rows.length cap)) []
  | own {dat es rows b off cap fp} (hz : es ≠ 0) (hb : OwnBlock w b (off + cap * es)) (hc : rows.length ≤ cap) (hl : ∀ r ∈ rows, r.length = es)
      (hr : Rep w S E (.l true rows.flatten b off) fp) :
      Rep w S E (.k dat (.s true es rows) (.slice (some ⟨b, off, none⟩) rows.length cap)) (b :: fp)
  | optr {dat row b off fp} (hb : OwnBlock w b (off + row.length)) (hr : Rep w S E (.l true row b off) fp) : Rep w S E (.k dat (.o row) (.pointer (some ⟨b, off, none⟩))) (b :: fp)
  | x {v} : Rep w S E (.k false .x v) []
  | m {dat b} : Rep w S E (.k dat .m (.map (some b))) []
  | h {r lo len v} (hr : r < E.length) (hh : ∀ pl, E[r]? = some (some pl) → HandleAt pl lo len v) : Rep w S E (.k false (.h r lo len) v) []
  | p {r e c v} (hr : r < E.length) (hh : ∀ pl, E[r]? = some (some pl) → PtrAt pl e c v) : Rep w S E (.k false (.p r e c) v) []
  | f {dat k caps cs} (hc : dat = false ∨ caps = []) (hr : Rep w S E (.vs caps cs.toList) []) : Rep w S E (.k dat (.f k caps) (.func (.func k) #[] cs)) []
  | lnil {dat b off} : Rep w S E (.l dat [] b off) []
  | lcons {dat c cs b off v f1 f2} (hv : w.cell? ⟨b, off, none⟩ = some v) (hc : Rep w S E (.k dat c v) f1) (hr : Rep w S E (.l dat cs b (off + 1)) f2) :
      Rep w S E (.l dat (c :: cs) b off) (f1 ++ f2)
  | vnil : Rep w S E (.vs [] []) []
  | vcons {c cs v vs f1 f2} (hc : Rep w S E (.k false c v) f1) (hr : Rep w S E (.vs cs vs) f2) : Rep w S E (.vs (c :: cs) (v :: vs)) (f1 ++ f2)

/-- Data: no handle, no pointer. -/
def C.dat : C → Bool
  | .v _ => true
  | .s _ _ _ => true
  | .f _ caps => caps.isEmpty
  | .o _ => true
  | .m => true
  | _ => false

mutual
/-- Does a cell speak of a root? -/
def C.no (r : Nat) : C → Bool
  | .h r' _ _ => r' != r
  | .p r' _ _ => r' != r
  | .f _ caps => C.nos r caps
  | _ => true
def C.nos (r : Nat) : List C → Bool
  | [] => true
  | c :: cs => C.no r c && C.nos r cs
end

/-- The roots of which an item speaks are in a set. -/
def It.no (r : Nat) : It → Bool
  | .k dat c _ => dat || c.no r
  | .l dat cs _ _ => dat || C.nos r cs
  | .vs cs _ => C.nos r cs

def It.base : It → List Nat
  | .l _ _ b _ => [b]
  | _ => []

/-- A place that still serves. -/
def Pl.le (p q : Pl) : Prop := q.at? = p.at? ∧ q.es = p.es ∧ p.n ≤ q.n ∧ p.m ≤ q.m

theorem Pl.le_refl (p : Pl) : p.le p := ⟨rfl, rfl, Nat.le_refl _, Nat.le_refl _⟩

theorem Pl.le.trans {p q r : Pl} (h : p.le q) (k : q.le r) : p.le r := by
  obtain ⟨h1, h2, h3, h4⟩ := h
  obtain ⟨k1, k2, k3, k4⟩ := k
  exact ⟨k1.trans h1, k2.trans h2, Nat.le_trans h3 k3, Nat.le_trans h4 k4⟩

theorem HandleAt.le {p q : Pl} {lo len : Nat} {v : Value} (h : HandleAt p lo len v) (hl : p.le q) : HandleAt q lo len v := by
  obtain ⟨h1, h2, h3, h4⟩ := hl
  obtain ⟨g1, g2⟩ := h
  refine ⟨by omega, ?_⟩
  rw [h1]
  cases hp : p.at? with
  | none => rw [hp] at g2; exact g2
  | some bo =>
    rw [hp] at g2
    obtain ⟨b, off⟩ := bo
    obtain ⟨a, cap, e1, e2, e3, e4⟩ := g2
    exact ⟨a, cap, e1, e2, by omega, by rw [h2]; exact e4⟩

theorem PtrAt.le {p q : Pl} {e c : Nat} {v : Value} (h : PtrAt p e c v) (hl : p.le q) : PtrAt q e c v := by
  obtain ⟨h1, h2, _, _⟩ := hl
  obtain ⟨b, off, e1, e2⟩ := h
  exact ⟨b, off, by rw [h1]; exact e1, by rw [h2]; exact e2⟩

/-- What the environment says of the roots that an item names is kept. -/
def EnvLe (E E' : Env) (ok : Nat → Bool) : Prop :=
  E.length ≤ E'.length ∧ ∀ r, r < E.length → ok r = false → ∀ q, E'[r]? = some (some q) → ∃ p, E[r]? = some (some p) ∧ p.le q

theorem EnvLe.refl (E : Env) (ok : Nat → Bool) : EnvLe E E ok := ⟨Nat.le_refl _, fun _ _ _ q h => ⟨q, h, q.le_refl⟩⟩

theorem OwnBlock.keep {w w' : World} {b n : Nat} (h : OwnBlock w b n) (hb : w'.heap[b]? = w.heap[b]?) : OwnBlock w' b n := by
  obtain ⟨arr, el, z, h1, h2, h3⟩ := h
  exact ⟨arr, el, z, hb.trans h1, h2, fun o ho => by rw [World.frozen?_of_block (w := w) hb]; exact h3 o ho⟩

theorem Rep.mono {w w' : World} {S S' : Nat → Prop} {E E' : Env} {it : It} {fp : List Nat} (h : Rep w S E it fp)
    (hS : ∀ b, S b → S' b) (hE : EnvLe E E' (fun r => it.no r)) (hb : ∀ b, S b ∨ b ∈ fp ∨ b ∈ it.base → w'.heap[b]? = w.heap[b]?) : Rep w' S' E' it fp := by
  induction h with
  | v h => exact .v h
  | nilI => exact .nilI
  | nilO => exact .nilO
  | imm hs hc hl hr ih =>
    refine .imm (hS _ hs) hc hl (ih ⟨hE.1, fun r hr' h => by simp [It.no] at h⟩ ?_)
    intro b hb'
    rcases hb' with h | h | h
    · exact hb b (.inl h)
    · cases h
    · simp only [It.base, List.mem_singleton] at h; subst h; exact hb _ (.inl hs)
  | own hz hbk hc hl hr ih =>
    refine .own hz (hbk.keep (hb _ (.inr (.inl (List.mem_cons_self ..))))) hc hl (ih ⟨hE.1, fun r hr' h => by simp [It.no] at h⟩ ?_)
    intro b hb'
    rcases hb' with h | h | h
    · exact hb b (.inl h)
    · exact hb b (.inr (.inl (List.mem_cons_of_mem _ h)))
    · simp only [It.base, List.mem_singleton] at h; subst h; exact hb _ (.inr (.inl (List.mem_cons_self ..)))
  | optr hbk hr ih =>
    refine .optr (hbk.keep (hb _ (.inr (.inl (List.mem_cons_self ..))))) (ih ⟨hE.1, fun r hr' h => by simp [It.no] at h⟩ ?_)
    intro b hb'
    rcases hb' with h | h | h
    · exact hb b (.inl h)
    · exact hb b (.inr (.inl (List.mem_cons_of_mem _ h)))
    · simp only [It.base, List.mem_singleton] at h; subst h; exact hb _ (.inr (.inl (List.mem_cons_self ..)))
  | x => exact .x
  | m => exact .m
  | h hr hh =>
    rename_i r lo len v
    refine .h (Nat.lt_of_lt_of_le hr hE.1) fun q hq => ?_
    obtain ⟨p, hp, hle⟩ := hE.2 r hr (by simp [It.no, C.no]) q hq
    exact (hh p hp).le hle
  | p hr hh =>
    rename_i r e c v
    refine .p (Nat.lt_of_lt_of_le hr hE.1) fun q hq => ?_
    obtain ⟨p, hp, hle⟩ := hE.2 r hr (by simp [It.no, C.no]) q hq
    exact (hh p hp).le hle
  | f hc hr ih =>
    refine .f hc (ih ⟨hE.1, fun r hr' h => hE.2 r hr' ?_⟩ ?_)
    · rcases hc with rfl | rfl
      · simpa [It.no, C.no] using h
      · simp [It.no, C.nos] at h
    · intro b hb'
      rcases hb' with h | h | h
      · exact hb b (.inl h)
      · cases h
      · cases h
  | lnil => exact .lnil
  | lcons hv hc hr ih1 ih2 =>
    rename_i dat c cs b off v f1 f2
    refine .lcons ?_ (ih1 ⟨hE.1, fun r hr' h => hE.2 r hr' ?_⟩ ?_) (ih2 ⟨hE.1, fun r hr' h => hE.2 r hr' ?_⟩ ?_)
    · rw [World.cell?_of_block (w := w) (hb b (.inr (.inr (by simp [It.base]))))]; exact hv
    · revert h; simp only [It.no, C.nos]; cases dat <;> simp +contextual
    · intro b' hb'
      rcases hb' with h | h | h
      · exact hb _ (.inl h)
      · exact hb _ (.inr (.inl (List.mem_append_left _ h)))
      · cases h
    · revert h; simp only [It.no, C.nos]; cases dat <;> simp +contextual
    · intro b' hb'
      rcases hb' with h | h | h
      · exact hb _ (.inl h)
      · exact hb _ (.inr (.inl (List.mem_append_right _ h)))
      · exact hb _ (.inr (.inr h))
  | vnil => exact .vnil
  | vcons hc hr ih1 ih2 =>
    refine .vcons (ih1 ⟨hE.1, fun r hr' h => hE.2 r hr' ?_⟩ ?_) (ih2 ⟨hE.1, fun r hr' h => hE.2 r hr' ?_⟩ ?_)
    · revert h; simp only [It.no, C.nos, Bool.false_or]; simp +contextual
    · intro b' hb'
      rcases hb' with h | h | h
      · exact hb _ (.inl h)
      · exact hb _ (.inr (.inl (List.mem_append_left _ h)))
      · cases h
    · revert h; simp only [It.no, C.nos]; simp +contextual
    · intro b' hb'
      rcases hb' with h | h | h
      · exact hb _ (.inl h)
      · exact hb _ (.inr (.inl (List.mem_append_right _ h)))
      · cases h

end Go.Dl
