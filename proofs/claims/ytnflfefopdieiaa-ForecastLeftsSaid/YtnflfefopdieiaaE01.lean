/- Plain law: the most within a span, by two pointers and by counting; Plain law: the greatest of a loop, and where it came first; both ways to the most within a span come to the same; A program logic over plain data ('Dl'), part A: data, how they lie in memory, and that they stay there; 'Dl', part B: what slots hold, the state, how it stands for a frame and a world; code by triples; 'Dl', part C: operations that change nothing but a slot; 'Dl', part D: what quiet operations come to, as a function; that it is so; 'Dl', part E: quiet operations are what the function says; 'Dl', part F: quiet operations are what the function says: indexes, slices, operators; 'Dl', part G: operators, slice expressions; the whole function. -/
import Derived.KernelRfl
import Derived.Below
import Derived.Calls
import Derived.Laws.Entries
import Derived.Laws.Cells
import Derived.ChangeKeysEq
import Derived.Laws.Strings
import Derived.Laws.StructEq
import Derived.Laws.Append
import Derived.Laws.IdiomCopy
import Derived.Laws.BytesArg
import Derived.Lib.ConvBytes
import Derived.Orders
import Derived.Carry
import Derived.DataReads
import Derived.WalkKit
import Derived.ProofKit
import Derived.OpenShut
import Derived.ShutString
import Derived.ChangeOld
import Derived.Test.YtnflfefopdieiaaProg
set_option linter.all false
namespace Go.Dl
set_option linter.unusedVariables false
set_option linter.unusedSectionVars false
section
variable (v : Nat → Int) (N : Nat) (s : Int)
def mono : Prop := ∀ i j, i ≤ j → j < N → v i ≤ v j
variable {v N s}
/-- f is the first place from which an end is within the span. -/
def isFst (v : Nat → Int) (s : Int) (e f : Nat) : Prop := f ≤ e ∧ v e - v f ≤ s ∧ ∀ k, k < f → s < v e - v k
end
end Go.Dl

namespace Go.Dl
set_option linter.unusedVariables false
set_option linter.unusedSectionVars false
/-- The first place from which an end is within the span. -/
def fstGo (v : Nat → Int) (s : Int) (e : Nat) : Nat → Nat → Nat
  | 0, f => f
  | n + 1, f => if s < v e - v f then fstGo v s e n (f + 1) else f
theorem fstGo_ok {v : Nat → Int} {s : Int} {e : Nat} (hs : 0 ≤ s) : ∀ (n f : Nat), f + n = e → (∀ k, k < f → s < v e - v k) → isFst v s e (fstGo v s e n f)
  | 0, f, h, hk => by
    have : f = e := by omega
    subst this
    exact ⟨Nat.le_refl _, by rw [fstGo]; omega, hk⟩
  | n + 1, f, h, hk => by
    rw [fstGo]
    split
    · rename_i hc
      refine fstGo_ok hs n (f + 1) (by omega) fun k hk2 => ?_
      by_cases hkf : k = f
      · subst hkf; exact hc
      · exact hk k (by omega)
    · exact ⟨by omega, by omega, hk⟩
def fstF (v : Nat → Int) (s : Int) (e : Nat) : Nat := fstGo v s e e 0
theorem fstF_ok {v : Nat → Int} {s : Int} (hs : 0 ≤ s) (e : Nat) : isFst v s e (fstF v s e) := fstGo_ok hs e 0 (by omega) (fun k hk => by omega)
theorem fst_one {v : Nat → Int} {s : Int} {e f : Nat} (hs : 0 ≤ s) (h : isFst v s e f) : f = fstF v s e := by
  obtain ⟨a1, a2, a3⟩ := h
  obtain ⟨b1, b2, b3⟩ := fstF_ok (v := v) hs e
  apply Classical.byContradiction
  intro hn
  rcases Nat.lt_or_ge f (fstF v s e) with h | h
  · have := b3 f h; omega
  · have := a3 (fstF v s e) (by omega); omega
end Go.Dl

namespace Go.Dl
open Go.RowKit
theorem Z1 {α : Type _} {l : List α} {a : α} : (a :: l)[0]? = some a := List.getElem?_cons_zero
theorem Z2 {α : Type _} {l : List α} {a : α} {i : Nat} : (a :: l)[i + 1]? = l[i]? := List.getElem?_cons_succ
theorem Z3 {α : Type _} (a b : α) : (some a = some b) = (a = b) := Option.some.injEq a b
theorem Z4 {α β : Type _} (a : α) (f : α → β) : Option.map f (some a) = some (f a) := Option.map_some a f
theorem Z5 {α : Type _} {l : List α} {a b : α} : (b :: l).set 0 a = a :: l := List.set_cons_zero
theorem Z6 {α : Type _} {l : List α} {i : Nat} {a b : α} : (b :: l).set (i + 1) a = b :: l.set i a := List.set_cons_succ
theorem Z7 : (false = true) = False := Bool.false_eq_true
theorem Z8 {α β : Type _} (a : α) (f : α → Option β) : (some a).bind f = f a := Option.bind_some a f
theorem Z9 {α : Type _} {a : α} {l : List α} : (a :: l).length = l.length + 1 := List.length_cons
theorem Z10 {α : Type _} : ([] : List α).length = 0 := List.length_nil
theorem Z11 {α β : Type _} (f : α → β) : Option.map f none = none := Option.map_none f
theorem Z12 {α : Type _} (l : List α) : [] ++ l = l := List.nil_append l
theorem Z13 {α β : Type _} {f : α → β} : List.map f [] = [] := List.map_nil
theorem Z14 (n : Nat) : 0 + n = n := Nat.zero_add n
theorem Z15 {α : Type _} (l : List α) : l ++ [] = l := List.append_nil l
theorem Z16 {α : Type _} {a : α} {l : List α} {f : α → Bool} : (a :: l).all f = (f a && l.all f) := List.all_cons
theorem Z17 {α : Type _} {a : α} {l : List α} {i : Nat} : List.take (i + 1) (a :: l) = a :: List.take i l := List.take_succ_cons
theorem Z18 {α : Type _} {f : α → Bool} : [].all f = true := List.all_nil
theorem Z19 {α : Type _} {a : α} {l : List α} {i : Nat} : List.drop (i + 1) (a :: l) = List.drop i l := List.drop_succ_cons
theorem Z20 {α : Type _} {l : List α} : List.take 0 l = [] := List.take_zero
theorem Z21 {α : Type _} {l : List α} : List.drop 0 l = l := List.drop_zero
theorem Z22 {α : Type _} {l : List α} {i : Nat} : l.toArray[i]? = l[i]? := List.getElem?_toArray
theorem Z23 {α : Type _} {a : α} {l m : List α} : a :: l ++ m = a :: (l ++ m) := List.cons_append
theorem Z24 {α β : Type _} {f : α → β} {a : α} {l : List α} : List.map f (a :: l) = f a :: List.map f l := List.map_cons
theorem Z25 {α : Type _} : ([] : List α).isEmpty = true := List.isEmpty_nil
theorem Z26 (b : Bool) : (b && b) = b := Bool.and_self b
theorem ZA : (∀ {α : Type} {l : List α} {a : α}, (a :: l)[0]? = some a) ∧ (∀ {α : Type} {l : List α} {a : α} {i : Nat}, (a :: l)[i + 1]? = l[i]?) ∧ (∀ {α : Type} (a b : α), (some a = some b) = (a = b)) ∧ (∀ {α β : Type} (a : α) (f : α → β), Option.map f (some a) = some (f a)) ∧ (∀ {α : Type} {l : List α} {a b : α}, (b :: l).set 0 a = a :: l) ∧ (∀ {α : Type} {l : List α} {i : Nat} {a b : α}, (b :: l).set (i + 1) a = b :: l.set i a) ∧ ((false = true) = False) ∧ (∀ {α β : Type} (a : α) (f : α → Option β), (some a).bind f = f a) ∧ (∀ {α : Type} {a : α} {l : List α}, (a :: l).length = l.length + 1) ∧ (∀ {α : Type}, ([] : List α).length = 0) ∧ (∀ {α β : Type} (f : α → β), Option.map f none = none) ∧ (∀ {α : Type} (l : List α), [] ++ l = l) ∧ (∀ {α β : Type} {f : α → β}, List.map f [] = []) ∧ (∀ (n : Nat), 0 + n = n) ∧ (∀ {α : Type} (l : List α), l ++ [] = l) ∧ (∀ {α : Type} {a : α} {l : List α} {f : α → Bool}, (a :: l).all f = (f a && l.all f)) ∧ (∀ {α : Type} {a : α} {l : List α} {i : Nat}, List.take (i + 1) (a :: l) = a :: List.take i l) ∧ (∀ {α : Type} {f : α → Bool}, [].all f = true) ∧ (∀ {α : Type} {a : α} {l : List α} {i : Nat}, List.drop (i + 1) (a :: l) = List.drop i l) ∧ (∀ {α : Type} {l : List α}, List.take 0 l = []) ∧ (∀ {α : Type} {l : List α}, List.drop 0 l = l) ∧ (∀ {α : Type} {l : List α} {i : Nat}, l.toArray[i]? = l[i]?) ∧ (∀ {α : Type} {a : α} {l m : List α}, a :: l ++ m = a :: (l ++ m)) ∧ (∀ {α β : Type} {f : α → β} {a : α} {l : List α}, List.map f (a :: l) = f a :: List.map f l) ∧ (∀ {α : Type}, ([] : List α).isEmpty = true) ∧ (∀ (b : Bool), (b && b) = b) ∧ (∀ p : Prop, (p ∧ p) = p) ∧ ((¬False) = True) := ⟨@Z1, @Z2, @Z3, @Z4, @Z5, @Z6, Z7, @Z8, @Z9, @Z10, @Z11, @Z12, @Z13, Z14, @Z15, @Z16, @Z17, @Z18, @Z19, @Z20, @Z21, @Z22, @Z23, @Z24, @Z25, Z26, and_self, not_false_eq_true⟩
/-- One cell: a scalar; a slice by value (owned by its holder, or in memory that stays); an unknown; a handle on a row; a pointer into a root; a function with what it captured; a pointer to an object of its own, by value; some map; a builder's own address, or nil (in a block of a type); a builder's bytes. -/
inductive C where
  | v (x : Value)
  | s (own : Bool) (es : Nat) (rows : List (List C))
  | x
  | h (r lo len : Nat)
  | p (r e c : Nat)
  | f (k : Nat) (caps : List C)
  | o (row : List C)
  | m
  | b (ty : Nat)
  | u (ty : Nat) (bs : List UInt8)
  deriving Inhabited
/-- What a slot holds. -/
inductive D where
  | top
  | c (y : C)
  | agg (xs : List C)
  | q (xs : List C)
  | t (ds : List D)
  deriving Inhabited
/-- Does a number fit its kind? -/
def inR : IntKind → Int → Bool
  | .i8, n => decide (-128 ≤ n) && decide (n ≤ 127)
  | .i16, n => decide (-32768 ≤ n) && decide (n ≤ 32767)
  | .i32, n => decide (-2147483648 ≤ n) && decide (n ≤ 2147483647)
  | .i64, n => decide (-9223372036854775808 ≤ n) && decide (n ≤ 9223372036854775807)
  | .u8, n => decide (0 ≤ n) && decide (n ≤ 255)
  | .u16, n => decide (0 ≤ n) && decide (n ≤ 65535)
  | .u32, n => decide (0 ≤ n) && decide (n ≤ 4294967295)
  | .u64, n => decide (0 ≤ n) && decide (n ≤ 18446744073709551615)
/-- The longest text. -/
def maxStr : Nat := 9223372036854775807
/-- Scalars that fit. -/
def Sc : Value → Prop
  | .bool _ => True
  | .int k n => inR k n = true
  | .float _ _ => True
  | .string s => s.size ≤ maxStr
  | .pointer none => True
  | .map none => True
  | .nilFunc => True
  | .nilIface => True
  | _ => False
/-- Where a root lies: its first cell (none: a nil slice), cells an element, elements, room for elements. -/
structure Pl where
  at? : Option (Nat × Nat)
  es : Nat
  n : Nat
  m : Nat
structure Root where
  dat : Bool
  es : Nat
  rows : List (List C)
/-- What is read. -/
inductive It where
  | k (dat : Bool) (c : C) (v : Value)
  | l (dat : Bool) (cs : List C) (b off : Nat)
  | vs (cs : List C) (vs : List Value)
abbrev Env := List (Option Pl)
/-- An owned block: cells, room for so many from an offset on, nothing of it frozen. -/
def OwnBlock (w : World) (b n : Nat) : Prop :=
  ∃ arr el z, w.heap[b]? = some (.cells arr el z) ∧ n ≤ arr.size ∧ ∀ o, o < arr.size → w.frozen? ⟨b, o, none⟩ = false
def HandleAt (pl : Pl) (lo len : Nat) (v : Value) : Prop :=
  lo + len ≤ pl.n ∧ match pl.at? with
  | none => ∃ a, v = .slice a 0 0
  | some (b, off) => ∃ a cap, v = .slice (some a) len cap ∧ len ≤ cap ∧ lo + cap ≤ pl.m ∧ (cap = 0 ∨ a = ⟨b, off + lo * pl.es, none⟩)
def PtrAt (pl : Pl) (e c : Nat) (v : Value) : Prop :=
  ∃ b off, pl.at? = some (b, off) ∧ v = .pointer (some ⟨b, off + e * pl.es + c, none⟩)
inductive Rep (w : World) (S : Nat → Prop) (E : Env) : It → List Nat → Prop
  | v {dat x} (h : Sc x) : Rep w S E (.k dat (.v x) x) []
  | nilI {dat es a cap} : Rep w S E (.k dat (.s false es []) (.slice a 0 cap)) []
  | nilO {dat es a} : Rep w S E (.k dat (.s true es []) (.slice a 0 0)) []
  | imm {dat es rows b off cap} (hS : S b) (hc : rows.length ≤ cap) (hl : ∀ r ∈ rows, r.length = es) (hr : Rep w S E (.l true rows.flatten b off) []) :
      Rep w S E (.k dat (.s false es rows) (.slice (some ⟨b, off, none⟩) rows.length cap)) []
  | own {dat es rows b off cap fp} (hz : es ≠ 0) (hb : OwnBlock w b (off + cap * es)) (hc : rows.length ≤ cap) (hl : ∀ r ∈ rows, r.length = es)
      (hr : Rep w S E (.l true rows.flatten b off) fp) :
      Rep w S E (.k dat (.s true es rows) (.slice (some ⟨b, off, none⟩) rows.length cap)) (b :: fp)
  | optr {dat row b off fp} (hb : OwnBlock w b (off + row.length)) (hr : Rep w S E (.l true row b off) fp) : Rep w S E (.k dat (.o row) (.pointer (some ⟨b, off, none⟩))) (b :: fp)
  | x {v} : Rep w S E (.k false .x v) []
  | m {dat b} : Rep w S E (.k dat .m (.map (some b))) []
  | un {dat T} : Rep w S E (.k dat (.u T []) (.slice none 0 0)) []
  | uo {dat T bs g cap cur} (h0 : 0 < cap) (hg : w.heap[g]? = some (.cells cur T (0, 0))) (hc : bs.length ≤ cap) (hm : cap ≤ 9223372036854775807) (hz : cur.size = cap) (ht : cur.toList.take bs.length = bs.map fun b => .int .u8 b.toNat) :
      Rep w S E (.k dat (.u T bs) (.slice (some ⟨g, 0, none⟩) bs.length cap)) [g]
  | h {r lo len v} (hr : r < E.length) (hh : ∀ pl, E[r]? = some (some pl) → HandleAt pl lo len v) : Rep w S E (.k false (.h r lo len) v) []
  | p {r e c v} (hr : r < E.length) (hh : ∀ pl, E[r]? = some (some pl) → PtrAt pl e c v) : Rep w S E (.k false (.p r e c) v) []
  | f {dat k caps cs} (hc : dat = false ∨ caps = []) (hr : Rep w S E (.vs caps cs.toList) []) : Rep w S E (.k dat (.f k caps) (.func (.func k) #[] cs)) []
  | lnil {dat b off} : Rep w S E (.l dat [] b off) []
  | lcons {dat c cs b off v f1 f2} (hv : w.cell? ⟨b, off, none⟩ = some v) (hc : Rep w S E (.k dat c v) f1) (hr : Rep w S E (.l dat cs b (off + 1)) f2) :
      Rep w S E (.l dat (c :: cs) b off) (f1 ++ f2)
  | lb {dat T cs b v arr f} (hv : w.heap[b]? = some (.cells arr T (0, 0))) (hz : arr.size = 2) (h0 : arr[0]? = some v) (hb : v = .pointer none ∨ v = .pointer (some ⟨b, 0, none⟩)) (hr : Rep w S E (.l dat cs b 1) f) : Rep w S E (.l dat (.b T :: cs) b 0) f
  | vnil : Rep w S E (.vs [] []) []
  | vcons {c cs v vs f1 f2} (hc : Rep w S E (.k false c v) f1) (hr : Rep w S E (.vs cs vs) f2) : Rep w S E (.vs (c :: cs) (v :: vs)) (f1 ++ f2)
/-- Data: no handle, no pointer. -/
def C.dat : C → Bool
  | .v _ => true
  | .s _ _ _ => true
  | .f _ caps => caps.isEmpty
  | .o _ => true
  | .m => true
  | .b _ => true
  | .u _ _ => true
  | _ => false
mutual
/-- Does a cell speak of a root? -/
def C.no (r : Nat) : C → Bool
  | .h r' _ _ => r' != r
  | .p r' _ _ => r' != r
  | .f _ caps => C.nos r caps
  | _ => true
def C.nos (r : Nat) : List C → Bool
  | [] => true
  | c :: cs => C.no r c && C.nos r cs
end
/-- The roots of which an item speaks are in a set. -/
def It.no (r : Nat) : It → Bool
  | .k dat c _ => dat || c.no r
  | .l dat cs _ _ => dat || C.nos r cs
  | .vs cs _ => C.nos r cs
def It.base : It → List Nat
  | .l _ _ b _ => [b]
  | _ => []
/-- A place that still serves. -/
def Pl.le (p q : Pl) : Prop := q.at? = p.at? ∧ q.es = p.es ∧ p.n ≤ q.n ∧ p.m ≤ q.m
theorem Pl.le_refl (p : Pl) : p.le p := ⟨rfl, rfl, Nat.le_refl _, Nat.le_refl _⟩
theorem Pl.le.trans {p q r : Pl} (h : p.le q) (k : q.le r) : p.le r := by
  obtain ⟨h1, h2, h3, h4⟩ := h
  obtain ⟨k1, k2, k3, k4⟩ := k
  exact ⟨k1.trans h1, k2.trans h2, Nat.le_trans h3 k3, Nat.le_trans h4 k4⟩
theorem HandleAt.le {p q : Pl} {lo len : Nat} {v : Value} (h : HandleAt p lo len v) (hl : p.le q) : HandleAt q lo len v := by
  obtain ⟨h1, h2, h3, h4⟩ := hl
  obtain ⟨g1, g2⟩ := h
  refine ⟨by omega, ?_⟩
  rw [h1]
  cases hp : p.at? with
  | none => rw [hp] at g2; exact g2
  | some bo =>
    rw [hp] at g2
    obtain ⟨b, off⟩ := bo
    obtain ⟨a, cap, e1, e2, e3, e4⟩ := g2
    exact ⟨a, cap, e1, e2, by omega, by rw [h2]; exact e4⟩
theorem PtrAt.le {p q : Pl} {e c : Nat} {v : Value} (h : PtrAt p e c v) (hl : p.le q) : PtrAt q e c v := by
  obtain ⟨h1, h2, _, _⟩ := hl
  obtain ⟨b, off, e1, e2⟩ := h
  exact ⟨b, off, by rw [h1]; exact e1, by rw [h2]; exact e2⟩
/-- What the environment says of the roots that an item names is kept. -/
def EnvLe (E E' : Env) (ok : Nat → Bool) : Prop :=
  E.length ≤ E'.length ∧ ∀ r, r < E.length → ok r = false → ∀ q, E'[r]? = some (some q) → ∃ p, E[r]? = some (some p) ∧ p.le q
theorem EnvLe.refl (E : Env) (ok : Nat → Bool) : EnvLe E E ok := ⟨Nat.le_refl _, fun _ _ _ q h => ⟨q, h, q.le_refl⟩⟩
theorem OwnBlock.keep {w w' : World} {b n : Nat} (h : OwnBlock w b n) (hb : w'.heap[b]? = w.heap[b]?) : OwnBlock w' b n := by
  obtain ⟨arr, el, z, h1, h2, h3⟩ := h
  exact ⟨arr, el, z, hb.trans h1, h2, fun o ho => by rw [World.frozen?_of_block (w := w) hb]; exact h3 o ho⟩
theorem Rep.mono {w w' : World} {S S' : Nat → Prop} {E E' : Env} {it : It} {fp : List Nat} (h : Rep w S E it fp)
    (hS : ∀ b, S b → S' b) (hE : EnvLe E E' (fun r => it.no r)) (hb : ∀ b, S b ∨ b ∈ fp ∨ b ∈ it.base → w'.heap[b]? = w.heap[b]?) : Rep w' S' E' it fp := by
  induction h with
  | v h => exact .v h
  | nilI => exact .nilI
  | nilO => exact .nilO
  | imm hs hc hl hr ih =>
    refine .imm (hS _ hs) hc hl (ih ⟨hE.1, fun r hr' h => by simp [It.no] at h⟩ ?_)
    intro b hb'
    rcases hb' with h | h | h
    · exact hb b (.inl h)
    · cases h
    · simp only [It.base, List.mem_singleton] at h; subst h; exact hb _ (.inl hs)
  | own hz hbk hc hl hr ih =>
    refine .own hz (hbk.keep (hb _ (.inr (.inl (List.mem_cons_self ..))))) hc hl (ih ⟨hE.1, fun r hr' h => by simp [It.no] at h⟩ ?_)
    intro b hb'
    rcases hb' with h | h | h
    · exact hb b (.inl h)
    · exact hb b (.inr (.inl (List.mem_cons_of_mem _ h)))
    · simp only [It.base, List.mem_singleton] at h; subst h; exact hb _ (.inr (.inl (List.mem_cons_self ..)))
  | optr hbk hr ih =>
    refine .optr (hbk.keep (hb _ (.inr (.inl (List.mem_cons_self ..))))) (ih ⟨hE.1, fun r hr' h => by simp [It.no] at h⟩ ?_)
    intro b hb'
    rcases hb' with h | h | h
    · exact hb b (.inl h)
    · exact hb b (.inr (.inl (List.mem_cons_of_mem _ h)))
    · simp only [It.base, List.mem_singleton] at h; subst h; exact hb _ (.inr (.inl (List.mem_cons_self ..)))
  | x => exact .x
  | m => exact .m
  | h hr hh =>
    rename_i r lo len v
    refine .h (Nat.lt_of_lt_of_le hr hE.1) fun q hq => ?_
    obtain ⟨p, hp, hle⟩ := hE.2 r hr (by simp [It.no, C.no]) q hq
    exact (hh p hp).le hle
  | p hr hh =>
    rename_i r e c v
    refine .p (Nat.lt_of_lt_of_le hr hE.1) fun q hq => ?_
    obtain ⟨p, hp, hle⟩ := hE.2 r hr (by simp [It.no, C.no]) q hq
    exact (hh p hp).le hle
  | f hc hr ih =>
    refine .f hc (ih ⟨hE.1, fun r hr' h => hE.2 r hr' ?_⟩ ?_)
    · rcases hc with rfl | rfl
      · simpa [It.no, C.no] using h
      · simp [It.no, C.nos] at h
    · intro b hb'
      rcases hb' with h | h | h
      · exact hb b (.inl h)
      · cases h
      · cases h
  | lnil => exact .lnil
  | lcons hv hc hr ih1 ih2 =>
    rename_i dat c cs b off v f1 f2
    refine .lcons ?_ (ih1 ⟨hE.1, fun r hr' h => hE.2 r hr' ?_⟩ ?_) (ih2 ⟨hE.1, fun r hr' h => hE.2 r hr' ?_⟩ ?_)
    · rw [World.cell?_of_block (w := w) (hb b (.inr (.inr (by simp [It.base]))))]; exact hv
    · revert h; simp only [It.no, C.nos]; cases dat <;> simp +contextual
    · intro b' hb'
      rcases hb' with h | h | h
      · exact hb _ (.inl h)
      · exact hb _ (.inr (.inl (List.mem_append_left _ h)))
      · cases h
    · revert h; simp only [It.no, C.nos]; cases dat <;> simp +contextual
    · intro b' hb'
      rcases hb' with h | h | h
      · exact hb _ (.inl h)
      · exact hb _ (.inr (.inl (List.mem_append_right _ h)))
      · exact hb _ (.inr (.inr h))
  | un => exact .un
  | uo h0 hg hc hm hz ht => exact .uo h0 ((hb _ (.inr (.inl (List.mem_singleton.2 rfl)))).trans hg) hc hm hz ht
  | lb hv hz h0 hb' hr ih2 =>
    rename_i dat T cs b v arr f
    refine .lb (arr := arr) ?_ hz h0 hb' (ih2 ⟨hE.1, fun r hr' h => hE.2 r hr' ?_⟩ ?_)
    · rw [hb b (.inr (.inr (by simp [It.base])))]; exact hv
    · revert h; simp only [It.no, C.nos, C.no]; cases dat <;> simp +contextual
    · intro b' hb'
      rcases hb' with h | h | h
      · exact hb _ (.inl h)
      · exact hb _ (.inr (.inl h))
      · exact hb _ (.inr (.inr h))
  | vnil => exact .vnil
  | vcons hc hr ih1 ih2 =>
    refine .vcons (ih1 ⟨hE.1, fun r hr' h => hE.2 r hr' ?_⟩ ?_) (ih2 ⟨hE.1, fun r hr' h => hE.2 r hr' ?_⟩ ?_)
    · revert h; simp only [It.no, C.nos, Bool.false_or]; simp +contextual
    · intro b' hb'
      rcases hb' with h | h | h
      · exact hb _ (.inl h)
      · exact hb _ (.inr (.inl (List.mem_append_left _ h)))
      · cases h
    · revert h; simp only [It.no, C.nos]; simp +contextual
    · intro b' hb'
      rcases hb' with h | h | h
      · exact hb _ (.inl h)
      · exact hb _ (.inr (.inl (List.mem_append_right _ h)))
      · cases h
end Go.Dl

namespace Go.Dl
open Go.RowKit
inductive RepD (w : World) (S : Nat → Prop) (E : Env) : D → Value → Prop
  | top {v} : RepD w S E .top v
  | c {y v} (h : Rep w S E (.k false y v) []) : RepD w S E (.c y) v
  | agg {xs arr} (h : Rep w S E (.vs xs arr.toList) []) : RepD w S E (.agg xs) (.agg arr)
  | q {xs b off} (hS : S b) (h : Rep w S E (.l true xs b off) []) : RepD w S E (.q xs) (.pointer (some ⟨b, off, none⟩))
  | t {ds arr} (hn : arr.size = ds.length) (h : ∀ i d, ds[i]? = some d → RepD w S E d (arr.getD i undef)) : RepD w S E (.t ds) (.tuple arr)
mutual
def D.no (r : Nat) : D → Bool
  | .c y => y.no r
  | .agg xs => C.nos r xs
  | .t ds => D.nos r ds
  | _ => true
def D.nos (r : Nat) : List D → Bool
  | [] => true
  | d :: ds => d.no r && D.nos r ds
end
theorem D.nos_get {r : Nat} {d : D} : ∀ {ds : List D} (i : Nat), D.nos r ds = true → ds[i]? = some d → D.no r d = true := by
  intro ds
  induction ds with
  | nil => intro i _ h; simp at h
  | cons e es ih =>
    intro i hn h
    simp only [D.nos, Bool.and_eq_true] at hn
    cases i with
    | zero => simp at h; exact h ▸ hn.1
    | succ i => exact ih i hn.2 (by simpa using h)
theorem RepD.mono {w w' : World} {S S' : Nat → Prop} {E E' : Env} {d : D} {v : Value} (h : RepD w S E d v)
    (hS : ∀ b, S b → S' b) (hE : EnvLe E E' (fun r => d.no r)) (hb : ∀ b, S b → w'.heap[b]? = w.heap[b]?) : RepD w' S' E' d v := by
  induction h with
  | top => exact .top
  | c h =>
    refine .c (h.mono hS ⟨hE.1, fun r hr h => hE.2 r hr (by simpa [It.no, D.no] using h)⟩ ?_)
    intro b hb'
    rcases hb' with h | h | h
    · exact hb b h
    · cases h
    · cases h
  | agg h =>
    refine .agg (h.mono hS ⟨hE.1, fun r hr h => hE.2 r hr (by simpa [It.no, D.no] using h)⟩ ?_)
    intro b hb'
    rcases hb' with h | h | h
    · exact hb b h
    · cases h
    · cases h
  | q hs h =>
    refine .q (hS _ hs) (h.mono hS ⟨hE.1, fun r hr h => by simp [It.no] at h⟩ ?_)
    intro b hb'
    rcases hb' with h | h | h
    · exact hb b h
    · cases h
    · simp only [It.base, List.mem_singleton] at h; subst h; exact hb _ hs
  | t hn h ih =>
    refine .t hn fun i d hd => ih i d hd ⟨hE.1, fun r hr h => hE.2 r hr ?_⟩
    show D.no r (D.t _) = false
    rw [D.no]
    cases hh : D.nos r _ with
    | false => rfl
    | true => exact absurd (D.nos_get i hh hd) (by simp [show D.no r d = false from h])
structure St where
  sl : List D
  H : List (Option Root)
/-- A root as it lies. -/
def RootAt (w : World) (S : Nat → Prop) (E : Env) (R : Root) (p : Pl) (f : List Nat) : Prop :=
  p.es = R.es ∧ p.n = R.rows.length ∧ p.n ≤ p.m ∧ (∀ r ∈ R.rows, r.length = R.es) ∧ match p.at? with
  | none => R.rows = [] ∧ f = [] ∧ p.m = 0
  | some (b, off) => ∃ fr, f = b :: fr ∧ OwnBlock w b (off + p.m * R.es) ∧ Rep w S E (.l R.dat R.rows.flatten b off) fr
/-- Nothing was put out; the draws went on. -/
def OutLe (w0 w : World) : Prop := w.output = w0.output ∧ w0.drawn ≤ w.drawn
theorem OutLe.rf (w : World) : OutLe w w := ⟨rfl, Nat.le_refl _⟩
theorem OutLe.trans {w0 w w' : World} (h : OutLe w w') (k : OutLe w0 w) : OutLe w0 w' := ⟨h.1.trans k.1, Nat.le_trans k.2 h.2⟩
/-- What a call began with: its world, the memory that stays, the blocks that it may write. -/
structure G where
  w0 : World
  S0 : Nat → Prop
  own : List Nat
  pls : List Pl
structure Rel (g : G) (S : Nat → Prop) (E : Env) (F : List (List Nat)) (A : St) (a : Act) (w : World) : Prop where
  len : A.sl.length = a.tmps.size
  sl : ∀ (t : Nat) (d : D), A.sl[t]? = some d → RepD w S E d (a.tmps.getD t undef)
  defers : a.defers = []
  lE : E.length = A.H.length
  lF : F.length = A.H.length
  root : ∀ (r : Nat) (R : Root), A.H[r]? = some (some R) → ∃ p f, E[r]? = some (some p) ∧ F[r]? = some f ∧ RootAt w S E R p f
  dead : ∀ r : Nat, A.H[r]? = some none → E[r]? = some none ∧ F[r]? = some []
  nodup : F.flatten.Nodup
  fS : ∀ b ∈ F.flatten, ¬ S b
  fsz : ∀ b ∈ F.flatten, b < w.heap.size ∧ (b ∈ g.own ∨ g.w0.heap.size ≤ b)
  Ssz : ∀ b, S b → b < w.heap.size ∧ (g.S0 b ∨ b ∈ g.own ∨ g.w0.heap.size ≤ b)
  S0 : ∀ b, g.S0 b → S b
  prot : ∀ b, b < g.w0.heap.size → b ∉ g.own → w.heap[b]? = g.w0.heap[b]?
  size : g.w0.heap.size ≤ w.heap.size
  os : w.os = g.w0.os
  tape : w.tape = g.w0.tape
  output : OutLe g.w0 w
  fix : ∀ (r : Nat) (q : Pl), g.pls[r]? = some q → r < A.H.length ∧ ∀ R, A.H[r]? = some (some R) → R.dat = false ∧ ∀ p, E[r]? = some (some p) → q.le p
/-- Some way to stand for it. -/
def Sat (g : G) (A : St) (a : Act) (w : World) : Prop := ∃ S E F, Rel g S E F A a w
def St.put (A : St) (dst : Option Tmp) (d : D) : St :=
  match dst with
  | none => A
  | some t => { A with sl := A.sl.set t d }
/-- Code by triples: from states of A to states of Q. -/
def Tri (P : Program) (c : Code) (A : St) (Q : Exit → St → Prop) : Prop :=
  ∀ g a w, Sat g A a w → c.wp P (fun e a' w' => ∃ A', Sat g A' a' w' ∧ Q e A') a w
theorem Tri.mono {P : Program} {c : Code} {A : St} {Q Q' : Exit → St → Prop} (h : Tri P c A Q) (hq : ∀ e A, Q e A → Q' e A) : Tri P c A Q' :=
  fun g a w hs => wp_mono (h g a w hs) fun e _ _ ⟨A', h1, h2⟩ => ⟨A', h1, hq e A' h2⟩
def thenQ (N : St → Prop) (Q : Exit → St → Prop) : Exit → St → Prop
  | .normal, A => N A
  | e, A => Q e A
theorem tri_skip {P : Program} {A : St} {Q : Exit → St → Prop} (h : Q .normal A) : Tri P .skip A Q :=
  fun _ _ _ hs => wp_skip ⟨A, hs, h⟩
theorem tri_exit {P : Program} {A : St} {Q : Exit → St → Prop} {id : Nat} (h : Q (.exit id) A) : Tri P (.exit id) A Q :=
  fun _ _ _ hs => wp_exit ⟨A, hs, h⟩
theorem Yo {P : Program} {A : St} {Q : Exit → St → Prop} (h : Q .ret A) : Tri P .ret A Q :=
  fun _ _ _ hs => wp_ret ⟨A, hs, h⟩
theorem tri_seq {P : Program} {x y : Code} {A : St} {Q : Exit → St → Prop} (h : Tri P x A (thenQ (fun A' => Tri P y A' Q) Q)) : Tri P (.seq x y) A Q := by
  intro g a w hs
  refine wp_seq (wp_mono (h g a w hs) ?_)
  rintro e a' w' ⟨A', h1, h2⟩
  cases e with
  | normal => exact h2 g a' w' h1
  | exit id => exact ⟨A', h1, h2⟩
  | goto l => exact ⟨A', h1, h2⟩
  | ret => exact ⟨A', h1, h2⟩
  | panic ch => exact ⟨A', h1, h2⟩
  | outgrown => exact ⟨A', h1, h2⟩
def blockQ (id : Nat) (Q : Exit → St → Prop) : Exit → St → Prop
  | .exit id', A => if id' = id then Q .normal A else Q (.exit id') A
  | e, A => Q e A
theorem tri_block {P : Program} {id : Nat} {c : Code} {A : St} {Q : Exit → St → Prop} (h : Tri P c A (blockQ id Q)) : Tri P (.block id c) A Q := by
  intro g a w hs
  refine wp_block (wp_mono (h g a w hs) ?_)
  rintro e a' w' ⟨A', h1, h2⟩
  cases e with
  | normal => exact ⟨A', h1, h2⟩
  | exit id' =>
    simp only [Exit.inBlock, blockQ] at *
    split
    · rename_i hid; rw [if_pos hid] at h2; exact ⟨A', h1, h2⟩
    · rename_i hid; rw [if_neg hid] at h2; exact ⟨A', h1, h2⟩
  | goto l => exact ⟨A', h1, h2⟩
  | ret => exact ⟨A', h1, h2⟩
  | panic ch => exact ⟨A', h1, h2⟩
  | outgrown => exact ⟨A', h1, h2⟩
/-- A loop: a relation that is counted down. -/
theorem tri_loop {P : Program} {c : Code} {A : St} {Q : Exit → St → Prop} (I : Nat → St → Prop) (n : Nat) (h0 : I n A)
    (round : ∀ n A, I n A → Tri P c A (thenQ (fun A' => ∃ m, m < n ∧ I m A') Q)) : Tri P (.loop c) A Q := by
  intro g a w hs b k cs
  have key : ∀ n A a w, I n A → Sat g A a w →
      ∃ e a' w', (∃ A', Sat g A' a' w' ∧ Q e A') ∧ Arrives P (lone (b.at a (.code c :: .inLoop c :: k)) cs w) b k cs e a' w' := by
    intro n
    induction n using Nat.strongRecOn with
    | _ n ih =>
      intro A a w hI hsat
      obtain ⟨e, a₁, w₁, ⟨A₁, hsat₁, hq⟩, harr⟩ := round n A hI g a w hsat b (.inLoop c :: k) cs
      cases e with
      | normal =>
        obtain ⟨m, hlt, hI₁⟩ := hq
        obtain ⟨e₂, a₂, w₂, hq₂, harr₂⟩ := ih m hlt A₁ a₁ w₁ hI₁ hsat₁
        exact ⟨e₂, a₂, w₂, hq₂, .of_steps (Steps.trans harr (.one step_inLoop)) harr₂⟩
      | exit id => exact ⟨_, a₁, w₁, ⟨A₁, hsat₁, hq⟩, .pass (x := .inLoop c) rfl (fun _ _ => .inl (by simp)) harr⟩
      | goto l => exact ⟨_, a₁, w₁, ⟨A₁, hsat₁, hq⟩, .pass (x := .inLoop c) rfl (fun _ _ => .inl (by simp)) harr⟩
      | ret => exact ⟨_, a₁, w₁, ⟨A₁, hsat₁, hq⟩, .pass (x := .inLoop c) rfl (fun _ _ => .inl (by simp)) harr⟩
      | panic ch => exact ⟨_, a₁, w₁, ⟨A₁, hsat₁, hq⟩, .pass (x := .inLoop c) rfl (fun _ _ => .inl (by simp)) harr⟩
      | outgrown => exact ⟨_, a₁, w₁, ⟨A₁, hsat₁, hq⟩, .pass (x := .inLoop c) rfl (fun _ _ => .inl (by simp)) harr⟩
  obtain ⟨e, a', w', hq, harr⟩ := key n A a w h0 hs
  exact ⟨e, a', w', hq, .of_steps (.one step_loop) harr⟩
/-- A state that says less. -/
theorem Tri.weak {P : Program} {c : Code} {A A' : St} {Q : Exit → St → Prop} (hw : ∀ g a w, Sat g A a w → Sat g A' a w) (h : Tri P c A' Q) : Tri P c A Q :=
  fun g a w hs => h g a w (hw g a w hs)
theorem Yf {P : Program} {t : Tmp} {x y : Code} {A : St} {Q : Exit → St → Prop} {b : Bool} (hc : A.sl[t]? = some (.c (.v (.bool b))))
    (ht : b = true → Tri P x A Q) (hf : b = false → Tri P y A Q) : Tri P (.cond (.tmp t) x y) A Q := by
  intro g a w hs
  obtain ⟨S, E, F, hr⟩ := hs
  have h := hr.sl t _ hc
  have he : a.eval (.tmp t) = .bool b := by
    show a.tmps.getD t undef = _
    generalize a.tmps.getD t undef = v at h
    cases h with
    | c h => cases h with
      | v _ => rfl
  cases b with
  | true => exact wp_cond he (by simpa using ht rfl g a w ⟨S, E, F, hr⟩)
  | false => exact wp_cond he (by simpa using hf rfl g a w ⟨S, E, F, hr⟩)
end Go.Dl

namespace Go.Dl
open Go.RowKit
theorem wrap_inR (k : IntKind) (n : Int) : inR k (k.wrap n) = true := by
  cases k <;> simp only [inR, IntKind.wrap, IntKind.bits, IntKind.signed, Bool.true_and, Bool.false_and, Z7, if_false, Bool.and_eq_true, decide_eq_true_eq] <;>
    (try split) <;> (simp at *; omega)
theorem wrap_id (k : IntKind) (n : Int) (h : inR k n = true) : k.wrap n = n := by
  cases k <;> simp only [inR, IntKind.wrap, IntKind.bits, IntKind.signed, Bool.true_and, Bool.false_and, Z7, if_false, Bool.and_eq_true, decide_eq_true_eq] at * <;>
    (try split) <;> (simp at *; omega)
theorem wrap_i64 (n : Int) (h0 : -9223372036854775808 ≤ n) (h1 : n ≤ 9223372036854775807) : IntKind.wrap .i64 n = n :=
  wrap_id .i64 n (by simp [inR, h0, h1])
theorem wrap_u64 (n : Int) (h0 : 0 ≤ n) (h1 : n ≤ 18446744073709551615) : IntKind.wrap .u64 n = n := wrap_id .u64 n (by simp [inR, h0, h1])
/-- A type's kind, as far as it is asked. -/
inductive TK where
  | bool | int (k : IntKind) | float | str | ptr (e : TypeId) | slice (e : TypeId) | arr (n : Nat) (e : TypeId)
  | st (fs : List (TypeId × Nat)) | map (k e : TypeId) | func | other
def TK.of : TypeDesc → TK
  | .bool => .bool
  | .int k => .int k
  | .float _ => .float
  | .string => .str
  | .pointer e => .ptr e
  | .slice e => .slice e
  | .array n e => .arr n e
  | .struct fs => .st (fs.toList.map fun f => (f.type, f.offset))
  | .map k e => .map k e
  | .func .. => .func
  | _ => .other
def tk (P : Program) (t : TypeId) : Option TK := (P.underlying t).map TK.of
def tsz (P : Program) (t : TypeId) : Nat := P.cellsOf t
def TK.agg : TK → Bool
  | .st _ => true
  | .arr _ _ => true
  | _ => false
theorem tk_some {P : Program} {t : TypeId} {k : TK} (h : tk P t = some k) : ∃ d, P.underlying t = some d ∧ TK.of d = k := by
  unfold tk at h; cases hu : P.underlying t with
  | none => rw [hu] at h; cases h
  | some d => rw [hu] at h; exact ⟨d, rfl, by simpa using h⟩
theorem tk_info {P : Program} {t : TypeId} {k : TK} (h : tk P t = some k) : ∃ i, P.info? t = some i := by
  obtain ⟨d, hu, _⟩ := tk_some h
  unfold Program.underlying at hu
  cases hi : P.info? t with
  | none => rw [hi] at hu; cases hu
  | some i => exact ⟨i, rfl⟩
theorem run_und {P : Program} {t : TypeId} {d : TypeDesc} (h : P.underlying t = some d) (w : World) : (underlying t).run P w = .ok d w := run_underlying h w
theorem run_tsz {P : Program} {t : TypeId} {k : TK} (h : tk P t = some k) (w : World) : (sizeOf t).run P w = .ok (tsz P t) w := by
  obtain ⟨i, hi⟩ := tk_info h
  exact run_sizeOf w hi
theorem tsz_info {P : Program} {t : TypeId} (h : tsz P t ≠ 0) : ∃ i, P.info? t = some i := by
  unfold tsz Program.cellsOf at h
  cases hi : P.info? t with
  | none => rw [hi] at h; simp at h
  | some i => exact ⟨i, rfl⟩
theorem run_tsz' {P : Program} {t : TypeId} (h : tsz P t ≠ 0) (w : World) : (sizeOf t).run P w = .ok (tsz P t) w := by
  obtain ⟨i, hi⟩ := tsz_info h
  exact run_sizeOf w hi
theorem run_agg {P : Program} {t : TypeId} {k : TK} (h : tk P t = some k) (w : World) : (isAgg t).run P w = .ok k.agg w := by
  obtain ⟨d, hu, rfl⟩ := tk_some h
  unfold isAgg
  rw [Sem.run_bind, run_und hu]
  cases d <;> rfl
/-- A constant's cell, its slot's content. -/
def Y7 : Value → C
  | .slice _ _ _ => .s true 0 []
  | v => .v v
def Y8 : Value → D
  | .agg cs => .agg (cs.toList.map Y7)
  | v => .c (Y7 v)
def scB : Value → Bool
  | .bool _ => true
  | .int k n => inR k n
  | .float _ _ => true
  | .string s => decide (s.data.size ≤ maxStr)
  | .pointer none => true
  | .map none => true
  | .nilFunc => true
  | .nilIface => true
  | .slice none 0 0 => true
  | _ => false
def constOK : Value → Bool
  | .agg cs => cs.toList.all scB
  | v => scB v
theorem constC_rep {w : World} {S : Nat → Prop} {E : Env} {dat : Bool} {v : Value} (h : scB v = true) : Rep w S E (.k dat (Y7 v) v) [] := by
  cases v with
  | bool b => exact .v trivial
  | int k n => exact .v h
  | float k b => exact .v trivial
  | string s => exact .v (show s.data.size ≤ maxStr from of_decide_eq_true h)
  | pointer a => cases a with
    | none => exact .v trivial
    | some a => simp [scB] at h
  | map r => cases r with
    | none => exact .v trivial
    | some a => simp [scB] at h
  | nilFunc => exact .v trivial
  | nilIface => exact .v trivial
  | slice a n c =>
    unfold scB at h
    split at h <;> simp_all
    exact .nilO
  | _ => simp [scB] at h
theorem constCs_rep {w : World} {S : Nat → Prop} {E : Env} : ∀ {l : List Value}, l.all scB = true → Rep w S E (.vs (l.map Y7) l) []
  | [], _ => .vnil
  | v :: l, h => by
    simp only [Z16, Bool.and_eq_true] at h
    exact .vcons (constC_rep h.1) (constCs_rep h.2)
theorem constD_rep {w : World} {S : Nat → Prop} {E : Env} {v : Value} (h : constOK v = true) : RepD w S E (Y8 v) v := by
  cases v <;> first
    | exact .agg (constCs_rep h)
    | exact .c (constC_rep h)
/-- What an operand is. -/
def St.ev (A : St) : Operand → Option D
  | .tmp t => A.sl[t]?
  | .const v => some (Y8 v)
  | .func f => some (.c (.f f []))
  | .global _ => none
def opdOK : Operand → Bool
  | .const v => constOK v
  | _ => true
theorem ev_rep {g : G} {S : Nat → Prop} {E : Env} {F : List (List Nat)} {A : St} {a : Act} {w : World} (h : Rel g S E F A a w) {x : Operand} {d : D}
    (hx : opdOK x = true) (he : A.ev x = some d) : RepD w S E d (a.eval x) := by
  cases x with
  | tmp t => exact h.sl t d he
  | const v => simp only [St.ev, Z3] at he; subst he; exact constD_rep hx
  | func f =>
    simp only [St.ev, Z3] at he; subst he
    exact .c (.f (.inl rfl) .vnil)
  | global g => simp [St.ev] at he
/-- Cells that may be copied. -/
def C.cp : C → Bool
  | .s true _ _ => false
  | .o _ => false
  | .b _ => false
  | .u _ _ => false
  | _ => true
theorem cp_fp {w : World} {S : Nat → Prop} {E : Env} {dat : Bool} {c : C} {v : Value} {fp : List Nat} (h : Rep w S E (.k dat c v) fp) (hc : c.cp = true) : fp = [] := by
  cases h <;> first | rfl | simp [C.cp] at hc
theorem Rep.undat {w : World} {S : Nat → Prop} {E : Env} {dat : Bool} {c : C} {v : Value} {fp : List Nat} (h : Rep w S E (.k dat c v) fp) : Rep w S E (.k false c v) fp := by
  cases h with
  | v h => exact .v h
  | nilI => exact .nilI
  | nilO => exact .nilO
  | imm hS hc hl hr => exact .imm hS hc hl hr
  | own hz hb hc hl hr => exact .own hz hb hc hl hr
  | optr hb hr => exact .optr hb hr
  | x => exact .x
  | m => exact .m
  | un => exact .un
  | uo h0 hg hc hm hz ht => exact .uo h0 hg hc hm hz ht
  | h hr hh => exact .h hr hh
  | p hr hh => exact .p hr hh
  | f hc hr => exact .f (.inl rfl) hr
/-- Cells in memory: one of them. -/
theorem Rep.at {w : World} {S : Nat → Prop} {E : Env} {dat : Bool} {cs : List C} {b off : Nat} {fp : List Nat} (h : Rep w S E (.l dat cs b off) fp) :
    ∀ (j : Nat) (c : C), cs[j]? = some c → ∃ v fp', w.cell? ⟨b, off + j, none⟩ = some v ∧ ((∀ T, c ≠ .b T) → Rep w S E (.k dat c v) fp') ∧ (∀ T, c = .b T → ∃ a, v = .pointer a) ∧ ∀ x ∈ fp', x ∈ fp := by
  generalize hit : It.l dat cs b off = it at h
  induction h generalizing cs off with
  | lnil => cases hit; intro j c h; simp at h
  | lcons hv hc hr ih1 ih2 =>
    cases hit
    intro j c h
    cases j with
    | zero =>
      simp at h; subst h
      exact ⟨_, _, hv, fun _ => hc, fun T hb => (by subst hb; cases hc), fun x hx => List.mem_append_left _ hx⟩
    | succ j =>
      obtain ⟨v, fp', h1, h2, h4, h3⟩ := ih2 rfl j c (by simpa using h)
      exact ⟨v, fp', by rw [Nat.add_right_comm, Nat.add_assoc] at h1; exact h1, h2, h4, fun x hx => List.mem_append_right _ (h3 x hx)⟩
  | lb hv hz h0 hb hr ih2 =>
    cases hit
    intro j c h
    cases j with
    | zero =>
      simp at h; subst h
      exact ⟨_, [], (by simp [World.cell?, hv]; exact h0), fun hn => absurd rfl (hn _), fun _ _ => (by rcases hb with rfl | rfl <;> exact ⟨_, rfl⟩), fun x hx => by cases hx⟩
    | succ j =>
      obtain ⟨v, fp', h1, h2, h4, h3⟩ := ih2 rfl j c (by simpa using h)
      exact ⟨v, fp', by rw [show 0 + (j + 1) = 1 + j by omega]; exact h1, h2, h4, h3⟩
  | _ => cases hit
/-- Cells in memory of copyable cells: as a row of values. -/
theorem Rep.load {w : World} {S : Nat → Prop} {E : Env} {dat : Bool} {b off : Nat} : ∀ {cs : List C} {fp : List Nat}, Rep w S E (.l dat cs b off) fp → cs.all C.cp = true →
    ∃ vs : List Value, vs.length = cs.length ∧ (∀ (j : Nat) (v : Value), vs[j]? = some v → w.cell? ⟨b, off + j, none⟩ = some v) ∧ Rep w S E (.vs cs vs) [] := by
  intro cs
  induction cs generalizing off with
  | nil => intro fp _ _; exact ⟨[], rfl, by simp, .vnil⟩
  | cons c cs ih =>
    intro fp h hcp
    simp only [Z16, Bool.and_eq_true] at hcp
    cases h with
    | lcons hv hc hr =>
      obtain ⟨vs, h1, h2, h3⟩ := ih hr hcp.2
      have := cp_fp hc hcp.1
      subst this
      refine ⟨_ :: vs, by simp [h1], ?_, .vcons hc.undat h3⟩
      intro j v h
      cases j with
      | zero => simp at h; subst h; exact hv
      | succ j => rw [show off + (j + 1) = off + 1 + j by omega]; exact h2 j v (by simpa using h)
    | lb => simp [C.cp] at hcp
theorem Rep.append {w : World} {S : Nat → Prop} {E : Env} {dat : Bool} {b : Nat} : ∀ {xs ys : List C} {off : Nat} {fp : List Nat}, Rep w S E (.l dat (xs ++ ys) b off) fp →
    ∃ f1 f2, fp = f1 ++ f2 ∧ Rep w S E (.l dat xs b off) f1 ∧ Rep w S E (.l dat ys b (off + xs.length)) f2 := by
  intro xs
  induction xs with
  | nil => intro ys off fp h; exact ⟨[], fp, rfl, .lnil, by simpa using h⟩
  | cons y xs ih =>
    intro ys off fp h
    cases h with
    | lcons hv hc hr =>
      obtain ⟨f1, f2, rfl, h1, h2⟩ := ih hr
      exact ⟨_ ++ f1, f2, by simp, .lcons hv hc h1, by rw [List.length_cons, show off + (xs.length + 1) = off + 1 + xs.length by omega]; exact h2⟩
    | lb hv hz h0 hb hr =>
      obtain ⟨f1, f2, rfl, h1, h2⟩ := ih hr
      exact ⟨f1, f2, by simp, .lb hv hz h0 hb h1, by rw [List.length_cons, show 0 + (xs.length + 1) = 1 + xs.length by omega]; exact h2⟩
theorem Rep.join {w : World} {S : Nat → Prop} {E : Env} {dat : Bool} {b : Nat} : ∀ {xs ys : List C} {off : Nat} {f1 f2 : List Nat}, Rep w S E (.l dat xs b off) f1 →
    Rep w S E (.l dat ys b (off + xs.length)) f2 → Rep w S E (.l dat (xs ++ ys) b off) (f1 ++ f2) := by
  intro xs
  induction xs with
  | nil => intro ys off f1 f2 h1 h2; cases h1; simpa using h2
  | cons y xs ih =>
    intro ys off f1 f2 h1 h2
    cases h1 with
    | lcons hv hc hr =>
      rw [List.append_assoc]
      exact .lcons hv hc (ih hr (by rw [List.length_cons, show off + (xs.length + 1) = off + 1 + xs.length by omega] at h2; exact h2))
    | lb hv hz h0 hb hr => exact .lb hv hz h0 hb (ih hr (by rw [List.length_cons, show 0 + (xs.length + 1) = 1 + xs.length by omega] at h2; exact h2))
theorem flatten_split {es : Nat} : ∀ {rows : List (List C)} (_ : ∀ r ∈ rows, r.length = es) (i : Nat) (row : List C), rows[i]? = some row →
    ∃ xs ys, rows.flatten = xs ++ (row ++ ys) ∧ xs.length = i * es ∧ xs = (rows.take i).flatten ∧ ys = (rows.drop (i + 1)).flatten := by
  intro rows
  induction rows with
  | nil => intro _ i row h; simp at h
  | cons r rows ih =>
    intro hl i row h
    cases i with
    | zero => simp at h; subst h; exact ⟨[], rows.flatten, by simp, by simp, by simp, by simp⟩
    | succ i =>
      obtain ⟨xs, ys, h1, h2, h3, h4⟩ := ih (fun r hr => hl r (List.mem_cons_of_mem _ hr)) i row (by simpa using h)
      refine ⟨r ++ xs, ys, by simp [h1], ?_, by simp [h3], by simpa using h4⟩
      have := hl r (List.mem_cons_self ..)
      simp [h2, this, Nat.succ_mul]; omega
theorem flatten_len {es : Nat} : ∀ {rows : List (List C)} (_ : ∀ r ∈ rows, r.length = es), rows.flatten.length = rows.length * es := by
  intro rows
  induction rows with
  | nil => intro _; simp
  | cons r rows ih =>
    intro hl
    have := hl r (List.mem_cons_self ..)
    simp [ih (fun r hr => hl r (List.mem_cons_of_mem _ hr)), this, Nat.succ_mul]; omega
end Go.Dl

namespace Go.Dl
open Go.RowKit
def D.cell : D → Option C
  | .c y => some y
  | _ => none
def liveR (H : List (Option Root)) (r : Nat) : Bool :=
  match H[r]? with
  | some (some _) => true
  | _ => false
/-- The cells behind an address. -/
def Y9 (H : List (Option Root)) : D → Option (List C)
  | .c (.p r e c) => match H[r]? with
    | some (some R) => (R.rows[e]?).map (·.drop c)
    | _ => none
  | .q xs => some xs
  | _ => none
/-- A copy of a cell: an empty slice is nobody's. -/
def C.cpy : C → C
  | .s true es rows => match rows with
    | [] => .s false es []
    | _ => .s true es rows
  | c => c
def qmk (P : Program) (t : TypeId) (xs : List C) : Option D :=
  match tk P t with
  | none => none
  | some k =>
    if k.agg then (if (xs.take (tsz P t)).length = tsz P t ∧ ((xs.take (tsz P t)).map C.cpy).all C.cp = true then some (.agg ((xs.take (tsz P t)).map C.cpy)) else none)
    else match xs with
      | c :: _ => if c.cpy.cp = true then some (.c c.cpy) else none
      | [] => none
def qload (P : Program) (H : List (Option Root)) (t : TypeId) (d : D) : Option D := (Y9 H d).bind (qmk P t)
def qnil (H : List (Option Root)) : D → Option D
  | .c (.p r e c) => if liveR H r then some (.c (.p r e c)) else none
  | .c (.f k cs) => some (.c (.f k cs))
  | .q xs => some (.q xs)
  | _ => none
def Yb (P : Program) (H : List (Option Root)) (t : TypeId) (i : Nat) (d : D) : Option D :=
  match tk P t with
  | some (.st l) => match l[i]? with
    | some (ty, off) => if tsz P ty = 0 then none else match d with
      | .c (.p r e c) => if liveR H r then some (.c (.p r e (c + off))) else none
      | .q xs => some (.q (xs.drop off))
      | _ => none
    | none => none
  | _ => none
/-- A part of an aggregate. -/
def qpart (P : Program) (t : TypeId) (off : Nat) (xs : List C) : Option D :=
  match tk P t with
  | none => none
  | some k => if k.agg then (if tsz P t = 0 then none else some (.agg ((xs.drop off).take (tsz P t)))) else (xs[off]?).map .c
def qfield (P : Program) (t : TypeId) (i : Nat) (d : D) : Option D :=
  match tk P t with
  | some (.st l) => match l[i]? with
    | some (ty, off) => match d with
      | .agg xs => qpart P ty off xs
      | _ => none
    | none => none
  | _ => none
def D.int : D → Option Int
  | .c (.v (.int _ n)) => some n
  | _ => none
def qindexAddr (P : Program) (H : List (Option Root)) (t : TypeId) (d : D) (n : Int) : Option D :=
  match tk P t with
  | some (.slice e) => match d with
    | .c (.h r lo len) => match H[r]? with
      | some (some R) => if tsz P e = R.es ∧ R.es ≠ 0 ∧ 0 ≤ n ∧ n < len then some (.c (.p r (lo + n.toNat) 0)) else none
      | _ => none
    | .c (.s false es rows) => if tsz P e = es ∧ es ≠ 0 ∧ 0 ≤ n ∧ n < rows.length then (rows[n.toNat]?).map .q else none
    | _ => none
  | some (.arr len e) => match d with
    | .c (.p r el c) => if liveR H r = true ∧ tsz P e ≠ 0 ∧ 0 ≤ n ∧ n < len then some (.c (.p r el (c + n.toNat * tsz P e))) else none
    | .q xs => if tsz P e ≠ 0 ∧ 0 ≤ n ∧ n < len then some (.q (xs.drop (n.toNat * tsz P e))) else none
    | _ => none
  | _ => none
def qindex (P : Program) (t : TypeId) (d : D) (n : Int) : Option D :=
  match tk P t with
  | some .str => match d with
    | .c (.v (.string s)) => if 0 ≤ n ∧ n < s.size then some (.c (.v (.int .u8 (s.data.toList.getD n.toNat 0).toNat))) else none
    | _ => none
  | some (.arr len e) => match d with
    | .agg xs => if tsz P e ≠ 0 ∧ 0 ≤ n ∧ n < len then qpart P e (n.toNat * tsz P e) xs else none
    | _ => none
  | _ => none
def qpick : D → D → D → Option D
  | .c (.v (.bool c)), a, b => match a, b with
    | .c (.v (.bool x)), .c (.v (.bool y)) => some (.c (.v (.bool (bif c then x else y))))
    | a, b => some (bif c then a else b)
  | _, _, _ => none
def strEq (x y : ByteArray) : Bool := x.toList == y.toList
def strLt (x y : ByteArray) : Bool := Op.bytesLess x.toList y.toList
def qint (op : BinOp) (k : IntKind) (x y : Int) : Option C :=
  match op with
  | .add => some (.v (.int k (k.wrap (x + y))))
  | .sub => some (.v (.int k (k.wrap (x - y))))
  | .mul => some (.v (.int k (k.wrap (x * y))))
  | .quo => if y = 0 then none else some (.v (.int k (k.wrap (x.tdiv y))))
  | .rem => if y = 0 then none else some (.v (.int k (k.wrap (x.tmod y))))
  | .and => some (.v (.int k (k.wrap (BitVec.ofInt k.bits x &&& BitVec.ofInt k.bits y).toNat)))
  | .or => some (.v (.int k (k.wrap (BitVec.ofInt k.bits x ||| BitVec.ofInt k.bits y).toNat)))
  | .xor => some (.v (.int k (k.wrap (BitVec.ofInt k.bits x ^^^ BitVec.ofInt k.bits y).toNat)))
  | .andNot => some (.v (.int k (k.wrap (BitVec.ofInt k.bits x &&& ~~~ BitVec.ofInt k.bits y).toNat)))
  | .eql => some (.v (.bool (decide (x = y))))
  | .neq => some (.v (.bool (!decide (x = y))))
  | .lss => some (.v (.bool (decide (x < y))))
  | .leq => some (.v (.bool (decide (x ≤ y))))
  | .gtr => some (.v (.bool (decide (y < x))))
  | .geq => some (.v (.bool (decide (y ≤ x))))
  | _ => none
def Yc (op : BinOp) (k : IntKind) (x y : Int) : Option C :=
  match op with
  | .shl => if y < 0 then none else some (.v (.int k (k.wrap (x * 2 ^ min y.toNat k.bits))))
  | .shr => if y < 0 then none else some (.v (.int k (k.wrap (x.fdiv (2 ^ min y.toNat k.bits)))))
  | _ => none
def qstr (op : BinOp) (x y : ByteArray) : Option C :=
  match op with
  | .add => if x.size + y.size ≤ maxStr then some (.v (.string (x ++ y))) else none
  | .eql => some (.v (.bool (strEq x y)))
  | .neq => some (.v (.bool (!strEq x y)))
  | .lss => some (.v (.bool (strLt x y)))
  | .leq => some (.v (.bool (strLt x y || strEq x y)))
  | .gtr => some (.v (.bool (!(strLt x y || strEq x y))))
  | .geq => some (.v (.bool (!strLt x y)))
  | _ => none
def isEq : BinOp → Option Bool
  | .eql => some true
  | .neq => some false
  | _ => none
/-- Against nil, and two truths. -/
def qeq (P : Program) (H : List (Option Root)) (t : TypeId) (a b : D) : Option Bool :=
  match tk P t with
  | some .bool => match a, b with
    | .c (.v (.bool x)), .c (.v (.bool y)) => some (x == y)
    | _, _ => none
  | some (.ptr t') => match a, b with
    | .c (.v (.pointer none)), .c (.v (.pointer none)) => some true
    | .c (.p r _ _), .c (.v (.pointer none)) => if liveR H r then some false else none
    | .c (.v (.pointer none)), .c (.p r _ _) => if liveR H r then some false else none
    | .q _, .c (.v (.pointer none)) => some false
    | .c (.v (.pointer none)), .q _ => some false
    | .c (.p r e c), .c (.p r' e' c') => if r = r' ∧ e = e' ∧ c = c' ∧ tsz P t' ≠ 0 ∧ liveR H r = true then some true else none
    | _, _ => none
  | some .func => match a, b with
    | .c (.f _ _), .c (.v .nilFunc) => some false
    | .c (.v .nilFunc), .c (.v .nilFunc) => some true
    | _, _ => none
  | some (.map _ _) => match a, b with
    | .c (.v (.map none)), .c (.v (.map none)) => some true
    | .c .m, .c (.v (.map none)) => some false
    | .c (.v (.map none)), .c .m => some false
    | _, _ => none
  | _ => none
def Ya : BinOp → Bool
  | .shl => true
  | .shr => true
  | _ => false
/-- The fields of a struct of scalars, one cell each. -/
def flatTs (P : Program) : Nat → List Field → Option (List TK)
  | _, [] => some []
  | i, f :: fs => if f.name ≠ "_" ∧ f.offset = i then match tk P f.type, flatTs P (i + 1) fs with
    | some k, some ks => some (k :: ks)
    | _, _ => none else none
/-- A struct of scalars within another. -/
def flatSt (P : Program) (t : TypeId) : Option (List TK) :=
  match P.underlying t with
  | some (.struct gs) => if P.stoodInHeld t = false then flatTs P 0 gs.toList else none
  | _ => none
/-- The fields of a struct of scalars and of structs of scalars, one cell each. -/
def flatNs (P : Program) : Nat → List Field → Option (List TK)
  | _, [] => some []
  | i, f :: fs => if f.name ≠ "_" ∧ f.offset = i then match tk P f.type with
    | some k => if k.agg = true then (match flatSt P f.type with
        | some ks => if tsz P f.type = ks.length ∧ ks.length ≠ 0 then (match flatNs P (i + ks.length) fs with
          | some r => some (ks ++ r)
          | none => none) else none
        | none => none)
      else (match flatNs P (i + 1) fs with
        | some r => some (k :: r)
        | none => none)
    | none => none else none
def flatT (P : Program) (t : TypeId) : Option (List TK) :=
  match P.underlying t with
  | some (.struct fs) => if P.stoodInHeld t = false ∧ P.eqGuardType P.depth t = false then (match flatTs P 0 fs.toList with
    | some ks => if ks.any TK.agg = true then flatNs P 0 fs.toList else some ks
    | none => none) else none
  | _ => none
def eqC : TK → C → C → Option Bool
  | .int _, .v (.int k x), .v (.int k' y) => if k = k' then some (decide (x = y)) else none
  | .bool, .v (.bool x), .v (.bool y) => some (x == y)
  | .str, .v (.string x), .v (.string y) => some (strEq x y)
  | _, _, _ => none
def eqCs : List TK → List C → List C → Option Bool
  | [], [], [] => some true
  | k :: ks, c :: cs, d :: ds => match eqC k c d, eqCs ks cs ds with
    | some a, some b => some (a && b)
    | _, _ => none
  | _, _, _ => none
def qbin (P : Program) (H : List (Option Root)) (op : BinOp) (t : TypeId) (a b : D) : Option D :=
  match a, b with
  | .agg xs, .agg ys => match isEq op, flatT P t with
    | some e, some ks => (eqCs ks xs ys).map fun r => .c (.v (.bool (if e then r else !r)))
    | _, _ => none
  | .c (.v (.int k x)), .c (.v (.int k' y)) => if Ya op then (Yc op k x y).map .c else if k = k' then (qint op k x y).map .c else none
  | .c (.v (.string x)), .c (.v (.string y)) => (qstr op x y).map .c
  | a, b => match isEq op with
    | some e => (qeq P H t a b).map fun r => .c (.v (.bool (if e then r else !r)))
    | none => none
def qun (op : UnOp) : D → Option D
  | .c (.v (.int k n)) => match op with
    | .neg => some (.c (.v (.int k (k.wrap (0 - n)))))
    | _ => none
  | .c (.v (.bool b)) => match op with
    | .not => some (.c (.v (.bool (!b))))
    | _ => none
  | _ => none
def qconv (P : Program) (s d : TypeId) : D → Option D
  | .c (.v (.int _ n)) => match tk P d, tk P s with
    | some (.int k), some _ => some (.c (.v (.int k (k.wrap n))))
    | _, _ => none
  | .c (.v (.string x)) => match tk P d, tk P s with
    | some .str, some _ => some (.c (.v (.string x)))
    | _, _ => none
  | _ => none
/-- The bounds of a slice expression. -/
def qbounds (len : Nat) (lo hi : Option (Option D)) : Option (Nat × Nat) :=
  match hi with
  | none => match lo with
    | none => some (0, len)
    | some (some d) => match d.int with
      | some l => if 0 ≤ l ∧ l ≤ len then some (l.toNat, len) else none
      | none => none
    | some none => none
  | some (some d) => match d.int with
    | some h => if 0 ≤ h ∧ h ≤ len then (match lo with
      | none => some (0, h.toNat)
      | some (some d) => match d.int with
        | some l => if 0 ≤ l ∧ l ≤ h then some (l.toNat, h.toNat) else none
        | none => none
      | some none => none) else none
    | none => none
  | some none => none
def qslice (P : Program) (H : List (Option Root)) (t : TypeId) (lo hi : Option (Option D)) : D → Option D
  | .c (.v (.string s)) => match tk P t with
    | some .str => (qbounds s.size lo hi).map fun (l, h) => .c (.v (.string (s.extract l h)))
    | _ => none
  | .c (.s false es rows) => match tk P t with
    | some (.slice e) => if tsz P e = es ∧ es ≠ 0 then (qbounds rows.length lo hi).map fun (l, h) => .c (.s false es ((rows.drop l).take (h - l))) else none
    | _ => none
  | .c (.h r l0 len) => match tk P t with
    | some (.slice e) => match H[r]? with
      | some (some R) => if tsz P e = R.es ∧ R.es ≠ 0 then (qbounds len lo hi).map fun (l, h) => .c (.h r (l0 + l) (h - l)) else none
      | _ => none
    | _ => none
  | _ => none
/-- A full slice expression that leaves no room. -/
def qslice3 (P : Program) (H : List (Option Root)) (t : TypeId) (lo hi mx : Option D) (d : D) : Option D :=
  match tk P t with
  | some (.slice e) =>
    if tsz P e ≠ 0 ∧ lo.bind D.int = some 0 ∧ hi.bind D.int = some 0 ∧ mx.bind D.int = some 0 then match d with
      | .c (.s _ es _) => some (.c (.s true es []))
      | .c (.h r _ _) => if liveR H r then some (.c (.s true 0 [])) else none
      | _ => none
    else none
  | _ => none
def qlen (P : Program) (H : List (Option Root)) (t : TypeId) : D → Option D
  | .c (.v (.string s)) => match tk P t with
    | some .str => some (.c (.v (.int .i64 s.size)))
    | _ => none
  | .c (.s _ _ rows) => match tk P t with
    | some (.slice _) => if rows.length ≤ maxStr then some (.c (.v (.int .i64 rows.length))) else none
    | _ => none
  | .c (.h r _ len) => match tk P t with
    | some (.slice _) => if liveR H r = true ∧ len ≤ maxStr then some (.c (.v (.int .i64 len))) else none
    | _ => none
  | .c (.v (.map none)) => match tk P t with
    | some (.map _ _) => some (.c (.v (.int .i64 0)))
    | _ => none
  | _ => none
def qext (i : Nat) : D → Option D
  | .t ds => ds[i]?
  | _ => none
def omap {α β : Type} (f : α → β) : Option α → Option β
  | none => none
  | some a => some (f a)
def q2 (isMax : Bool) : D → D → Option D
  | .c (.v (.int k x)), .c (.v (.int k' y)) => if k = k' then some (.c (.v (.int k (if isMax then (if x < y then y else x) else (if y < x then y else x))))) else none
  | _, _ => none
/-- A builtin that reads. -/
def qbuiltin (P : Program) (ρ : Operand → Option D) (H : List (Option Root)) (c : Call) : Option D :=
  match c.callee with
  | .builtin .len => match c.args.toList, c.argTypes.toList with
    | [x], [t] => (ρ x).bind (qlen P H t)
    | _, _ => none
  | .builtin .max => match c.args.toList with
    | [x, y] => match ρ x, ρ y with
      | some a, some b => q2 true a b
      | _, _ => none
    | _ => none
  | .builtin .min => match c.args.toList with
    | [x, y] => match ρ x, ρ y with
      | some a, some b => q2 false a b
      | _, _ => none
    | _ => none
  | _ => none
/-- What a quiet operation comes to. -/
def qev (P : Program) (ρ : Operand → Option D) (H : List (Option Root)) : Op → Option D
  | .move x => ρ x
  | .assign x => ρ x
  | .pick c a b => match ρ c, ρ a, ρ b with
    | some c, some a, some b => qpick c a b
    | _, _, _ => none
  | .load t x => (ρ x).bind (qload P H t)
  | .nilCheck x => (ρ x).bind (qnil H)
  | .binOp op t x y _ => match ρ x, ρ y with
    | some a, some b => qbin P H op t a b
    | _, _ => none
  | .unOp op _ x => (ρ x).bind (qun op)
  | .convert s d x => (ρ x).bind (qconv P s d)
  | .fieldAddr t x i => (ρ x).bind (Yb P H t i)
  | .field t x i => (ρ x).bind (qfield P t i)
  | .indexAddr t x i => match ρ x, (ρ i).bind D.int with
    | some d, some n => qindexAddr P H t d n
    | _, _ => none
  | .index t x i => match ρ x, (ρ i).bind D.int with
    | some d, some n => qindex P t d n
    | _, _ => none
  | .slice t x lo hi none => (ρ x).bind (qslice P H t (omap ρ lo) (omap ρ hi))
  | .slice t x (some lo) (some hi) (some mx) => (ρ x).bind (qslice3 P H t (ρ lo) (ρ hi) (ρ mx))
  | .extract x i => (ρ x).bind (qext i)
  | .call c => qbuiltin P ρ H c
  | _ => none
end Go.Dl

namespace Go.Dl
open Go.RowKit
section
variable {P : Program} {g : G} {S : Nat → Prop} {E : Env} {F : List (List Nat)} {A : St} {a : Act} {w : World}
theorem vs_get {w : World} {S : Nat → Prop} {E : Env} : ∀ {xs : List C} {vs : List Value} {fp : List Nat}, Rep w S E (.vs xs vs) fp → xs.length = vs.length ∧
    ∀ (i : Nat) (c : C), xs[i]? = some c → ∃ v f, vs[i]? = some v ∧ Rep w S E (.k false c v) f ∧ ∀ x ∈ f, x ∈ fp := by
  intro xs
  induction xs with
  | nil => intro vs fp h; cases h; exact ⟨rfl, fun i c h => by simp at h⟩
  | cons y xs ih =>
    intro vs fp h
    cases h with
    | vcons hc hr =>
      obtain ⟨h1, h2⟩ := ih hr
      refine ⟨by simp [h1], fun i c h => ?_⟩
      cases i with
      | zero => simp at h; subst h; exact ⟨_, _, rfl, hc, fun x hx => List.mem_append_left _ hx⟩
      | succ i =>
        obtain ⟨v, f, e1, e2, e3⟩ := h2 i c (by simpa using h)
        exact ⟨v, f, by simpa using e1, e2, fun x hx => List.mem_append_right _ (e3 x hx)⟩
theorem vs_drop {w : World} {S : Nat → Prop} {E : Env} : ∀ (n : Nat) {xs : List C} {vs : List Value}, Rep w S E (.vs xs vs) [] → Rep w S E (.vs (xs.drop n) (vs.drop n)) [] := by
  intro n
  induction n with
  | zero => intro xs vs h; simpa using h
  | succ n ih =>
    intro xs vs h
    generalize hfp : ([] : List Nat) = fp at h
    cases h with
    | vnil => simpa using (Rep.vnil (w := w) (S := S) (E := E))
    | vcons hc hr =>
      obtain ⟨rfl, rfl⟩ := List.append_eq_nil_iff.1 hfp.symm
      simpa using ih hr
theorem vs_take {w : World} {S : Nat → Prop} {E : Env} : ∀ (n : Nat) {xs : List C} {vs : List Value}, Rep w S E (.vs xs vs) [] → Rep w S E (.vs (xs.take n) (vs.take n)) [] := by
  intro n
  induction n with
  | zero => intro xs vs _; simpa using (Rep.vnil (w := w) (S := S) (E := E))
  | succ n ih =>
    intro xs vs h
    generalize hfp : ([] : List Nat) = fp at h
    cases h with
    | vnil => simpa using (Rep.vnil (w := w) (S := S) (E := E))
    | vcons hc hr =>
      obtain ⟨rfl, rfl⟩ := List.append_eq_nil_iff.1 hfp.symm
      simpa using (Rep.vcons hc (ih hr))
theorem live_root (hr : Rel g S E F A a w) {r : Nat} (h : liveR A.H r = true) : ∃ R p f, A.H[r]? = some (some R) ∧ E[r]? = some (some p) ∧ F[r]? = some f ∧ RootAt w S E R p f := by
  unfold liveR at h
  split at h
  · rename_i R hR
    obtain ⟨p, f, h1, h2, h3⟩ := hr.root r R hR
    exact ⟨R, p, f, hR, h1, h2, h3⟩
  · cases h
theorem ptr_live (hr : Rel g S E F A a w) {r e c : Nat} {v : Value} (hl : liveR A.H r = true) (hd : RepD w S E (.c (.p r e c)) v) :
    ∃ R p f b off, A.H[r]? = some (some R) ∧ E[r]? = some (some p) ∧ F[r]? = some f ∧ RootAt w S E R p f ∧ p.at? = some (b, off) ∧ v = .pointer (some ⟨b, off + e * p.es + c, none⟩) := by
  obtain ⟨R, p, f, h1, h2, h3, h4⟩ := live_root hr hl
  cases hd with
  | c h => cases h with
    | p _ hh =>
      obtain ⟨b, off, e1, e2⟩ := hh p h2
      exact ⟨R, p, f, b, off, h1, h2, h3, h4, e1, e2⟩
theorem cellsAt_rep (hr : Rel g S E F A a w) {d : D} {v : Value} {xs : List C} (hd : RepD w S E d v) (h : Y9 A.H d = some xs) :
    ∃ b off dat fp, v = .pointer (some ⟨b, off, none⟩) ∧ Rep w S E (.l dat xs b off) fp := by
  unfold Y9 at h
  split at h
  · rename_i r e c
    split at h
    · rename_i R hR
      obtain ⟨R', p, f, b, off, h1, h2, h3, h4, h5, h6⟩ := ptr_live hr (by simp [liveR, hR]) hd
      rw [hR] at h1
      obtain rfl : R = R' := by simpa using h1
      cases hrow : R.rows[e]? with
      | none => rw [hrow] at h; simp at h
      | some row =>
        rw [hrow] at h
        obtain rfl : row.drop c = xs := by simpa using h
        obtain ⟨g1, g2, g3, g4, g5⟩ := h4
        rw [h5] at g5
        obtain ⟨fr, _, _, hrep⟩ := g5
        obtain ⟨ys, zs, e1, e2, _⟩ := flatten_split g4 e row hrow
        rw [e1] at hrep
        obtain ⟨f1, f2, _, _, hb2⟩ := hrep.append
        obtain ⟨f3, f4, _, hb3, _⟩ := hb2.append
        refine ⟨b, off + e * p.es + c, R.dat, ?_⟩
        by_cases hc : c ≤ row.length
        · rw [← List.take_append_drop c row] at hb3
          obtain ⟨f5, f6, _, _, hb5⟩ := hb3.append
          rw [e2, List.length_take, Nat.min_eq_left hc, ← g1] at hb5
          exact ⟨f6, h6, hb5⟩
        · rw [List.drop_eq_nil_of_le (by omega)]
          exact ⟨[], h6, .lnil⟩
    · cases h
  · cases h
    cases hd with
    | q hS h => exact ⟨_, _, true, [], rfl, h⟩
  · cases h
theorem rep_cpy {w : World} {S : Nat → Prop} {E : Env} {dat : Bool} {c : C} {v : Value} {fp : List Nat} (h : Rep w S E (.k dat c v) fp) : ∃ fp', Rep w S E (.k dat c.cpy v) fp' := by
  unfold C.cpy
  split
  · split
    · cases h with
      | nilO => exact ⟨_, .nilI⟩
      | own _ _ _ _ _ => exact ⟨_, .nilI⟩
    · exact ⟨_, h⟩
  · exact ⟨_, h⟩
theorem rep_cpys {w : World} {S : Nat → Prop} {E : Env} {dat : Bool} {b : Nat} : ∀ {cs : List C} {off : Nat} {fp : List Nat}, Rep w S E (.l dat cs b off) fp → ∃ fp', Rep w S E (.l dat (cs.map C.cpy) b off) fp'
  | [], off, fp, h => ⟨_, .lnil⟩
  | c :: cs, off, fp, h => by
    cases h with
    | lcons hv hc hr =>
      obtain ⟨f1, k1⟩ := rep_cpy hc
      obtain ⟨f2, k2⟩ := rep_cpys hr
      exact ⟨_, .lcons hv k1 k2⟩
    | lb hv hz h0 hb hr =>
      obtain ⟨f2, k2⟩ := rep_cpys hr
      exact ⟨_, .lb hv hz h0 hb k2⟩
theorem qload_sound (hr : Rel g S E F A a w) {t : TypeId} {d d' : D} {v : Value} (hd : RepD w S E d v) (h : qload P A.H t d = some d') :
    ∃ v', (Instr.loadAt t v).run P w = .ok v' w ∧ RepD w S E d' v' := by
  unfold qload at h
  cases hxs : Y9 A.H d with
  | none => rw [hxs] at h; cases h
  | some xs =>
    rw [hxs] at h
    simp only [Z8] at h
    obtain ⟨b, off, dat, fp, rfl, hrep⟩ := cellsAt_rep hr hd hxs
    unfold qmk at h
    split at h
    · cases h
    · rename_i k hk
      simp only [Instr.loadAt, Instr.sureAddr, loadVar, Sem.run_bind, Sem.run_pure, Result.andThen_ok, run_agg hk]
      split at h
      · rename_i hagg
        split at h
        · rename_i hc
          obtain ⟨hc1, hc2⟩ := hc
          cases h
          rw [← List.take_append_drop (tsz P t) xs] at hrep
          obtain ⟨f1, f2, _, hr1, _⟩ := hrep.append
          obtain ⟨_, hr1⟩ := rep_cpys hr1
          rw [← List.length_map (f := C.cpy)] at hc1
          obtain ⟨vs, e1, e2, e3⟩ := hr1.load hc2
          rw [if_pos hagg]
          refine ⟨.agg vs.toArray, ?_, .agg (by simpa using e3)⟩
          simp only [Sem.run_bind, run_tsz hk, Result.andThen_ok]
          rw [← hc1, ← e1, run_loadCells_list w _ vs]
          · rfl
          · intro j v hj
            have := e2 j v hj
            unfold Addr.add
            split
            · rename_i h0; subst h0; simpa using this
            · exact this
        · cases h
      · rename_i hagg
        rw [if_neg hagg]
        split at h
        · rename_i c cs
          split at h
          · rename_i hcp
            cases h
            cases hrep with
            | lcons hv hc _ =>
              obtain ⟨_, hc⟩ := rep_cpy hc
              have := cp_fp hc hcp
              subst this
              exact ⟨_, by simp [hv], .c hc.undat⟩
            | lb => simp [C.cpy, C.cp] at hcp
          · cases h
        · cases h
theorem qnil_sound (hr : Rel g S E F A a w) {d d' : D} {v : Value} {o : Oper} {x : Operand} (hx : a.eval x = v) (ho : o.op = .nilCheck x) (hd : RepD w S E d v) (h : qnil A.H d = some d') :
    (execOp a.eval o).run P w = .ok (.value v) w ∧ RepD w S E d' v := by
  unfold qnil at h
  split at h
  · split at h
    · rename_i hl
      cases h
      obtain ⟨R, p, f, b, off, h1, h2, h3, h4, h5, rfl⟩ := ptr_live hr hl hd
      exact ⟨by simp [execOp, ho, hx], hd⟩
    · cases h
  · cases h
    refine ⟨?_, hd⟩
    cases hd with
    | c h => cases h with
      | f _ _ => simp [execOp, ho, hx]
  · cases h
    refine ⟨?_, hd⟩
    cases hd with
    | q _ _ => simp [execOp, ho, hx]
  · cases h
theorem addr_add (b off n : Nat) : (⟨b, off, none⟩ : Addr).add n = ⟨b, off + n, none⟩ := by
  unfold Addr.add; split
  · rename_i h; subst h; simp
  · rfl
theorem run_fieldPlace {b off : Nat} {f : Field} (h : tsz P f.type ≠ 0) : (fieldPlace ⟨b, off, none⟩ f).run P w = .ok ⟨b, off + f.offset, none⟩ w := by
  unfold fieldPlace
  simp only [Sem.run_bind, run_tsz' h, Result.andThen_ok, Sem.run_ite, if_neg h, Sem.run_pure, addr_add]
theorem st_field {t i ty off : Nat} {l : List (TypeId × Nat)} (hk : tk P t = some (.st l)) (hi : l[i]? = some (ty, off)) :
    ∃ fs f, P.underlying t = some (.struct fs) ∧ fs[i]? = some f ∧ f.type = ty ∧ f.offset = off := by
  obtain ⟨d, hu, hd⟩ := tk_some hk
  cases d <;> simp [TK.of] at hd
  rename_i fs
  subst hd
  simp only [List.getElem?_map, Array.getElem?_toList, Option.map_eq_some_iff] at hi
  obtain ⟨f, h1, h2⟩ := hi
  simp only [Prod.mk.injEq] at h2
  exact ⟨fs, f, hu, h1, h2.1, h2.2⟩
theorem qfieldAddr_sound (hr : Rel g S E F A a w) {t i : Nat} {d d' : D} {v : Value} (hd : RepD w S E d v) (h : Yb P A.H t i d = some d') :
    ∃ v', (Instr.fieldAt t v i).run P w = .ok v' w ∧ RepD w S E d' v' := by
  unfold Yb at h
  split at h
  · rename_i l hk
    split at h
    · rename_i ty off hi
      obtain ⟨fs, f, hu, hf, rfl, rfl⟩ := st_field hk hi
      split at h
      · cases h
      · rename_i hz
        split at h
        · rename_i r e c
          split at h
          · rename_i hl
            cases h
            obtain ⟨R, p, fq, b, off, h1, h2, h3, h4, h5, rfl⟩ := ptr_live hr hl hd
            refine ⟨.pointer (some ⟨b, off + e * p.es + c + f.offset, none⟩), ?_, .c (.p ?_ ?_)⟩
            · simp [Instr.fieldAt, run_und hu, hf, Instr.sureAddr, run_fieldPlace hz]
            · rcases Nat.lt_or_ge r E.length with h | h
              · exact h
              · rw [List.getElem?_eq_none h] at h2; cases h2
            · intro pl hpl
              rw [h2] at hpl
              cases hpl
              exact ⟨b, off, h5, by simp [Nat.add_assoc]⟩
          · cases h
        · cases h
          rename_i xs
          cases hd with
          | q hS hrep =>
            rename_i b off
            refine ⟨.pointer (some ⟨b, off + f.offset, none⟩), ?_, .q hS ?_⟩
            · simp [Instr.fieldAt, run_und hu, hf, Instr.sureAddr, run_fieldPlace hz]
            · by_cases hc : f.offset ≤ xs.length
              · rw [← List.take_append_drop f.offset xs] at hrep
                obtain ⟨f1, f2, hff, _, hr2⟩ := hrep.append
                obtain ⟨rfl, rfl⟩ := List.append_eq_nil_iff.1 hff.symm
                rw [List.length_take, Nat.min_eq_left hc] at hr2
                exact hr2
              · rw [List.drop_eq_nil_of_le (by omega)]; exact .lnil
        · cases h
    · cases h
  · cases h
theorem agg_inv {xs : List C} {v : Value} (hd : RepD w S E (.agg xs) v) : ∃ arr : Array Value, v = .agg arr ∧ Rep w S E (.vs xs arr.toList) [] := by
  cases hd with
  | agg h => exact ⟨_, rfl, h⟩
theorem qpart_sound {t off : Nat} {xs : List C} {arr : Array Value} {d' : D} (hrep : Rep w S E (.vs xs arr.toList) []) (h : qpart P t off xs = some d') :
    ∃ v', (part t arr off).run P w = .ok v' w ∧ RepD w S E d' v' := by
  unfold qpart at h
  split at h
  · cases h
  · rename_i k hk
    simp only [part, Sem.run_bind, run_agg hk, Result.andThen_ok, Sem.run_ite]
    split at h
    · rename_i hagg
      split at h
      · cases h
      · cases h
        rw [if_pos hagg]
        refine ⟨.agg (arr.extract off (off + tsz P t)), by simp only [run_tsz hk, Result.andThen_ok, Sem.run_pure], .agg ?_⟩
        have := vs_take (tsz P t) (vs_drop off hrep)
        rw [Array.toList_extract, List.extract_eq_take_drop, Nat.add_sub_cancel_left]
        exact this
    · rename_i hagg
      rw [if_neg hagg]
      cases hx : xs[off]? with
      | none => rw [hx] at h; cases h
      | some c =>
        rw [hx] at h
        cases h
        obtain ⟨_, h2⟩ := vs_get hrep
        obtain ⟨v, f, e1, e2, e3⟩ := h2 off c hx
        have : f = [] := List.eq_nil_iff_forall_not_mem.2 fun x hx => by cases e3 x hx
        subst this
        rw [Array.getElem?_toList] at e1
        exact ⟨v, by simp [e1], .c e2⟩
theorem qfield_sound {t i : Nat} {d d' : D} {v : Value} (hd : RepD w S E d v) (h : qfield P t i d = some d') :
    ∃ v', (Instr.field t v i).run P w = .ok v' w ∧ RepD w S E d' v' := by
  unfold qfield at h
  split at h
  · rename_i l hk
    split at h
    · rename_i ty off hi
      obtain ⟨fs, f, hu, hf, rfl, rfl⟩ := st_field hk hi
      split at h
      · obtain ⟨arr, rfl, hrep⟩ := agg_inv hd
        obtain ⟨v', h1, h2⟩ := qpart_sound hrep h
        exact ⟨v', by simp [Instr.field, run_und hu, hf, asAgg, h1], h2⟩
      · cases h
    · cases h
  · cases h
theorem int_inv {d : D} {v : Value} {n : Int} (hd : RepD w S E d v) (h : d.int = some n) : ∃ k, v = .int k n ∧ inR k n = true := by
  unfold D.int at h
  split at h
  · cases h
    cases hd with
    | c h => cases h with
      | v h => exact ⟨_, rfl, h⟩
  · cases h
end
end Go.Dl

namespace Go.Dl
open Go.RowKit
section
variable {P : Program} {g : G} {S : Nat → Prop} {E : Env} {F : List (List Nat)} {A : St} {a : Act} {w : World}
theorem tk_slice {t e : TypeId} (h : tk P t = some (.slice e)) : P.underlying t = some (.slice e) := by
  obtain ⟨d, hu, hd⟩ := tk_some h
  cases d <;> simp [TK.of] at hd
  subst hd; exact hu
theorem tk_arr {t n e : Nat} (h : tk P t = some (.arr n e)) : P.underlying t = some (.array n e) := by
  obtain ⟨d, hu, hd⟩ := tk_some h
  cases d <;> simp [TK.of] at hd
  obtain ⟨rfl, rfl⟩ := hd; exact hu
theorem tk_str {t : TypeId} (h : tk P t = some .str) : P.underlying t = some .string := by
  obtain ⟨d, hu, hd⟩ := tk_some h
  cases d <;> simp [TK.of] at hd
  exact hu
theorem tk_int {t : TypeId} {k : IntKind} (h : tk P t = some (.int k)) : P.underlying t = some (.int k) := by
  obtain ⟨d, hu, hd⟩ := tk_some h
  cases d <;> simp [TK.of] at hd
  subst hd; exact hu
theorem tk_bool {t : TypeId} (h : tk P t = some .bool) : P.underlying t = some .bool := by
  obtain ⟨d, hu, hd⟩ := tk_some h
  cases d <;> simp [TK.of] at hd
  exact hu
theorem tk_ptr {t e : TypeId} (h : tk P t = some (.ptr e)) : P.underlying t = some (.pointer e) := by
  obtain ⟨d, hu, hd⟩ := tk_some h
  cases d <;> simp [TK.of] at hd
  subst hd; exact hu
theorem tk_map {t k e : TypeId} (h : tk P t = some (.map k e)) : P.underlying t = some (.map k e) := by
  obtain ⟨d, hu, hd⟩ := tk_some h
  cases d <;> simp [TK.of] at hd
  obtain ⟨rfl, rfl⟩ := hd; exact hu
theorem tk_func {t : TypeId} (h : tk P t = some .func) : ∃ ps rs v, P.underlying t = some (.func ps rs v) := by
  obtain ⟨d, hu, hd⟩ := tk_some h
  cases d <;> simp [TK.of] at hd
  exact ⟨_, _, _, hu⟩
theorem handle_live (hr : Rel g S E F A a w) {r lo len : Nat} {v : Value} {R : Root} (hR : A.H[r]? = some (some R)) (hd : RepD w S E (.c (.h r lo len)) v) :
    ∃ p f, E[r]? = some (some p) ∧ F[r]? = some f ∧ RootAt w S E R p f ∧ HandleAt p lo len v := by
  obtain ⟨p, f, h1, h2, h3⟩ := hr.root r R hR
  cases hd with
  | c h => cases h with
    | h _ hh => exact ⟨p, f, h1, h2, h3, hh p h1⟩
theorem lt_len {α : Type} {l : List α} {i : Nat} {x : α} (h : l[i]? = some x) : i < l.length := by
  rcases Nat.lt_or_ge i l.length with h' | h'
  · exact h'
  · rw [List.getElem?_eq_none h'] at h; cases h
theorem run_indexAt_slice {t e : TypeId} {k : IntKind} {n : Int} {ad : Addr} {len cap : Nat} (hu : P.underlying t = some (.slice e)) (hz : tsz P e ≠ 0) (h0 : 0 ≤ n) (h1 : n < len) :
    (Instr.indexAt t (.slice (some ad) len cap) (.int k n)).run P w = .ok (.pointer (some (ad.add (n.toNat * tsz P e)))) w := by
  simp [Instr.indexAt, asIntOf, run_und hu, h0, h1, run_tsz' hz]
theorem run_indexAt_arr {t e : TypeId} {k : IntKind} {n : Int} {ad : Addr} {len : Nat} (hu : P.underlying t = some (.array len e)) (hz : tsz P e ≠ 0) (h0 : 0 ≤ n) (h1 : n < len) :
    (Instr.indexAt t (.pointer (some ad)) (.int k n)).run P w = .ok (.pointer (some (ad.add (n.toNat * tsz P e)))) w := by
  simp [Instr.indexAt, asIntOf, run_und hu, Instr.sureAddr, h0, h1, run_tsz' hz]
theorem qindexAddr_sound (hr : Rel g S E F A a w) {t : TypeId} {d d' : D} {v : Value} {k : IntKind} {n : Int} (hd : RepD w S E d v) (h : qindexAddr P A.H t d n = some d') :
    ∃ v', (Instr.indexAt t v (.int k n)).run P w = .ok v' w ∧ RepD w S E d' v' := by
  unfold qindexAddr at h
  split at h
  · rename_i e hk
    have hu := tk_slice hk
    split at h
    · rename_i r lo len
      split at h
      · rename_i R hR
        split at h
        · rename_i hc
          obtain ⟨c1, c2, c3, c4⟩ := hc
          cases h
          obtain ⟨p, f, h1, h2, h3, h4⟩ := handle_live hr hR hd
          obtain ⟨g1, g2, g3, g4, g5⟩ := h3
          obtain ⟨k1, k2⟩ := h4
          cases hat : p.at? with
          | none =>
            rw [hat] at g5
            obtain ⟨e1, _, _⟩ := g5
            rw [e1] at g2; simp at g2; omega
          | some bo =>
            obtain ⟨b, off⟩ := bo
            rw [hat] at k2
            obtain ⟨ad, cap, rfl, e2, e3, e4⟩ := k2
            have : ad = ⟨b, off + lo * p.es, none⟩ := by
              rcases e4 with e4 | e4
              · omega
              · exact e4
            subst this
            refine ⟨_, run_indexAt_slice hu (by omega) c3 c4, .c (.p (lt_len h1) fun pl hpl => ?_)⟩
            rw [h1] at hpl; cases hpl
            exact ⟨b, off, hat, by rw [addr_add, c1, g1, Nat.add_zero, Nat.add_mul, Nat.add_assoc]⟩
        · cases h
      · cases h
    · rename_i es rows
      split at h
      · rename_i hc
        obtain ⟨c1, c2, c3, c4⟩ := hc
        cases hrow : rows[n.toNat]? with
        | none => rw [hrow] at h; cases h
        | some row =>
          rw [hrow] at h; cases h
          cases hd with
          | c h => cases h with
            | nilI => simp at c4; omega
            | imm hS hcap hl hrep =>
              rename_i b off cap
              obtain ⟨xs, ys, e1, e2, _⟩ := flatten_split hl n.toNat row hrow
              rw [e1] at hrep
              obtain ⟨f1, f2, hff, _, hr2⟩ := hrep.append
              obtain ⟨rfl, rfl⟩ := List.append_eq_nil_iff.1 hff.symm
              obtain ⟨f3, f4, hff, hr3, _⟩ := hr2.append
              obtain ⟨rfl, rfl⟩ := List.append_eq_nil_iff.1 hff.symm
              refine ⟨_, run_indexAt_slice hu (by omega) c3 c4, ?_⟩
              rw [addr_add, c1, ← e2]
              exact .q hS hr3
      · cases h
    · cases h
  · rename_i len e hk
    have hu := tk_arr hk
    split at h
    · rename_i r el c
      split at h
      · rename_i hc
        obtain ⟨c1, c2, c3, c4⟩ := hc
        cases h
        obtain ⟨R, p, f, b, off, h1, h2, h3, h4, h5, rfl⟩ := ptr_live hr c1 hd
        refine ⟨_, run_indexAt_arr hu c2 c3 c4, .c (.p (lt_len h2) fun pl hpl => ?_)⟩
        rw [h2] at hpl; cases hpl
        exact ⟨b, off, h5, by rw [addr_add]; simp [Nat.add_assoc]⟩
      · cases h
    · rename_i xs
      split at h
      · rename_i hc
        obtain ⟨c2, c3, c4⟩ := hc
        cases h
        cases hd with
        | q hS hrep =>
          refine ⟨_, run_indexAt_arr hu c2 c3 c4, ?_⟩
          rw [addr_add]
          refine .q hS ?_
          by_cases hc : n.toNat * tsz P e ≤ xs.length
          · rw [← List.take_append_drop (n.toNat * tsz P e) xs] at hrep
            obtain ⟨f1, f2, hff, _, hr2⟩ := hrep.append
            obtain ⟨rfl, rfl⟩ := List.append_eq_nil_iff.1 hff.symm
            rw [List.length_take, Nat.min_eq_left hc] at hr2
            exact hr2
          · rw [List.drop_eq_nil_of_le (by omega)]; exact .lnil
      · cases h
    · cases h
  · cases h
theorem str_inv {s : ByteArray} {v : Value} (hd : RepD w S E (.c (.v (.string s))) v) : v = .string s ∧ s.size ≤ maxStr := by
  cases hd with
  | c h => cases h with
    | v h => exact ⟨rfl, h⟩
theorem v_inv {x v : Value} (hd : RepD w S E (.c (.v x)) v) : v = x ∧ Sc x := by
  cases hd with
  | c h => cases h with
    | v h => exact ⟨rfl, h⟩
theorem bytes_getD (s : ByteArray) (i : Nat) (h : i < s.size) : s[i]? = some (s.data.toList.getD i 0) := by
  have h' : i < s.data.size := h
  rw [getElem?_pos s i h, List.getD_eq_getElem?_getD, Array.getElem?_toList, Array.getElem?_eq_getElem h']
  rfl
theorem qindex_sound {t : TypeId} {d d' : D} {v : Value} {k : IntKind} {n : Int} (hd : RepD w S E d v) (h : qindex P t d n = some d') :
    ∃ v', (Instr.index t v (.int k n)).run P w = .ok v' w ∧ RepD w S E d' v' := by
  unfold qindex at h
  split at h
  · rename_i hk
    split at h
    · rename_i s
      obtain ⟨rfl, hs⟩ := str_inv hd
      split at h
      · rename_i hc
        cases h
        have hg := bytes_getD s n.toNat (by omega)
        generalize s.data.toList.getD n.toNat 0 = y at *
        refine ⟨.int .u8 y.toNat, ?_, .c (.v ?_)⟩
        · simp [Instr.index, asIntOf, run_und (tk_str hk), hc.1, hg]
        · have := y.toNat_lt
          simp [Sc, inR]; omega
      · cases h
    · cases h
  · rename_i len e hk
    split at h
    · obtain ⟨arr, rfl, hrep⟩ := agg_inv hd
      split at h
      · rename_i hc
        obtain ⟨c1, c2, c3⟩ := hc
        obtain ⟨v', h1, h2⟩ := qpart_sound hrep h
        exact ⟨v', by simp [Instr.index, asIntOf, run_und (tk_arr hk), c2, c3, run_tsz' c1, h1], h2⟩
      · cases h
    · cases h
  · cases h
theorem bool_inv {b : Bool} {v : Value} (hd : RepD w S E (.c (.v (.bool b))) v) : v = .bool b := (v_inv hd).1
theorem qpick_sound {dc da db d' : D} {vc va vb : Value} (hc : RepD w S E dc vc) (ha : RepD w S E da va) (hb : RepD w S E db vb) (h : qpick dc da db = some d') :
    ∃ c, vc = .bool c ∧ RepD w S E d' (if c then va else vb) := by
  unfold qpick at h
  split at h
  · rename_i c
    refine ⟨c, bool_inv hc, ?_⟩
    split at h
    · cases h
      obtain rfl := bool_inv ha
      obtain rfl := bool_inv hb
      cases c <;> exact .c (.v trivial)
    · cases h
      cases c
      · exact hb
      · exact ha
  · cases h
theorem qext_sound {i : Nat} {d d' : D} {v : Value} (hd : RepD w S E d v) (h : qext i d = some d') : ∃ v', (Instr.extract v i).run P w = .ok v' w ∧ RepD w S E d' v' := by
  unfold qext at h
  split at h
  · cases hd with
    | t hn hh =>
      rename_i ds arr
      have hi := lt_len h
      have := hh i d' h
      refine ⟨arr.getD i undef, ?_, this⟩
      have h' : i < arr.size := by omega
      simp [Instr.extract, Array.getD, h']
  · cases h
theorem qlen_sound (hr : Rel g S E F A a w) {t : TypeId} {ty : TypeId} {d d' : D} {v : Value} (hd : RepD w S E d v) (h : qlen P A.H t d = some d') :
    ∃ v', (Builtin.len_ #[t] ty #[v]).run P w = .ok v' w ∧ RepD w S E d' v' := by
  unfold qlen at h
  split at h
  · rename_i s
    split at h
    · rename_i hk
      obtain ⟨rfl, hs⟩ := str_inv hd
      cases h
      exact ⟨.int .i64 s.size, by simp [Builtin.len_, run_und (tk_str hk), goInt], .c (.v (by simp [Sc, inR]; unfold maxStr at hs; omega))⟩
    · cases h
  · rename_i o es rows
    split at h
    · rename_i e hk
      split at h
      · rename_i hm
        cases h
        have : ∃ ad cap, v = .slice ad rows.length cap := by
          cases hd with
          | c h => cases h <;> exact ⟨_, _, rfl⟩
        obtain ⟨ad, cap, rfl⟩ := this
        exact ⟨.int .i64 rows.length, by simp [Builtin.len_, run_und (tk_slice hk), goInt], .c (.v (by simp [Sc, inR]; unfold maxStr at hm; omega))⟩
      · cases h
    · cases h
  · rename_i r lo len
    split at h
    · rename_i e hk
      split at h
      · rename_i hm
        obtain ⟨hl, hm⟩ := hm
        cases h
        obtain ⟨R, _, _, hR, _, _, _⟩ := live_root hr hl
        obtain ⟨p, f, h1, h2, h3, h4⟩ := handle_live hr hR hd
        obtain ⟨g1, g2, g3, g4, g5⟩ := h3
        obtain ⟨k1, k2⟩ := h4
        have : ∃ ad cap, v = .slice ad len cap := by
          cases hat : p.at? with
          | none =>
            rw [hat] at g5 k2
            obtain ⟨e1, _, _⟩ := g5
            rw [e1] at g2
            obtain ⟨ad, rfl⟩ := k2
            have : len = 0 := by simp at g2; omega
            subst this
            exact ⟨_, _, rfl⟩
          | some bo => rw [hat] at k2; obtain ⟨ad, cap, rfl, _⟩ := k2; exact ⟨_, _, rfl⟩
        obtain ⟨ad, cap, rfl⟩ := this
        exact ⟨.int .i64 len, by simp [Builtin.len_, run_und (tk_slice hk), goInt], .c (.v (by simp [Sc, inR]; unfold maxStr at hm; omega))⟩
      · cases h
    · cases h
  · split at h
    · rename_i hk
      cases h
      obtain ⟨rfl, _⟩ := v_inv hd
      exact ⟨.int .i64 0, by simp [Builtin.len_, run_und (tk_map hk), goInt], .c (.v (by simp [Sc, inR]))⟩
    · cases h
  · cases h
end
end Go.Dl

namespace Go.Dl
open Go.RowKit
section
variable {P : Program} {g : G} {S : Nat → Prop} {E : Env} {F : List (List Nat)} {A : St} {a : Act} {w : World}
theorem tmod_inR {k : IntKind} {x y : Int} (hx : inR k x = true) (hy : inR k y = true) : inR k (x.tmod y) = true := by
  have h1 : (x.tmod y).natAbs ≤ x.natAbs := by rw [Int.natAbs_tmod]; exact Nat.mod_le _ _
  have h2 : 0 ≤ x → 0 ≤ x.tmod y := fun h => Int.tmod_nonneg y h
  have h3 : x ≤ 0 → x.tmod y ≤ 0 := fun h => by
    have := Int.tmod_nonneg y (a := -x) (by omega)
    rw [Int.neg_tmod] at this; omega
  cases k <;> simp only [inR, Bool.and_eq_true, decide_eq_true_eq] at * <;> omega
theorem fdiv_pow_le (x : Int) (n : Nat) : (0 ≤ x → 0 ≤ x.fdiv (2 ^ n) ∧ x.fdiv (2 ^ n) ≤ x) ∧ (x < 0 → x ≤ x.fdiv (2 ^ n) ∧ x.fdiv (2 ^ n) < 0) := by
  have hp : (0 : Int) < 2 ^ n := Int.pow_pos (by omega)
  rw [Int.fdiv_eq_ediv_of_nonneg _ (by omega)]
  refine ⟨fun h => ⟨Int.ediv_nonneg h (by omega), Int.ediv_le_self _ h⟩, fun h => ⟨?_, Int.ediv_neg_of_neg_of_pos h hp⟩⟩
  have h1 : (2 ^ n : Int) * (x / 2 ^ n) + x % 2 ^ n = x := Int.mul_ediv_add_emod x (2 ^ n)
  have h2 := Int.emod_nonneg x (b := 2 ^ n) (by omega)
  have h3 : x / 2 ^ n < 0 := Int.ediv_neg_of_neg_of_pos h hp
  have h4 : (2 ^ n : Int) * (x / 2 ^ n) ≤ 1 * (x / 2 ^ n) := Int.mul_le_mul_of_nonpos_right (by omega) (by omega)
  have h5 := Int.emod_lt_of_pos x hp
  rcases Int.lt_or_le (x / 2 ^ n) x with h6 | h6
  · have h7 : (2 ^ n : Int) * (x / 2 ^ n) ≤ 2 ^ n * (x - 1) := Int.mul_le_mul_of_nonneg_left (by omega) (by omega)
    have h8 : (2 ^ n : Int) * (x - 1) + 2 ^ n = 2 ^ n * x := by rw [Int.mul_sub]; omega
    have h9 : (2 ^ n : Int) * x ≤ 1 * x := Int.mul_le_mul_of_nonpos_right (by omega) (by omega)
    omega
  · omega
theorem fdiv_inR {k : IntKind} {x : Int} {n : Nat} (hx : inR k x = true) : inR k (x.fdiv (2 ^ n)) = true := by
  have h := fdiv_pow_le x n
  cases k <;> simp only [inR, Bool.and_eq_true, decide_eq_true_eq] at * <;> omega
theorem dec_eq (x y : Int) : (x == y) = decide (x = y) := by
  by_cases h : x = y <;> simp [h]
theorem qint_sound {op : BinOp} {t : TypeId} {k : IntKind} {x y : Int} {c : C} (hx : inR k x = true) (hy : inR k y = true) (hs : Ya op = false) (h : qint op k x y = some c) :
    ∃ v', c = .v v' ∧ (binOp op t (.int k x) (.int k y)).run P w = .ok v' w ∧ Sc v' := by
  cases op <;> simp only [qint, Option.some.injEq, reduceCtorEq] at h <;> try (simp [Ya] at hs; done)
  case quo =>
    split at h
    · cases h
    · rename_i hz; cases h; exact ⟨_, rfl, by simp [binOp, Op.intDiv, hz], wrap_inR _ _⟩
  case rem =>
    split at h
    · cases h
    · rename_i hz; cases h
      rw [wrap_id _ _ (tmod_inR hx hy)]
      exact ⟨_, rfl, by simp [binOp, Op.intDiv, hz], tmod_inR hx hy⟩
  case eql => subst h; exact ⟨_, rfl, by simp only [binOp, Op.intCmp, dec_eq]; simp, trivial⟩
  case neq => subst h; exact ⟨_, rfl, by simp only [binOp, Op.intCmp, bne, dec_eq]; simp, trivial⟩
  case add => subst h; exact ⟨_, rfl, by simp [binOp, Op.intArith], wrap_inR _ _⟩
  case sub => subst h; exact ⟨_, rfl, by simp [binOp, Op.intArith], wrap_inR _ _⟩
  case mul => subst h; exact ⟨_, rfl, by simp [binOp, Op.intArith], wrap_inR _ _⟩
  case and => subst h; exact ⟨_, rfl, by simp [binOp, Op.intBits], wrap_inR _ _⟩
  case or => subst h; exact ⟨_, rfl, by simp [binOp, Op.intBits], wrap_inR _ _⟩
  case xor => subst h; exact ⟨_, rfl, by simp [binOp, Op.intBits], wrap_inR _ _⟩
  case andNot => subst h; exact ⟨_, rfl, by simp [binOp, Op.intBits], wrap_inR _ _⟩
  all_goals (subst h; exact ⟨_, rfl, by simp [binOp, Op.intCmp], trivial⟩)
theorem qshift_sound {op : BinOp} {t : TypeId} {k k' : IntKind} {x y : Int} {c : C} (hx : inR k x = true) (h : Yc op k x y = some c) :
    ∃ v', c = .v v' ∧ (binOp op t (.int k x) (.int k' y)).run P w = .ok v' w ∧ Sc v' := by
  cases op <;> simp only [Yc, reduceCtorEq] at h
  · split at h
    · cases h
    · rename_i hz; cases h; exact ⟨_, rfl, by simp [binOp, Op.shift, hz], wrap_inR _ _⟩
  · split at h
    · cases h
    · rename_i hz; cases h
      rw [wrap_id _ _ (fdiv_inR hx)]
      exact ⟨_, rfl, by simp [binOp, Op.shift, hz], fdiv_inR hx⟩
theorem qstr_sound {op : BinOp} {t : TypeId} {x y : ByteArray} {c : C} (h : qstr op x y = some c) :
    ∃ v', c = .v v' ∧ (binOp op t (.string x) (.string y)).run P w = .ok v' w ∧ Sc v' := by
  cases op <;> simp only [qstr, Option.some.injEq, reduceCtorEq] at h
  case add =>
    split at h
    · rename_i hz
      cases h
      refine ⟨.string (x ++ y), rfl, ?_, ?_⟩
      · have : ¬ (((x.size + y.size : Nat) : Int) > IntKind.i64.max) := by simp [IntKind.max, IntKind.signed, IntKind.bits]; unfold maxStr at hz; omega
        simp only [binOp, Op.stringOp, if_neg this, Sem.run_pure]
      · show (x ++ y).size ≤ maxStr
        rw [ByteArray.size_append]; exact hz
    · cases h
  all_goals (subst h; exact ⟨_, rfl, by simp only [binOp, Op.stringOp]; rfl, trivial⟩)
theorem qun_sound {op : UnOp} {d d' : D} {v : Value} (hd : RepD w S E d v) (h : qun op d = some d') :
    ∃ v', (Op.unary op v).run P w = .ok v' w ∧ RepD w S E d' v' := by
  unfold qun at h
  split at h
  · rename_i k n
    obtain ⟨rfl, _⟩ := v_inv hd
    split at h
    · cases h; exact ⟨.int k (k.wrap (0 - n)), by simp [Op.unary, Op.intArith], .c (.v (wrap_inR _ _))⟩
    · cases h
  · rename_i b
    obtain ⟨rfl, _⟩ := v_inv hd
    split at h
    · cases h; exact ⟨.bool (!b), by simp [Op.unary], .c (.v trivial)⟩
    · cases h
  · cases h
theorem tk_und {t : TypeId} {k : TK} (h : tk P t = some k) : ∃ d, (underlying t).run P w = .ok d w := by
  obtain ⟨d, hu, _⟩ := tk_some h
  exact ⟨d, run_und hu w⟩
theorem qconv_sound {s t : TypeId} {d d' : D} {v : Value} (hd : RepD w S E d v) (h : qconv P s t d = some d') :
    ∃ v', (convert s t v).run P w = .ok v' w ∧ RepD w S E d' v' := by
  unfold qconv at h
  split at h
  · obtain ⟨rfl, _⟩ := v_inv hd
    split at h
    · rename_i k ks hk hs
      cases h
      obtain ⟨ds, hds⟩ := tk_und (w := w) hs
      refine ⟨.int k (k.wrap _), ?_, .c (.v (wrap_inR _ _))⟩
      simp only [convert, Sem.run_bind, hds, Result.andThen_ok, run_und (tk_int hk)]
      simp [Conv.intToInt]
    · cases h
  · obtain ⟨rfl, hsc⟩ := v_inv hd
    split at h
    · rename_i ks hk hs
      cases h
      obtain ⟨ds, hds⟩ := tk_und (w := w) hs
      refine ⟨_, ?_, .c (.v hsc)⟩
      simp only [convert, Sem.run_bind, hds, Result.andThen_ok, run_und (tk_str hk)]
      simp
    · cases h
  · cases h
theorem qbounds_sound {len cap : Nat} {lo hi : Option (Option D)} {vlo vhi : Option Value} {isS : Bool} {l h : Nat} (hcap : len ≤ cap)
    (hlo : ∀ d, lo = some (some d) → ∃ v, vlo = some v ∧ RepD w S E d v) (hlo0 : lo = none → vlo = none)
    (hhi : ∀ d, hi = some (some d) → ∃ v, vhi = some v ∧ RepD w S E d v) (hhi0 : hi = none → vhi = none)
    (hb : qbounds len lo hi = some (l, h)) : l ≤ h ∧ h ≤ len ∧ (Instr.sliceBounds isS len cap vlo vhi none).run P w = .ok (l, h, cap) w := by
  unfold qbounds at hb
  split at hb
  · rw [hhi0 rfl]
    split at hb
    · cases hb
      rw [hlo0 rfl]
      exact ⟨Nat.zero_le _, Nat.le_refl _, by simp [Instr.sliceBounds]⟩
    · rename_i d
      obtain ⟨v, rfl, hd⟩ := hlo d rfl
      split at hb
      · rename_i n hn
        obtain ⟨k, rfl, _⟩ := int_inv hd hn
        split at hb
        · rename_i hc
          cases hb
          exact ⟨by omega, Nat.le_refl _, by simp [Instr.sliceBounds, Instr.sliceBound, asIntOf, hc]⟩
        · cases hb
      · cases hb
    · cases hb
  · rename_i d
    obtain ⟨v, rfl, hd⟩ := hhi d rfl
    split at hb
    · rename_i n hn
      obtain ⟨k, rfl, _⟩ := int_inv hd hn
      split at hb
      · rename_i hc
        have hc' : 0 ≤ n ∧ n ≤ (cap : Int) := ⟨hc.1, by omega⟩
        split at hb
        · cases hb
          rw [hlo0 rfl]
          exact ⟨Nat.zero_le _, by omega, by simp [Instr.sliceBounds, Instr.sliceBound, asIntOf, hc']⟩
        · rename_i d2
          obtain ⟨v2, rfl, hd2⟩ := hlo d2 rfl
          split at hb
          · rename_i n2 hn2
            obtain ⟨k2, rfl, _⟩ := int_inv hd2 hn2
            split at hb
            · rename_i hc2
              cases hb
              exact ⟨by omega, by omega, by simp [Instr.sliceBounds, Instr.sliceBound, asIntOf, hc', hc2.1]; omega⟩
            · cases hb
          · cases hb
        · cases hb
      · cases hb
    · cases hb
  · cases hb
end
end Go.Dl
