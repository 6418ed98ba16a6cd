/- 'Dl', part Zc: states of which less is said; facts that a state holds; loops. -/
import Derived.Test.YtdhlelineoggkaaDlZb
namespace Go.Dl
open Go.RowKit

/-- The second says less. -/
inductive LeL : List D → List D → Prop
  | nil : LeL [] []
  | same {d l m} (h : LeL l m) : LeL (d :: l) (d :: m)
  | top {d l m} (h : LeL l m) : LeL (d :: l) (.top :: m)

def St.Le (A B : St) : Prop := LeL A.sl B.sl ∧ A.H = B.H

theorem LeL.len {l m : List D} (h : LeL l m) : l.length = m.length := by
  induction h <;> simp [*]

theorem LeL.get {l m : List D} (h : LeL l m) : ∀ (t : Nat) (e : D), m[t]? = some e → e = .top ∨ l[t]? = some e := by
  induction h with
  | nil => intro t e h; simp at h
  | same h ih =>
    intro t e he
    cases t with
    | zero => right; simpa using he
    | succ t => simpa using ih t e (by simpa using he)
  | top h ih =>
    intro t e he
    cases t with
    | zero => left; simp at he; exact he.symm
    | succ t => simpa using ih t e (by simpa using he)

theorem LeL.refl : ∀ l : List D, LeL l l
  | [] => .nil
  | _ :: l => .same (LeL.refl l)

theorem St.Le.refl (A : St) : A.Le A := ⟨LeL.refl _, rfl⟩

theorem Sat.le {g : G} {A B : St} {a : Act} {w : World} (h : Sat g A a w) (hl : A.Le B) : Sat g B a w := by
  obtain ⟨S, E, F, hr⟩ := h
  obtain ⟨sl, H⟩ := A
  obtain ⟨sl', H'⟩ := B
  obtain ⟨h1, h2⟩ := hl
  simp only at h1 h2
  subst h2
  refine ⟨S, E, F, { hr with len := ?_, sl := ?_ }⟩
  · rw [← hr.len]; exact h1.len.symm
  · intro t d hd
    rcases h1.get t d hd with rfl | h
    · exact .top
    · exact hr.sl t d h

section
variable {P : Program} {Φ : Fs}

theorem tri_le {c : Code} {A B : St} {Q : Exit → St → Prop} (hl : A.Le B) (h : Tri P c B Q) : Tri P c A Q := Tri.weak (fun _ _ _ hs => hs.le hl) h

/-- Of a state's data it may be taken that they fit. -/
def cellFit : C → Prop
  | .v x => Sc x
  | .s _ es rows => ∀ r ∈ rows, r.length = es
  | _ => True

theorem rep_fit {w : World} {S : Nat → Prop} {E : Env} {dat : Bool} {c : C} {v : Value} {fp : List Nat} (h : Rep w S E (.k dat c v) fp) : cellFit c := by
  cases h with
  | v h => exact h
  | nilI => intro r h; cases h
  | nilO => intro r h; cases h
  | imm _ _ hl _ => exact hl
  | own _ _ _ hl _ => exact hl
  | optr _ _ => trivial
  | x => trivial
  | m => trivial
  | h _ _ => trivial
  | p _ _ => trivial
  | f _ _ => trivial

theorem rep_fits {w : World} {S : Nat → Prop} {E : Env} {cs : List C} {vs : List Value} {fp : List Nat} (h : Rep w S E (.vs cs vs) fp) : ∀ c ∈ cs, cellFit c := by
  generalize hit : It.vs cs vs = it at h
  induction h generalizing cs vs with
  | vnil => cases hit; intro c hc; cases hc
  | vcons hc hr ih1 ih2 =>
    cases hit
    intro c' h
    rcases List.mem_cons.1 h with rfl | h
    · exact rep_fit hc
    · exact ih2 rfl c' h
  | _ => cases hit

theorem rep_fitl {w : World} {S : Nat → Prop} {E : Env} {dat : Bool} {cs : List C} {b off : Nat} {fp : List Nat} (h : Rep w S E (.l dat cs b off) fp) : ∀ c ∈ cs, cellFit c := by
  generalize hit : It.l dat cs b off = it at h
  induction h generalizing cs off with
  | lnil => cases hit; intro c hc; cases hc
  | lcons hv hc hr ih1 ih2 =>
    cases hit
    intro c' h
    rcases List.mem_cons.1 h with rfl | h
    · exact rep_fit hc
    · exact ih2 rfl c' h
  | _ => cases hit

def dFit : D → Prop
  | .c y => cellFit y
  | .agg xs => ∀ c ∈ xs, cellFit c
  | .q xs => ∀ c ∈ xs, cellFit c
  | _ => True

theorem tri_slot {c : Code} {A : St} {Q : Exit → St → Prop} (t : Nat) {d : D} (hd : A.sl[t]? = some d) (h : dFit d → Tri P c A Q) : Tri P c A Q := by
  intro g a w hs
  refine h ?_ g a w hs
  obtain ⟨S, E, F, hr⟩ := hs
  have := hr.sl t d hd
  generalize a.tmps.getD t undef = v at this
  cases this with
  | top => trivial
  | c h1 => exact rep_fit h1
  | agg h1 => exact rep_fits h1
  | q _ h1 => exact rep_fitl h1
  | t _ _ => trivial

theorem tri_root {c : Code} {A : St} {Q : Exit → St → Prop} (r : Nat) {R : Root} (hR : A.H[r]? = some (some R)) (h : (∀ row ∈ R.rows, row.length = R.es ∧ ∀ c ∈ row, cellFit c) → Tri P c A Q) : Tri P c A Q := by
  intro g a w hs
  refine h ?_ g a w hs
  obtain ⟨S, E, F, hr⟩ := hs
  obtain ⟨p, f, _, _, h3, h4, h5, h6, h7⟩ := hr.root r R hR
  intro row hrow
  refine ⟨h6 row hrow, fun c hc => ?_⟩
  cases hat : p.at? with
  | none => rw [hat] at h7; rw [h7.1] at hrow; cases hrow
  | some bo =>
    rw [hat] at h7
    obtain ⟨fr, _, _, h8⟩ := h7
    exact rep_fitl h8 c (List.mem_flatten.2 ⟨row, hrow, hc⟩)

theorem tri_loop_le {c : Code} {A B : St} {Q : Exit → St → Prop} (I : Nat → St → Prop) (n : Nat) (hl : A.Le B) (h0 : I n B)
    (round : ∀ n A, I n A → Tri P c A (thenQ (fun A' => ∃ m, m < n ∧ ∃ B', A'.Le B' ∧ I m B') Q)) : Tri P (.loop c) A Q := by
  refine tri_le hl (tri_loop (fun n A => ∃ B, A.Le B ∧ I n B) n ⟨B, .refl _, h0⟩ ?_)
  rintro n A ⟨B, h1, h2⟩
  exact tri_le h1 (round n B h2)

end

/-- Reading decoders. -/
def C.num? : C → Option Int
  | .v (.int .i64 n) => some n
  | _ => none
def C.bool? : C → Option Bool
  | .v (.bool b) => some b
  | _ => none
def C.str? : C → Option ByteArray
  | .v (.string str) => some str
  | _ => none
def cI (n : Int) : C := .v (.int .i64 n)
def cB (b : Bool) : C := .v (.bool b)
def cS (s : ByteArray) : C := .v (.string s)
def dI (n : Int) : D := .c (.v (.int .i64 n))
def dB (b : Bool) : D := .c (.v (.bool b))
def dS (s : ByteArray) : D := .c (.v (.string s))

end Go.Dl
