/- 'Dl', part C: operations that change nothing but a slot. -/
import Derived.Test.YtdhlelineoggkaaDlB
import Derived.Laws.Entries
import Derived.Laws.Cells
import Derived.ChangeKeysEq
namespace Go.Dl
open Go.RowKit

theorem wrap_inR (k : IntKind) (n : Int) : inR k (k.wrap n) = true := by
  cases k <;> simp only [inR, IntKind.wrap, IntKind.bits, IntKind.signed, Bool.true_and, Bool.false_and, Bool.false_eq_true, if_false, Bool.and_eq_true, decide_eq_true_eq] <;>
    (try split) <;> (simp at *; omega)

theorem wrap_id (k : IntKind) (n : Int) (h : inR k n = true) : k.wrap n = n := by
  cases k <;> simp only [inR, IntKind.wrap, IntKind.bits, IntKind.signed, Bool.true_and, Bool.false_and, Bool.false_eq_true, if_false, Bool.and_eq_true, decide_eq_true_eq] at * <;>
    (try split) <;> (simp at *; omega)

theorem wrap_i64 (n : Int) (h0 : -9223372036854775808 ≤ n) (h1 : n ≤ 9223372036854775807) : IntKind.wrap .i64 n = n :=
  wrap_id .i64 n (by simp [inR, h0, h1])
theorem wrap_u8 (n : Int) (h0 : 0 ≤ n) (h1 : n ≤ 255) : IntKind.wrap .u8 n = n := wrap_id .u8 n (by simp [inR, h0, h1])
theorem wrap_u64 (n : Int) (h0 : 0 ≤ n) (h1 : n ≤ 18446744073709551615) : IntKind.wrap .u64 n = n := wrap_id .u64 n (by simp [inR, h0, h1])
theorem wrap_u32 (n : Int) (h0 : 0 ≤ n) (h1 : n ≤ 4294967295) : IntKind.wrap .u32 n = n := wrap_id .u32 n (by simp [inR, h0, h1])
theorem wrap_i32 (n : Int) (h0 : -2147483648 ≤ n) (h1 : n ≤ 2147483647) : IntKind.wrap .i32 n = n := wrap_id .i32 n (by simp [inR, h0, h1])

/-- A type's kind, as far as it is asked. -/
inductive TK where
  | bool | int (k : IntKind) | float | str | ptr (e : TypeId) | slice (e : TypeId) | arr (n : Nat) (e : TypeId)
  | st (fs : List (TypeId × Nat)) | map (k e : TypeId) | func | other

def TK.of : TypeDesc → TK
  | .bool => .bool
  | .int k => .int k
  | .float _ => .float
  | .string => .str
  | .pointer e => .ptr e
  | .slice e => .slice e
  | .array n e => .arr n e
  | .struct fs => .st (fs.toList.map fun f => (f.type, f.offset))
  | .map k e => .map k e
  | .func .. => .func
  | _ => .other

def tk (P : Program) (t : TypeId) : Option TK := (P.underlying t).map TK.of
def tsz (P : Program) (t : TypeId) : Nat := P.cellsOf t
def TK.agg : TK → Bool
  | .st _ => true
  | .arr _ _ => true
  | _ => false

theorem tk_some {P : Program} {t : TypeId} {k : TK} (h : tk P t = some k) : ∃ d, P.underlying t = some d ∧ TK.of d = k := by
  unfold tk at h; cases hu : P.underlying t with
  | none => rw [hu] at h; cases h
  | some d => rw [hu] at h; exact ⟨d, rfl, by simpa using h⟩

theorem tk_info {P : Program} {t : TypeId} {k : TK} (h : tk P t = some k) : ∃ i, P.info? t = some i := by
  obtain ⟨d, hu, _⟩ := tk_some h
  unfold Program.underlying at hu
  cases hi : P.info? t with
  | none => rw [hi] at hu; cases hu
  | some i => exact ⟨i, rfl⟩

theorem run_und {P : Program} {t : TypeId} {d : TypeDesc} (h : P.underlying t = some d) (w : World) : (underlying t).run P w = .ok d w := run_underlying h w

theorem run_tsz {P : Program} {t : TypeId} {k : TK} (h : tk P t = some k) (w : World) : (sizeOf t).run P w = .ok (tsz P t) w := by
  obtain ⟨i, hi⟩ := tk_info h
  exact run_sizeOf w hi

theorem tsz_info {P : Program} {t : TypeId} (h : tsz P t ≠ 0) : ∃ i, P.info? t = some i := by
  unfold tsz Program.cellsOf at h
  cases hi : P.info? t with
  | none => rw [hi] at h; simp at h
  | some i => exact ⟨i, rfl⟩

theorem run_tsz' {P : Program} {t : TypeId} (h : tsz P t ≠ 0) (w : World) : (sizeOf t).run P w = .ok (tsz P t) w := by
  obtain ⟨i, hi⟩ := tsz_info h
  exact run_sizeOf w hi

theorem run_agg {P : Program} {t : TypeId} {k : TK} (h : tk P t = some k) (w : World) : (isAgg t).run P w = .ok k.agg w := by
  obtain ⟨d, hu, rfl⟩ := tk_some h
  unfold isAgg
  rw [Sem.run_bind, run_und hu]
  cases d <;> rfl

/-- A constant's cell, its slot's content. -/
def constC : Value → C
  | .slice _ _ _ => .s true 0 []
  | v => .v v
def constD : Value → D
  | .agg cs => .agg (cs.toList.map constC)
  | v => .c (constC v)
def scB : Value → Bool
  | .bool _ => true
  | .int k n => inR k n
  | .float _ _ => true
  | .string s => decide (s.data.size ≤ maxStr)
  | .pointer none => true
  | .map none => true
  | .nilFunc => true
  | .nilIface => true
  | .slice none 0 0 => true
  | _ => false
def constOK : Value → Bool
  | .agg cs => cs.toList.all scB
  | v => scB v

theorem constC_rep {w : World} {S : Nat → Prop} {E : Env} {dat : Bool} {v : Value} (h : scB v = true) : Rep w S E (.k dat (constC v) v) [] := by
  cases v with
  | bool b => exact .v trivial
  | int k n => exact .v h
  | float k b => exact .v trivial
  | string s => exact .v (show s.data.size ≤ maxStr from of_decide_eq_true h)
  | pointer a => cases a with
    | none => exact .v trivial
    | some a => simp [scB] at h
  | map r => cases r with
    | none => exact .v trivial
    | some a => simp [scB] at h
  | nilFunc => exact .v trivial
  | nilIface => exact .v trivial
  | slice a n c =>
    unfold scB at h
    split at h <;> simp_all
    exact .nilO
  | _ => simp [scB] at h

theorem constCs_rep {w : World} {S : Nat → Prop} {E : Env} : ∀ {l : List Value}, l.all scB = true → Rep w S E (.vs (l.map constC) l) []
  | [], _ => .vnil
  | v :: l, h => by
    simp only [List.all_cons, Bool.and_eq_true] at h
    exact .vcons (constC_rep h.1) (constCs_rep h.2)

theorem constD_rep {w : World} {S : Nat → Prop} {E : Env} {v : Value} (h : constOK v = true) : RepD w S E (constD v) v := by
  cases v <;> first
    | exact .agg (constCs_rep h)
    | exact .c (constC_rep h)

/-- What an operand is. -/
def St.ev (A : St) : Operand → Option D
  | .tmp t => A.sl[t]?
  | .const v => some (constD v)
  | .func f => some (.c (.f f []))
  | .global _ => none

def opdOK : Operand → Bool
  | .const v => constOK v
  | _ => true

theorem ev_rep {g : G} {S : Nat → Prop} {E : Env} {F : List (List Nat)} {A : St} {a : Act} {w : World} (h : Rel g S E F A a w) {x : Operand} {d : D}
    (hx : opdOK x = true) (he : A.ev x = some d) : RepD w S E d (a.eval x) := by
  cases x with
  | tmp t => exact h.sl t d he
  | const v => simp only [St.ev, Option.some.injEq] at he; subst he; exact constD_rep hx
  | func f =>
    simp only [St.ev, Option.some.injEq] at he; subst he
    exact .c (.f (.inl rfl) .vnil)
  | global g => simp [St.ev] at he

/-- Cells that may be copied. -/
def C.cp : C → Bool
  | .s true _ _ => false
  | .o _ => false
  | _ => true

theorem cp_fp {w : World} {S : Nat → Prop} {E : Env} {dat : Bool} {c : C} {v : Value} {fp : List Nat} (h : Rep w S E (.k dat c v) fp) (hc : c.cp = true) : fp = [] := by
  cases h <;> first | rfl | simp [C.cp] at hc

theorem Rep.undat {w : World} {S : Nat → Prop} {E : Env} {dat : Bool} {c : C} {v : Value} {fp : List Nat} (h : Rep w S E (.k dat c v) fp) : Rep w S E (.k false c v) fp := by
  cases h with
  | v h => exact .v h
  | nilI => exact .nilI
  | nilO => exact .nilO
  | imm hS hc hl hr => exact .imm hS hc hl hr
  | own hz hb hc hl hr => exact .own hz hb hc hl hr
  | optr hb hr => exact .optr hb hr
  | x => exact .x
  | m => exact .m
  | h hr hh => exact .h hr hh
  | p hr hh => exact .p hr hh
  | f hc hr => exact .f (.inl rfl) hr

/-- Cells in memory: one of them. -/
theorem Rep.at {w : World} {S : Nat → Prop} {E : Env} {dat : Bool} {cs : List C} {b off : Nat} {fp : List Nat} (h : Rep w S E (.l dat cs b off) fp) :
    ∀ (j : Nat) (c : C), cs[j]? = some c → ∃ v fp', w.cell? ⟨b, off + j, none⟩ = some v ∧ Rep w S E (.k dat c v) fp' ∧ ∀ x ∈ fp', x ∈ fp := by
  generalize hit : It.l dat cs b off = it at h
  induction h generalizing cs off with
  | lnil => cases hit; intro j c h; simp at h
  | lcons hv hc hr ih1 ih2 =>
    cases hit
    intro j c h
    cases j with
    | zero => simp at h; subst h; exact ⟨_, _, hv, hc, fun x hx => List.mem_append_left _ hx⟩
    | succ j =>
      obtain ⟨v, fp', h1, h2, h3⟩ := ih2 rfl j c (by simpa using h)
      exact ⟨v, fp', by rw [Nat.add_right_comm, Nat.add_assoc] at h1; exact h1, h2, fun x hx => List.mem_append_right _ (h3 x hx)⟩
  | _ => cases hit

/-- Cells in memory of copyable cells: as a row of values. -/
theorem Rep.load {w : World} {S : Nat → Prop} {E : Env} {dat : Bool} {b off : Nat} : ∀ {cs : List C} {fp : List Nat}, Rep w S E (.l dat cs b off) fp → cs.all C.cp = true →
    ∃ vs : List Value, vs.length = cs.length ∧ (∀ (j : Nat) (v : Value), vs[j]? = some v → w.cell? ⟨b, off + j, none⟩ = some v) ∧ Rep w S E (.vs cs vs) [] := by
  intro cs
  induction cs generalizing off with
  | nil => intro fp _ _; exact ⟨[], rfl, by simp, .vnil⟩
  | cons c cs ih =>
    intro fp h hcp
    simp only [List.all_cons, Bool.and_eq_true] at hcp
    cases h with
    | lcons hv hc hr =>
      obtain ⟨vs, h1, h2, h3⟩ := ih hr hcp.2
      have := cp_fp hc hcp.1
      subst this
      refine ⟨_ :: vs, by simp [h1], ?_, .vcons hc.undat h3⟩
      intro j v h
      cases j with
      | zero => simp at h; subst h; exact hv
      | succ j => rw [show off + (j + 1) = off + 1 + j by omega]; exact h2 j v (by simpa using h)

theorem Rep.append {w : World} {S : Nat → Prop} {E : Env} {dat : Bool} {b : Nat} : ∀ {xs ys : List C} {off : Nat} {fp : List Nat}, Rep w S E (.l dat (xs ++ ys) b off) fp →
    ∃ f1 f2, fp = f1 ++ f2 ∧ Rep w S E (.l dat xs b off) f1 ∧ Rep w S E (.l dat ys b (off + xs.length)) f2 := by
  intro xs
  induction xs with
  | nil => intro ys off fp h; exact ⟨[], fp, rfl, .lnil, by simpa using h⟩
  | cons y xs ih =>
    intro ys off fp h
    cases h with
    | lcons hv hc hr =>
      obtain ⟨f1, f2, rfl, h1, h2⟩ := ih hr
      exact ⟨_ ++ f1, f2, by simp, .lcons hv hc h1, by rw [List.length_cons, show off + (xs.length + 1) = off + 1 + xs.length by omega]; exact h2⟩

theorem Rep.join {w : World} {S : Nat → Prop} {E : Env} {dat : Bool} {b : Nat} : ∀ {xs ys : List C} {off : Nat} {f1 f2 : List Nat}, Rep w S E (.l dat xs b off) f1 →
    Rep w S E (.l dat ys b (off + xs.length)) f2 → Rep w S E (.l dat (xs ++ ys) b off) (f1 ++ f2) := by
  intro xs
  induction xs with
  | nil => intro ys off f1 f2 h1 h2; cases h1; simpa using h2
  | cons y xs ih =>
    intro ys off f1 f2 h1 h2
    cases h1 with
    | lcons hv hc hr =>
      rw [List.append_assoc]
      exact .lcons hv hc (ih hr (by rw [List.length_cons, show off + (xs.length + 1) = off + 1 + xs.length by omega] at h2; exact h2))

theorem flatten_split {es : Nat} : ∀ {rows : List (List C)} (_ : ∀ r ∈ rows, r.length = es) (i : Nat) (row : List C), rows[i]? = some row →
    ∃ xs ys, rows.flatten = xs ++ (row ++ ys) ∧ xs.length = i * es ∧ xs = (rows.take i).flatten ∧ ys = (rows.drop (i + 1)).flatten := by
  intro rows
  induction rows with
  | nil => intro _ i row h; simp at h
  | cons r rows ih =>
    intro hl i row h
    cases i with
    | zero => simp at h; subst h; exact ⟨[], rows.flatten, by simp, by simp, by simp, by simp⟩
    | succ i =>
      obtain ⟨xs, ys, h1, h2, h3, h4⟩ := ih (fun r hr => hl r (List.mem_cons_of_mem _ hr)) i row (by simpa using h)
      refine ⟨r ++ xs, ys, by simp [h1], ?_, by simp [h3], by simpa using h4⟩
      have := hl r (List.mem_cons_self ..)
      simp [h2, this, Nat.succ_mul]; omega

theorem flatten_len {es : Nat} : ∀ {rows : List (List C)} (_ : ∀ r ∈ rows, r.length = es), rows.flatten.length = rows.length * es := by
  intro rows
  induction rows with
  | nil => intro _; simp
  | cons r rows ih =>
    intro hl
    have := hl r (List.mem_cons_self ..)
    simp [ih (fun r hr => hl r (List.mem_cons_of_mem _ hr)), this, Nat.succ_mul]; omega

end Go.Dl
