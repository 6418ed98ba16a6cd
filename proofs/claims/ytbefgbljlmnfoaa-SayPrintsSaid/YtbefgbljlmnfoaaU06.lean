/- 'Dl', part Zf: what reads as a datum, by value; 'Dl', part Zg: from a function's contract to the row of a law; 'Dl', part Zh: a nil slice in a slot, taken as a row of the call's own; 'Dl', part Zj: regions in which an operation may leave one of several; maps that are made; 'Dl': the types of this program, as far as they are asked; What the walks share: no function known; numbers and texts as cells; 'Dl', part Zl: a call that is handed a function with what it captured; own rows that stay from then on; an own slice cut short; 'Dl', part Zm: regions of open order that load from one root and store into another; The walks of the lexer's small functions; The walks of strings.IndexByte; The walks of the lexer's run and blanks. -/
import Derived.Test.YtbefgbljlmnfoaaU05
set_option linter.all false
namespace Go.Dl
open Go.RowKit
mutual
/-- The cells of a value of a type. -/
inductive Ty (P : Program) : TypeId → List C → Prop
 | bool {t b} (h : tk P t = some .bool) : Ty P t [.v (.bool b)]
 | int {t k n} (h : tk P t = some (.int k)) (hn : inR k n = true) : Ty P t [.v (.int k n)]
 | str {t s} (h : tk P t = some .str) (hs : s.size ≤ maxStr) : Ty P t [.v (.string s)]
 | slice {t e} {rows : List (List C)} (h : tk P t = some (.slice e)) (hr : ∀ r, r ∈ rows → Ty P e r) (hl : ∀ r, r ∈ rows → r.length = tsz P e) (hn : rows.length ≤ maxStr) : Ty P t [.s false (tsz P e) rows]
 | arr {t n e} {rows : List (List C)} (h : tk P t = some (.arr n e)) (hn : rows.length = n) (hr : ∀ r, r ∈ rows → Ty P e r) : Ty P t rows.flatten
 | st {t fs} {css : List (List C)} (h : tk P t = some (.st fs)) (hf : TyL P fs css) : Ty P t css.flatten
inductive TyL (P : Program) : List (TypeId × Nat) → List (List C) → Prop
 | nil : TyL P [] []
 | cons {x xs c cs} (h : Ty P x.1 c) (hr : TyL P xs cs) : TyL P (x :: xs) (c :: cs)
end
def contig (P : Program) : Nat → List (TypeId × Nat) → Option Nat
 | off, [] => some off
 | off, (t, o) :: fs => if o = off then contig P (off + tsz P t) fs else none
/-- Types of numbers, texts, slices, arrays and structs of such. -/
def plainT (P : Program) : Nat → TypeId → Bool
 | 0, _ => false
 | f + 1, t => match tk P t with
  | some .bool => true
  | some (.int _) => true
  | some .str => true
  | some (.slice e) => tsz P e != 0 && plainT P f e
  | some (.arr n e) => tsz P t == n * tsz P e && plainT P f e
  | some (.st fs) => contig P 0 fs == some (tsz P t) && fs.all fun x => plainT P f x.1
  | _ => false
def Inside (w : World) : Nat → Prop := fun b => b < w.heap.size
section
variable {P : Program} {w : World} {H : Type} {enc : TypeId × Value → H} {sp : Nat → Bool} {held : Bool}
theorem vs_join {S : Nat → Prop} {E : Env} : ∀ {a b : List C} {x y : List Value}, Rep w S E (.vs a x) [] → Rep w S E (.vs b y) [] → Rep w S E (.vs (a ++ b) (x ++ y)) [] := by
 intro a
 induction a with
 | nil => intro b x y h1 h2; cases h1; exact h2
 | cons c a ih =>
  intro b x y h1 h2
  generalize hfp : ([] : List Nat) = fp at h1
  cases h1 with
  | vcons hc hr =>
   rename_i v vs f1 f2
   have := List.append_eq_nil_iff.1 hfp.symm
   obtain ⟨rfl, rfl⟩ := this
   exact .vcons (f1 := []) (f2 := []) hc (ih hr h2)
theorem cell_lt {a : Addr} {v : Value} (h : w.cell? a = some v) : a.spot = none ∧ a.block < w.heap.size := by
 have hs := World.cell?_spot h
 refine ⟨hs, ?_⟩
 rcases Nat.lt_or_ge a.block w.heap.size with h' | h'
 · exact h'
 · simp [World.cell?, Array.getElem?_eq_none h'] at h
theorem cells_get {base : Nat} {a : Addr} {n : Nat} {vs : List Value} (h : w.cells? base a n = some vs) : vs.length = n ∧ ∀ (j : Nat) (v : Value), vs[j]? = some v → w.cell? (a.add j) = some v := by
 unfold World.cells? at h
 split at h
 · have hl := mapM_some_length h
   rw [List.length_range] at hl
   refine ⟨hl, fun j v hj => ?_⟩
   have hjn := lt_len hj
   have := mapM_some_get h j j (by rw [List.getElem?_range (by omega)])
   rw [this, hj]
 · cases h
theorem mapM_all {α β : Type} {f : α → Option β} {l : List α} {r : List β} (h : l.mapM f = some r) : ∀ x ∈ l, ∃ y, f x = some y := by
 intro x hx
 obtain ⟨i, hi⟩ := List.getElem?_of_mem hx
 have h1 := mapM_some_get h i x hi
 have h2 := mapM_some_length h
 have h3 := lt_len hi
 exact ⟨r[i]'(by omega), by rw [h1]; exact List.getElem?_eq_getElem _⟩
section
variable {fuel : Nat} {t : TypeId} {vs : List Value} {x : DataW H × List MemPlace}
theorem trod_bool (hu : P.underlying t = some .bool) (h : DataW.trod enc P w 0 sp held (fuel + 1) t vs = some x) : ∃ b, vs = [.bool b] := by
 unfold DataW.trod at h
 rw [hu] at h
 split at h <;> simp_all
theorem trod_int {k : IntKind} (hu : P.underlying t = some (.int k)) (h : DataW.trod enc P w 0 sp held (fuel + 1) t vs = some x) : ∃ n, vs = [.int k n] ∧ (Lit.int k n).wf = true := by
 unfold DataW.trod at h
 rw [hu] at h
 split at h <;> simp_all
theorem trod_str (hu : P.underlying t = some .string) (h : DataW.trod enc P w 0 sp held (fuel + 1) t vs = some x) : ∃ s, vs = [.string s] ∧ s.size ≤ maxLen := by
 unfold DataW.trod at h
 rw [hu] at h
 split at h <;> simp_all
theorem trod_slice {e : TypeId} (hu : P.underlying t = some (.slice e)) (h : DataW.trod enc P w 0 sp held (fuel + 1) t vs = some x) : vs = [.slice none 0 0] ∨
  ∃ a len cap, vs = [.slice (some a) len cap] ∧ len ≤ cap ∧ cap ≤ maxLen ∧ ∀ i, i < len → ∃ y, (w.cells? 0 (a.add (i * P.cellsOf e)) (P.cellsOf e)).bind (DataW.trod enc P w 0 sp held fuel e) = some y := by
 unfold DataW.trod at h
 rw [hu] at h
 split at h <;> try (first | (simp_all; done) | cases h)
 rename_i e' a len cap heq
 cases heq
 right
 simp only at h
 split at h
 · rename_i hc
   refine ⟨a, len, cap, rfl, hc.2.1, hc.2.2, fun i hi => ?_⟩
   cases hm : (List.range len).mapM fun i => (w.cells? 0 (a.add (i * P.cellsOf e)) (P.cellsOf e)).bind (DataW.trod enc P w 0 sp held fuel e) with
   | none => rw [hm] at h; cases h
   | some r => exact mapM_all hm i (List.mem_range.2 hi)
 · cases h
theorem trod_arr {n : Nat} {e : TypeId} (hu : P.underlying t = some (.array n e)) (h : DataW.trod enc P w 0 sp held (fuel + 1) t vs = some x) : ∀ i, i < n →
  ∃ y, DataW.trod enc P w 0 sp held fuel e ((vs.drop (i * P.cellsOf e)).take (P.cellsOf e)) = some y := by
 unfold DataW.trod at h
 rw [hu] at h
 simp only at h
 split at h
 · intro i hi
   cases hm : (List.range n).mapM fun i => DataW.trod enc P w 0 sp held fuel e ((vs.drop (i * P.cellsOf e)).take (P.cellsOf e)) with
   | none => rw [hm] at h; cases h
   | some r => exact mapM_all hm i (List.mem_range.2 hi)
 · cases h
theorem trod_st {fs : Array Field} (hu : P.underlying t = some (.struct fs)) (h : DataW.trod enc P w 0 sp held (fuel + 1) t vs = some x) : ∀ f ∈ fs.toList,
  ∃ y, DataW.trod enc P w 0 sp held fuel f.type ((vs.drop f.offset).take (P.cellsOf f.type)) = some y := by
 unfold DataW.trod at h
 rw [hu] at h
 simp only at h
 split at h
 · intro f hf
   cases hm : fs.toList.mapM fun f => DataW.trod enc P w 0 sp held fuel f.type ((vs.drop f.offset).take (P.cellsOf f.type)) with
   | none => rw [hm] at h; cases h
   | some r => exact mapM_all hm f hf
 · cases h
end
theorem wf_inR {k : IntKind} {n : Int} (h : (Lit.int k n).wf = true) : inR k n = true := by
 cases k <;> simpa [Lit.wf, IntKind.min, IntKind.max, IntKind.signed, IntKind.bits, inR] using h
theorem choose_list {α : Type} {R : Nat → α → Prop} : ∀ n : Nat, (∀ i, i < n → ∃ c, R i c) → ∃ l : List α, l.length = n ∧ ∀ (i : Nat) (c : α), l[i]? = some c → R i c
 | 0, _ => ⟨[], rfl, by simp⟩
 | n + 1, h => by
  obtain ⟨l, h1, h2⟩ := choose_list n fun i hi => h i (by omega)
  obtain ⟨c, hc⟩ := h n (by omega)
  refine ⟨l ++ [c], by simp [h1], fun i c' hi => ?_⟩
  by_cases hil : i < l.length
  · rw [List.getElem?_append_left hil] at hi; exact h2 i c' hi
  · rw [List.getElem?_append_right (by omega)] at hi
    have : i - l.length = 0 := by
     have := lt_len hi
     simp at this; omega
    rw [this] at hi
    cases hi
    rw [show i = n by omega]; exact hc
theorem rows_l {S : Nat → Prop} {E : Env} {b es : Nat} : ∀ (rows : List (List C)) (off : Nat), (∀ (i : Nat) (c : List C), rows[i]? = some c → c.length = es ∧ Rep w S E (.l true c b (off + i * es)) []) → Rep w S E (.l true rows.flatten b off) []
 | [], off, _ => .lnil
 | c :: rows, off, h => by
  obtain ⟨h1, h2⟩ := h 0 c rfl
  rw [Nat.zero_mul, Nat.add_zero] at h2
  have := rows_l rows (off + es) fun i c hc => by
   have := h (i + 1) c (by simpa using hc)
   rw [Nat.succ_mul] at this
   rwa [show off + es + i * es = off + (i * es + es) by omega]
  rw [← h1] at this
  exact h2.join this
theorem rows_vs {S : Nat → Prop} {E : Env} {es : Nat} : ∀ (rows : List (List C)) (vs : List Value), (∀ (i : Nat) (c : List C), rows[i]? = some c → Rep w S E (.vs c ((vs.drop (i * es)).take es)) []) → vs.length = rows.length * es → Rep w S E (.vs rows.flatten vs) []
 | [], vs, _, hl => by
  simp at hl
  subst hl
  exact .vnil
 | c :: rows, vs, h, hl => by
  have h0 := h 0 c rfl
  rw [Nat.zero_mul, List.drop_zero] at h0
  have := rows_vs rows (vs.drop es) (fun i c hc => by
   have := h (i + 1) c (by simpa using hc)
   rw [Nat.succ_mul] at this
   rw [List.drop_drop, show es + i * es = i * es + es by omega]
   exact this) (by rw [List.length_drop, hl, List.length_cons, Nat.succ_mul]; omega)
  have hj := vs_join h0 this
  rw [List.take_append_drop] at hj
  exact hj
/-- What is read as a datum of such a type has a reading by value. -/
theorem rep_trod : ∀ (fuel pf : Nat) (t : TypeId) (vs : List Value) (x : DataW H × List MemPlace), DataW.trod enc P w 0 sp held fuel t vs = some x → plainT P pf t = true → vs.length = tsz P t →
  ∃ cs, Rep w (Inside w) [] (.vs cs vs) [] ∧ cs.length = tsz P t ∧ cs.all C.dat = true ∧ Ty P t cs := by
 intro fuel
 induction fuel with
 | zero => intro pf t vs x h; cases h
 | succ fuel ih =>
  intro pf t vs x h hp hlen
  cases pf with
  | zero => cases hp
  | succ pf =>
   unfold plainT at hp
   split at hp
   · rename_i hk
     obtain ⟨b, rfl⟩ := trod_bool (tk_bool hk) h
     exact ⟨[.v (.bool b)], .vcons (f1 := []) (f2 := []) (.v trivial) .vnil, hlen, rfl, .bool hk⟩
   · rename_i k hk
     obtain ⟨n, rfl, hn⟩ := trod_int (tk_int hk) h
     exact ⟨[.v (.int k n)], .vcons (f1 := []) (f2 := []) (.v (wf_inR hn)) .vnil, hlen, rfl, .int hk (wf_inR hn)⟩
   · rename_i hk
     obtain ⟨s, rfl, hs⟩ := trod_str (tk_str hk) h
     exact ⟨[.v (.string s)], .vcons (f1 := []) (f2 := []) (.v hs) .vnil, hlen, rfl, .str hk hs⟩
   · rename_i e hk
     rw [Bool.and_eq_true, bne_iff_ne] at hp
     obtain ⟨hz, hpe⟩ := hp
     rcases trod_slice (tk_slice hk) h with rfl | ⟨a, len, cap, rfl, hlc, hcm, hel⟩
     · exact ⟨[.s false (tsz P e) []], .vcons (f1 := []) (f2 := []) .nilI .vnil, hlen, rfl, .slice hk (by simp) (by simp) (by simp)⟩
     · by_cases hl0 : len = 0
       · subst hl0
         exact ⟨[.s false (tsz P e) []], .vcons (f1 := []) (f2 := []) .nilI .vnil, hlen, rfl, .slice hk (by simp) (by simp) (by simp)⟩
       · have key : ∀ i, i < len → ∃ c : List C, c.length = tsz P e ∧ c.all C.dat = true ∧ Ty P e c ∧ ∃ cv : List Value, Rep w (Inside w) [] (.vs c cv) [] ∧ ∀ (j : Nat) (v : Value), cv[j]? = some v → w.cell? ((a.add (i * tsz P e)).add j) = some v := by
          intro i hi
          obtain ⟨y, hy⟩ := hel i hi
          rw [Option.bind_eq_some_iff] at hy
          obtain ⟨cv, h1, h2⟩ := hy
          obtain ⟨k1, k2⟩ := cells_get h1
          obtain ⟨c, q1, q2, q3, q4⟩ := ih pf e cv y h2 hpe k1
          exact ⟨c, q2, q3, q4, cv, q1, k2⟩
         obtain ⟨rows, r1, r2⟩ := choose_list len key
         -- where it lies
         have hfirst : ∃ b off, a = ⟨b, off, none⟩ ∧ b < w.heap.size := by
          obtain ⟨c, c1, _, _, cv, c4, c5⟩ := key 0 (by omega)
          have := vs_len c4
          have hv : ∃ v, cv[0]? = some v := ⟨cv[0]'(by omega), List.getElem?_eq_getElem _⟩
          obtain ⟨v, hv⟩ := hv
          obtain ⟨e1, e2⟩ := cell_lt (c5 0 v hv)
          obtain ⟨b, off, spot⟩ := a
          have : spot = none := by simpa [Addr.add] using e1
          subst this
          rw [addr_add, addr_add] at e2
          exact ⟨b, off, rfl, e2⟩
         obtain ⟨b, off, rfl, hb⟩ := hfirst
         have hrl : ∀ r ∈ rows, r.length = tsz P e := by
          intro r hr
          obtain ⟨i, hi⟩ := List.getElem?_of_mem hr
          exact (r2 i r hi).1
         have hrep : Rep w (Inside w) [] (.l true rows.flatten b off) [] := rows_l rows off fun i c hc => by
          obtain ⟨q1, q2, _, cv, q4, q5⟩ := r2 i c hc
          refine ⟨q1, rep_new q4 (fun _ => q2) fun j v hj => ?_⟩
          have := q5 j v hj
          rw [addr_add, addr_add] at this
          exact this
         subst r1
         refine ⟨[.s false (tsz P e) rows], .vcons (f1 := []) (f2 := []) (.imm hb hlc hrl hrep) .vnil, hlen, rfl, .slice hk ?_ hrl ?_⟩
         · intro r hr
           obtain ⟨i, hi⟩ := List.getElem?_of_mem hr
           exact (r2 i r hi).2.2.1
         · have : maxLen = maxStr := rfl
           omega
   · rename_i n e hk
     rw [Bool.and_eq_true, beq_iff_eq] at hp
     obtain ⟨hz, hpe⟩ := hp
     have hel := trod_arr (tk_arr hk) h
     have key : ∀ i, i < n → ∃ c : List C, c.length = tsz P e ∧ c.all C.dat = true ∧ Ty P e c ∧ Rep w (Inside w) [] (.vs c ((vs.drop (i * tsz P e)).take (tsz P e))) [] := by
      intro i hi
      obtain ⟨y, hy⟩ := hel i hi
      have hle : (i + 1) * tsz P e ≤ n * tsz P e := Nat.mul_le_mul_right _ hi
      rw [Nat.succ_mul] at hle
      obtain ⟨c, q1, q2, q3, q4⟩ := ih pf e _ y hy hpe (by rw [List.length_take, List.length_drop, hlen, hz]; exact Nat.min_eq_left (by unfold tsz at *; omega))
      exact ⟨c, q2, q3, q4, q1⟩
     obtain ⟨rows, r1, r2⟩ := choose_list n key
     have hrep := rows_vs rows vs (fun i c hc => (r2 i c hc).2.2.2) (by rw [hlen, hz, r1])
     refine ⟨rows.flatten, hrep, by rw [vs_len hrep, hlen], ?_, .arr hk r1 ?_⟩
     · rw [List.all_eq_true]
       intro c hc
       obtain ⟨r, h1, h2⟩ := List.mem_flatten.1 hc
       obtain ⟨i, hi⟩ := List.getElem?_of_mem h1
       exact List.all_eq_true.1 (r2 i r hi).2.1 c h2
     · intro r hr
       obtain ⟨i, hi⟩ := List.getElem?_of_mem hr
       exact (r2 i r hi).2.2.1
   · rename_i fs hk
     rw [Bool.and_eq_true, beq_iff_eq, List.all_eq_true] at hp
     obtain ⟨hz, hpe⟩ := hp
     obtain ⟨d, hu, hd⟩ := tk_some hk
     cases d <;> simp only [TK.of, reduceCtorEq, TK.st.injEq] at hd
     rename_i fs'
     have hel := trod_st hu h
     have hel' : ∀ f ∈ fs, ∃ y, DataW.trod enc P w 0 sp held fuel f.1 ((vs.drop f.2).take (tsz P f.1)) = some y := by
      intro f hf
      rw [← hd] at hf
      obtain ⟨f', k1, rfl⟩ := List.mem_map.1 hf
      exact hel f' k1
     have go : ∀ (l : List (TypeId × Nat)) (off tot : Nat), contig P off l = some tot → tot ≤ vs.length → (∀ f ∈ l, f ∈ fs) →
       ∃ css : List (List C), TyL P l css ∧ Rep w (Inside w) [] (.vs css.flatten ((vs.drop off).take (tot - off))) [] ∧ css.flatten.all C.dat = true ∧ off ≤ tot := by
      intro l
      induction l with
      | nil =>
       intro off tot hc _ _
       cases hc
       exact ⟨[], .nil, by simp only [Nat.sub_self, Z20]; exact .vnil, rfl, Nat.le_refl _⟩
      | cons f l ihl =>
       intro off tot hc ht hm
       obtain ⟨ft, fo⟩ := f
       simp only [contig] at hc
       split at hc
       · rename_i ho
         subst ho
         obtain ⟨css, q1, q2, q3, q4⟩ := ihl _ tot hc ht fun f hf => hm f (List.mem_cons_of_mem _ hf)
         obtain ⟨y, hy⟩ := hel' _ (hm _ (List.mem_cons_self ..))
         obtain ⟨c, k1, k2, k3, k4⟩ := ih pf ft _ y hy (hpe _ (hm _ (List.mem_cons_self ..))) (by show ((vs.drop fo).take (tsz P ft)).length = tsz P ft; rw [List.length_take, List.length_drop]; exact Nat.min_eq_left (by omega))
         refine ⟨c :: css, .cons k4 q1, ?_, by rw [List.flatten_cons, List.all_append, k3, q3]; rfl, by omega⟩
         have := vs_join k1 q2
         have hsplit : (vs.drop fo).take (tot - fo) = (vs.drop fo).take (tsz P ft) ++ (vs.drop (fo + tsz P ft)).take (tot - (fo + tsz P ft)) := by
          rw [show tot - fo = tsz P ft + (tot - (fo + tsz P ft)) by omega, List.take_add, List.drop_drop]
         rw [hsplit]
         exact this
       · cases hc
     obtain ⟨css, q1, q2, q3, _⟩ := go fs 0 (tsz P t) hz (by omega) (fun f hf => hf)
     rw [List.drop_zero, Nat.sub_zero, ← hlen, List.take_length] at q2
     exact ⟨css.flatten, q2, by rw [vs_len q2, hlen], q3, .st hk q1⟩
   · cases hp
end
end Go.Dl

namespace Go.Dl
open Go.RowKit Go.ChangeShapes Go.WideShapes
/-- What an argument of a type is, by value. -/
def ArgTy (P : Program) (t : TypeId) (dd : D) : Prop :=
 match tk P t with
 | some k => if k.agg = true then ∃ cs, dd = .agg cs ∧ Ty P t cs else ∃ c, dd = .c c ∧ Ty P t [c]
 | none => False
def argOK (P : Program) (t : TypeId) : Bool :=
 plainT P 20 t && match tk P t with
 | some k => k.agg || tsz P t == 1
 | none => false
section
variable {P : Program} {W : World} {H : Type} {enc : TypeId × Value → H} {sp : Nat → Bool} {held : Bool}
theorem vs_single {S : Nat → Prop} {E : Env} {cs : List C} {v : Value} (h : Rep W S E (.vs cs [v]) []) : ∃ c, cs = [c] ∧ Rep W S E (.k false c v) [] := by
 generalize hfp : ([] : List Nat) = fp at h
 cases h with
 | vcons hc hr =>
  have := List.append_eq_nil_iff.1 hfp.symm
  obtain ⟨rfl, rfl⟩ := this
  cases hr
  exact ⟨_, rfl, hc⟩
theorem arg_trod {r : Reach} {b0 : Nat} {t : TypeId} {v : Value} {d : DataW H} {ps : List MemPlace} (hok : argOK P t = true) (hval : Value.okWide P W r b0 t v) (h : DataW.Trod enc P W 0 sp held t v d ps) :
  ∃ dd, RepD W (Inside W) [] dd v ∧ ArgTy P t dd := by
 obtain ⟨fuel, hf⟩ := h
 unfold argOK at hok
 rw [Bool.and_eq_true] at hok
 obtain ⟨hp, hk⟩ := hok
 unfold ArgTy
 have scal : ∀ k, tk P t = some k → k.agg = false → v.cells.toList = [v] → ∃ dd, RepD W (Inside W) [] dd v ∧ ∃ c, dd = .c c ∧ Ty P t [c] := by
  intro k h1 h2 h3
  rw [h1] at hk
  simp only [h2, Bool.false_or, beq_iff_eq] at hk
  rw [h3] at hf
  obtain ⟨cs, q1, q2, _, q4⟩ := rep_trod fuel 20 t [v] _ hf hp (by rw [hk]; rfl)
  obtain ⟨c, rfl, q5⟩ := vs_single q1
  exact ⟨.c c, .c q5, c, rfl, q4⟩
 have aggr : ∀ arr : Array Value, v = .agg arr → arr.size = tsz P t → ∃ dd, RepD W (Inside W) [] dd v ∧ ∃ cs, dd = .agg cs ∧ Ty P t cs := by
  rintro arr rfl hs
  obtain ⟨cs, q1, q2, _, q4⟩ := rep_trod fuel 20 t arr.toList _ hf hp (by simpa using hs)
  exact ⟨.agg cs, .agg q1, cs, rfl, q4⟩
 unfold plainT at hp
 split at hp
 · rename_i h1
   rw [h1]
   obtain ⟨b, rfl⟩ := okWide_bool (tk_bool h1) hval
   simpa [TK.agg] using scal _ h1 rfl rfl
 · rename_i k h1
   rw [h1]
   obtain ⟨n, rfl⟩ := okWide_int (tk_int h1) hval
   simpa [TK.agg] using scal _ h1 rfl rfl
 · rename_i h1
   rw [h1]
   obtain ⟨n, rfl⟩ := okWide_string (tk_str h1) hval
   simpa [TK.agg] using scal _ h1 rfl rfl
 · rename_i e h1
   rw [h1]
   obtain ⟨a, l, c, rfl⟩ := okWide_slice (tk_slice h1) hval
   simpa [TK.agg] using scal _ h1 rfl rfl
 · rename_i n e h1
   rw [h1]
   have hu := tk_arr h1
   unfold Value.okWide at hval
   rw [hu] at hval
   obtain ⟨arr, h2, h3, _⟩ := hval
   simpa [TK.agg] using aggr arr h2 h3
 · rename_i fs h1
   rw [h1]
   obtain ⟨dd, hu, hd⟩ := tk_some h1
   cases dd <;> simp only [TK.of, reduceCtorEq, TK.st.injEq] at hd
   unfold Value.okWide at hval
   rw [hu] at hval
   obtain ⟨arr, h2, h3, _⟩ := hval
   simpa [TK.agg] using aggr arr h2 h3
 · cases hp
theorem law_bool {k : FuncId} {F : List D → Option D} (hm : Meets P k (pureS F)) {vs : Array Value} {args : List D} {b : Bool} (hlen : args.length = vs.size)
  (hr : ∀ (i : Nat) (d : D), args[i]? = some d → RepD W (Inside W) [] d (vs.getD i undef)) (hF : F args = some (dB b)) :
  Calls P k vs W fun e W' => e = .returned (.bool b) ∧ Below W.heap.size W W' := by
 refine (hm args [] (fun d os => d = dB b ∧ os = []) ⟨rfl, _, hF, rfl, rfl⟩ W (Inside W) vs [] [] hlen hr ⟨rfl, rfl, by simp⟩ (by simp) (by simp) (fun _ h => h)).mono ?_
 rintro e W' ⟨v, d, os, rfl, ⟨rfl, rfl⟩, _, hl⟩
 obtain ⟨S', pls', fps', fpd, _, _, h3, _⟩ := hl.rest
 have hv : v = .bool b := by
  have h3 : Rep W' S' [] (.k false (.v (.bool b)) v) fpd := h3
  cases h3
  rfl
 subst hv
 exact ⟨rfl, hl.os, hl.tape, hl.output.1, hl.size, fun j hj => hl.keep j hj (by simp)⟩
end
end Go.Dl

namespace Go.Dl
open Go.RowKit
section
variable {P : Program} {g : G} {S : Nat → Prop} {E : Env} {F : List (List Nat)} {A : St} {a : Act} {w : World}
def nilA (A : St) (t es : Nat) : Option St :=
 match A.sl[t]? with
 | some (.c (.s true _ [])) => some ⟨A.sl.set t (.c (.h A.H.length 0 0)), A.H ++ [some ⟨true, es, []⟩]⟩
 | _ => none
theorem nil_sat {A' : St} {t es : Nat} (ho : nilA A t es = some A') (hs : Sat g A a w) : Sat g A' a w := by
 obtain ⟨S, E, F, hr⟩ := hs
 unfold nilA at ho
 split at ho
 · rename_i es0 ht
   cases ho
   have hv := hr.sl t _ ht
   generalize hval : a.tmps.getD t undef = v at hv
   have hn : ∃ ad, v = .slice ad 0 0 := by
    cases hv with
    | c h =>
     generalize hfp : ([] : List Nat) = fp at h
     cases h with
     | nilO => exact ⟨_, rfl⟩
     | own _ _ _ _ _ => cases hfp
   obtain ⟨ad, rfl⟩ := hn
   have h1 := hr.addRoot (R := ⟨true, es, []⟩) (p := ⟨none, es, 0, 0⟩) (f := []) ⟨rfl, rfl, Nat.le_refl _, by simp, rfl, rfl, rfl⟩ .nil (by simp)
   have h2 : RepD w S (E ++ [some ⟨none, es, 0, 0⟩]) (.c (.h A.H.length 0 0)) (.slice ad 0 0) := by
    refine .c (.h (by simp [hr.lE]) fun pl hpl => ?_)
    rw [← hr.lE, List.getElem?_append_right (Nat.le_refl _), Nat.sub_self] at hpl
    cases hpl
    exact ⟨Nat.le_refl _, ad, rfl⟩
   refine ⟨S, _, _, { h1 with len := by rw [List.length_set]; exact hr.len, sl := ?_ }⟩
   intro i d hd
   rw [List.getElem?_set] at hd
   split at hd
   · rename_i hti
     subst hti
     rw [if_pos (lt_len ht)] at hd
     cases hd
     rw [hval]; exact h2
   · exact h1.sl i d hd
 · cases ho
theorem tri_nil {code : Code} {Q : Exit → St → Prop} {A' : St} (t es : Nat) (ho : nilA A t es = some A') (h : Tri P code A' Q) : Tri P code A Q :=
 Tri.weak (fun _ _ _ hs => nil_sat ho hs) h
end
end Go.Dl

namespace Go.Dl
open Go.RowKit
section
variable {P : Program} {Φ : Fs}
/-- One operation of a region, and all that it may leave. -/
def GStep (P : Program) (ops : Array Oper) (o : Oper) (A : St) (R : St → Prop) : Prop :=
 ∀ (i : Nat), ops[i]? = some o → ∀ g a w, Sat g A a w → ∀ (Q : Exit → Act → World → Prop) (K : Act → World → Prop), (∀ A' a' w', R A' → Sat g A' a' w' → K a' w') → wpOp P ops Q i K a w
def RunR (P : Program) (ops : Array Oper) : List Oper → St → (St → Prop) → Prop
 | [], A, K => K A
 | o :: os, A, K => GStep P ops o A (fun A' => RunR P ops os A' K)
theorem rr_nil {ops : Array Oper} {A : St} {K : St → Prop} (h : K A) : RunR P ops [] A K := h
theorem rr_det (hΦ : FsOK P Φ) {ops : Array Oper} {o : Oper} {os : List Oper} {A A1 : St} {K : St → Prop} (hop : o.op.operands.toList.all opdOK = true) (h : Y5 P Φ ops o A = some A1) (hk : RunR P ops os A1 K) :
  RunR P ops (o :: os) A K := by
 intro i hi g a w hs Q K' hK
 exact xstep_wp hΦ hi hop h hs fun a' w' hs' => hK A1 a' w' hk hs'
theorem rr_step {ops : Array Oper} {o : Oper} {os : List Oper} {A : St} {R K : St → Prop} (hg : o.guard = none) (h : Step P o A R) (hk : ∀ A', R A' → RunR P ops os A' K) : RunR P ops (o :: os) A K := by
 intro i hi g a w hs Q K' hK
 unfold wpOp
 simp only [hi, Region.wanted, hg, if_true]
 exact .inl (h g a w hs _ _ fun A1 a' w' hR hs' => hK A1 a' w' (hk A1 hR) hs')
theorem runR_ops {ops : Array Oper} {g : G} {Q : Exit → Act → World → Prop} {K : St → Prop} (hQ : ∀ A' a' w', K A' → Sat g A' a' w' → Q .normal a' w') :
  ∀ (n i : Nat) (A : St) (a : Act) (w : World), i + n = ops.size → RunR P ops (ops.toList.drop i) A K → Sat g A a w → wpOps P ops Q (List.range' i n) a w := by
 intro n
 induction n with
 | zero =>
  intro i A a w hn h hs
  rw [List.drop_eq_nil_of_le (by simp; omega)] at h
  exact hQ A a w h hs
 | succ n ih =>
  intro i A a w hn h hs
  have hi : i < ops.toList.length := by simp; omega
  rw [List.drop_eq_getElem_cons hi] at h
  have ho : ops[i]? = some ops.toList[i] := by simp
  rw [List.range'_succ, wpOps_cons]
  exact h i ho g a w hs _ _ fun A1 a' w' h1 hs' => ih (i + 1) A1 a' w' (by omega) h1 hs'
theorem tri_runR {id : Nat} {l : List Oper} {A : St} {Q : Exit → St → Prop} (h : RunR P l.toArray l A (fun A' => Q .normal A')) : Tri P (.region id l.toArray false) A Q := by
 intro g a w hs
 refine wp_region ?_
 rw [List.range_eq_range']
 exact runR_ops (K := fun A' => Q .normal A') (fun A' a' w' hk hs' => ⟨A', hs', hk⟩) l.toArray.size 0 A a w (by omega) (by simpa using h) hs
theorem seq_runR {id : Nat} {l : List Oper} {y : Code} {A : St} {Q : Exit → St → Prop} (h : RunR P l.toArray l A (fun A' => Tri P y A' Q)) : Tri P (.seq (.region id l.toArray false) y) A Q :=
 tri_seq (tri_runR h)
/-- An operation that gives one scalar, of which something is said. -/
theorem step_gen {o : Oper} {A : St} {T : Value → Prop} (hop : o.op.operands.toList.all opdOK = true)
  (hrun : ∀ (e : Operand → Value) (w : World) (S : Nat → Prop) (E : Env), (∀ x ∈ o.op.operands.toList, ∀ d, A.ev x = some d → RepD w S E d (e x)) → (∀ v, e (.const v) = v) → (∀ k, e (.func k) = .func (.func k) #[] #[]) →
   ∃ v w', (execOp e o).run P w = .ok (.value v) w' ∧ (w' = w ∨ w' = { w with drawn := w.drawn + 1 }) ∧ Sc v ∧ T v) :
  Step P o A (fun A' => ∃ v, T v ∧ Sc v ∧ A' = A.put o.dst (.c (.v v))) := by
 intro g a w ⟨S, E, F, hr⟩ next Q hn
 obtain ⟨v, w', h1, h2, h3, h4⟩ := hrun a.eval w S E (fun x hx d hd => ev_rep hr (List.all_eq_true.1 hop x hx) hd) (fun _ => rfl) (fun _ => rfl)
 unfold Oper.wp
 rw [h1]
 rcases h2 with rfl | rfl
 · exact hn _ _ _ ⟨v, h4, h3, rfl⟩ ⟨S, E, F, hr.put (.c (.v h3))⟩
 · exact hn _ _ _ ⟨v, h4, h3, rfl⟩ ⟨S, E, F, (hr.drawn _ (Nat.le_succ _)).put (.c (.v h3))⟩
theorem sc_of {w : World} {S : Nat → Prop} {E : Env} {x v : Value} (h : RepD w S E (.c (.v x)) v) : v = x := by
 cases h with
 | c h => cases h; rfl
theorem rr_gen {ops : Array Oper} {o : Oper} {os : List Oper} {A : St} {K : St → Prop} {T : Value → Prop} (hg : o.guard = none) (hop : o.op.operands.toList.all opdOK = true)
  (hrun : ∀ (e : Operand → Value) (w : World) (S : Nat → Prop) (E : Env), (∀ x ∈ o.op.operands.toList, ∀ d, A.ev x = some d → RepD w S E d (e x)) → (∀ v, e (.const v) = v) → (∀ k, e (.func k) = .func (.func k) #[] #[]) →
   ∃ v w', (execOp e o).run P w = .ok (.value v) w' ∧ (w' = w ∨ w' = { w with drawn := w.drawn + 1 }) ∧ Sc v ∧ T v)
  (hk : ∀ v, T v → RunR P ops os (A.put o.dst (.c (.v v))) K) : RunR P ops (o :: os) A K :=
 rr_step hg (step_gen hop hrun) (by rintro _ ⟨v, h1, _, rfl⟩; exact hk v h1)
/-- A contract at one input. -/
noncomputable def one (a : List D) (o : List Obj) (r : D × List Obj) : List D → List Obj → Option (D × List Obj) := by
 classical exact fun args objs => if args = a ∧ objs = o then some r else none
end
end Go.Dl

namespace Go.Dl
open Go.RowKit
open Go.Proofs
theorem tk2 : tk Try.prog 2 = some (TK.int IntKind.i64) := by kernel_rfl
theorem tsz2 : tsz Try.prog 2 = 1 := by kernel_rfl
theorem tk3 : tk Try.prog 3 = some (TK.int IntKind.i64) := by kernel_rfl
theorem tsz3 : tsz Try.prog 3 = 1 := by kernel_rfl
theorem tz3 : tz Try.prog 3 = some [C.v (Value.int IntKind.i64 0)] := by kernel_rfl
theorem tk4 : tk Try.prog 4 = some TK.bool := by kernel_rfl
theorem tsz4 : tsz Try.prog 4 = 1 := by kernel_rfl
theorem tk5 : tk Try.prog 5 = some (TK.int IntKind.u8) := by kernel_rfl
theorem tsz5 : tsz Try.prog 5 = 1 := by kernel_rfl
theorem tz5 : tz Try.prog 5 = some [C.v (Value.int IntKind.u8 0)] := by kernel_rfl
theorem bo5 : Try.prog.bytesOf 5 = 1 := by kernel_rfl
theorem tk9 : tk Try.prog 9 = some TK.str := by kernel_rfl
theorem tsz9 : tsz Try.prog 9 = 1 := by kernel_rfl
theorem tz9 : tz Try.prog 9 = some [C.v (Value.string ⟨#[]⟩)] := by kernel_rfl
theorem bo9 : Try.prog.bytesOf 9 = 16 := by kernel_rfl
theorem tk23 : tk Try.prog 23 = some (TK.slice 33) := by kernel_rfl
theorem tsz23 : tsz Try.prog 23 = 1 := by kernel_rfl
theorem tk27 : tk Try.prog 27 = some (TK.slice 3) := by kernel_rfl
theorem tk28 : tk Try.prog 28 = some (TK.slice 9) := by kernel_rfl
theorem tsz28 : tsz Try.prog 28 = 1 := by kernel_rfl
theorem tk33 : tk Try.prog 33 = some (TK.st [(3, 0), (9, 1), (3, 2)]) := by kernel_rfl
theorem tsz33 : tsz Try.prog 33 = 3 := by kernel_rfl
theorem tz33 : tz Try.prog 33 = some [C.v (Value.int IntKind.i64 0), C.v (Value.string ⟨#[]⟩), C.v (Value.int IntKind.i64 0)] := by kernel_rfl
theorem bo33 : Try.prog.bytesOf 33 = 32 := by kernel_rfl
theorem tk35 : tk Try.prog 35 = some (TK.slice 5) := by kernel_rfl
theorem tk37 : tk Try.prog 37 = some (TK.int IntKind.u64) := by kernel_rfl
theorem tsz37 : tsz Try.prog 37 = 1 := by kernel_rfl
theorem tk39 : tk Try.prog 39 = some (TK.st [(3, 0), (4, 1), (2, 2), (37, 3), (9, 4)]) := by kernel_rfl
theorem tsz39 : tsz Try.prog 39 = 5 := by kernel_rfl
theorem tz39 : tz Try.prog 39 = some [C.v (Value.int IntKind.i64 0), C.v (Value.bool false), C.v (Value.int IntKind.i64 0), C.v (Value.int IntKind.u64 0), C.v (Value.string ⟨#[]⟩)] := by kernel_rfl
theorem tk45 : tk Try.prog 45 = some (TK.slice 50) := by kernel_rfl
theorem tk46 : tk Try.prog 46 = some (TK.slice 91) := by kernel_rfl
theorem tsz46 : tsz Try.prog 46 = 1 := by kernel_rfl
theorem tk48 : tk Try.prog 48 = some (TK.st [(9, 0), (3, 1), (46, 2)]) := by kernel_rfl
theorem tsz48 : tsz Try.prog 48 = 3 := by kernel_rfl
theorem tz48 : tz Try.prog 48 = some [C.v (Value.string ⟨#[]⟩), C.v (Value.int IntKind.i64 0), C.s true 0 []] := by kernel_rfl
theorem tk50 : tk Try.prog 50 = some (TK.st [(3, 0), (48, 1), (9, 4), (9, 5), (28, 6), (9, 7), (3, 8), (3, 9), (37, 10), (3, 11)]) := by kernel_rfl
theorem tsz50 : tsz Try.prog 50 = 12 := by kernel_rfl
theorem tz50 : tz Try.prog 50 = some [C.v (Value.int IntKind.i64 0), C.v (Value.string ⟨#[]⟩), C.v (Value.int IntKind.i64 0), C.s true 0 [], C.v (Value.string ⟨#[]⟩), C.v (Value.string ⟨#[]⟩), C.s true 0 [], C.v (Value.string ⟨#[]⟩), C.v (Value.int IntKind.i64 0), C.v (Value.int IntKind.i64 0), C.v (Value.int IntKind.u64 0), C.v (Value.int IntKind.i64 0)] := by kernel_rfl
theorem bo50 : Try.prog.bytesOf 50 = 160 := by kernel_rfl
theorem tk61 : tk Try.prog 61 = some (TK.st [(9, 0), (3, 1)]) := by kernel_rfl
theorem tz61 : tz Try.prog 61 = some [C.v (Value.string ⟨#[]⟩), C.v (Value.int IntKind.i64 0)] := by kernel_rfl
theorem tk80 : tk Try.prog 80 = some (TK.st [(23, 0), (3, 1), (3, 2), (3, 3)]) := by kernel_rfl
theorem tz80 : tz Try.prog 80 = some [C.s true 0 [], C.v (Value.int IntKind.i64 0), C.v (Value.int IntKind.i64 0), C.v (Value.int IntKind.i64 0)] := by kernel_rfl
theorem tk84 : tk Try.prog 84 = some (TK.arr 16 9) := by kernel_rfl
theorem tsz84 : tsz Try.prog 84 = 16 := by kernel_rfl
theorem tz84 : tz Try.prog 84 = some [C.v (Value.string ⟨#[]⟩), C.v (Value.string ⟨#[]⟩), C.v (Value.string ⟨#[]⟩), C.v (Value.string ⟨#[]⟩), C.v (Value.string ⟨#[]⟩), C.v (Value.string ⟨#[]⟩), C.v (Value.string ⟨#[]⟩), C.v (Value.string ⟨#[]⟩), C.v (Value.string ⟨#[]⟩), C.v (Value.string ⟨#[]⟩), C.v (Value.string ⟨#[]⟩), C.v (Value.string ⟨#[]⟩), C.v (Value.string ⟨#[]⟩), C.v (Value.string ⟨#[]⟩), C.v (Value.string ⟨#[]⟩), C.v (Value.string ⟨#[]⟩)] := by kernel_rfl
theorem tk91 : tk Try.prog 91 = some (TK.st [(9, 0), (39, 1)]) := by kernel_rfl
theorem tsz91 : tsz Try.prog 91 = 6 := by kernel_rfl
theorem tz91 : tz Try.prog 91 = some [C.v (Value.string ⟨#[]⟩), C.v (Value.int IntKind.i64 0), C.v (Value.bool false), C.v (Value.int IntKind.i64 0), C.v (Value.int IntKind.u64 0), C.v (Value.string ⟨#[]⟩)] := by kernel_rfl
theorem bo91 : Try.prog.bytesOf 91 = 64 := by kernel_rfl
theorem mixed : Try.prog.follows .mixedOrders = true := by kernel_rfl
end Go.Dl

namespace Go.Dl
open Go.RowKit
open Go.Proofs
set_option linter.unusedSimpArgs false
set_option linter.unusedVariables false
theorem ok0 : FsOK Try.prog Fs.none := ⟨fun _ _ h => (by cases h), fun _ _ h => (by cases h)⟩
theorem wrap_succ (i n : Nat) (h : i < n) (hn : n ≤ maxStr) : IntKind.wrap .i64 ((i : Int) + 1) = ((i + 1 : Nat) : Int) := by
 rw [wrap_i64 _ (by omega) (by unfold maxStr at hn; omega)]; rfl
/-- A text's bytes. -/
def B (s : ByteArray) : List UInt8 := s.data.toList
theorem B_length (s : ByteArray) : (B s).length = s.size := by
 show s.data.toList.length = s.data.size
 rw [Array.length_toList]
theorem last_get (H : List (Option Root)) (x : Option Root) : (H ++ [x])[H.length]? = some x := by simp
theorem last_set (T : List (Option Root)) (x y : Option Root) : (T ++ [x]).set T.length y = T ++ [y] := by
 rw [List.set_append_right _ _ (Nat.le_refl _), Nat.sub_self]; rfl
end Go.Dl

namespace Go.Dl
open Go.RowKit
/-- A result that nobody will change. -/
def D.frz : D → D
 | .c (.s true es rows) => if (rows.all fun row => row.all C.cp) = true then .c (.s false es rows) else .c (.s true es rows)
 | d => d
theorem rows_cp {rows : List (List C)} (h : (rows.all fun row => row.all C.cp) = true) : rows.flatten.all C.cp = true := by
 rw [List.all_eq_true]
 intro c hcm
 obtain ⟨row, hrow, hcr⟩ := List.mem_flatten.1 hcm
 exact List.all_eq_true.1 (List.all_eq_true.1 h row hrow) c hcr
theorem left_frz {w w' : World} {S : Nat → Prop} {pls : List Pl} {fps : List (List Nat)} {d : D} {v : Value} {objs' : List Obj} (h : Left w w' S pls fps d v objs') : Left w w' S pls fps d.frz v objs' := by
 unfold D.frz
 split
 · rename_i es rows
   split
   · rename_i hc
     refine ⟨h.size, h.keep, h.os, h.tape, h.output, ?_⟩
     obtain ⟨S', pls', fps', fpd, l1, l2, l3, l4, l5, l6, l7⟩ := h.rest
     have l3' : Rep w' S' [] (.k false (.s true es rows) v) fpd := l3
     cases l3' with
     | nilO => exact ⟨S', pls', fps', [], l1, l2, .nilI, l4, l5, l6, l7⟩
     | own hz hb hc' hl hr =>
      rename_i b off cap fp
      have hfp := cells_cp hr (rows_cp hc)
      subst hfp
      have hb6 := l6 b (by simp)
      refine ⟨fun x => S' x ∨ x = b, pls', fps', [], fun x hx => .inl (l1 x hx), fun x hx => ?_, ?_, ?_, ?_, ?_, l7⟩
      · rcases hx with hx | rfl
        · exact l2 x hx
        · exact ⟨hb6.2.1, .inr hb6.2.2⟩
      · exact .imm (.inr rfl) hc' hl (hr.mono (fun _ h => .inl h) (.refl _ _) (fun _ _ => rfl))
      · obtain ⟨m1, m2, m3⟩ := l4
        refine ⟨m1, m2, fun i ob hob => ?_⟩
        obtain ⟨p, f, k1, k2, k3⟩ := m3 i ob hob
        exact ⟨p, f, k1, k2, k3.mono (fun _ h => .inl h) (.refl _ _) (fun _ _ => rfl)⟩
      · simpa using (List.nodup_append.1 l5).2.1
      · intro x hx
        have hx' : x ∈ fps'.flatten := by simpa using hx
        obtain ⟨q1, q2, q3⟩ := l6 x (List.mem_append_right _ hx')
        refine ⟨?_, q2, q3⟩
        rintro (h | rfl)
        · exact q1 h
        · exact (List.nodup_append.1 l5).2.2 x (by simp) x hx' rfl
   · exact h
 · exact h
theorem meets_frz {P : Program} {k : FuncId} {spec : Spec} (h : Meets P k spec) : Meets P k (fun args objs Q => spec args objs (fun d os => Q d.frz os)) := by
 intro args objs Q hs w S vs pls fps h1 h2 h3 h4 h5 h6
 refine (h args objs _ hs w S vs pls fps h1 h2 h3 h4 h5 h6).mono ?_
 rintro e w' ⟨v, d, os, e1, hq, hl, left⟩
 exact ⟨v, d.frz, os, e1, hq, hl, left_frz left⟩
theorem meets_frzP {P : Program} {k : FuncId} {f : List D → Option D} (h : Meets P k (pureS f)) : Meets P k (pureS fun a => (f a).map D.frz) := by
 intro args objs Q hs
 refine meets_frz h args objs Q ?_
 obtain ⟨h1, d, h2, h3⟩ := hs
 cases hf : f args with
 | none => simp only [hf] at h2; cases h2
 | some d0 => simp only [hf] at h2; cases h2; exact ⟨h1, d0, hf, h3⟩
theorem meets_frzO {P : Program} {k : FuncId} {f : List D → List Obj → Option (D × List Obj)} (h : Meets P k (detS f)) : Meets P k (detS fun a o => (f a o).map fun r => (r.1.frz, r.2)) := by
 intro args objs Q hs
 refine meets_frz h args objs Q ?_
 obtain ⟨d, os, h2, h3⟩ := hs
 cases hf : f args objs with
 | none => simp only [hf] at h2; cases h2
 | some d0 => simp only [hf] at h2; cases h2; exact ⟨d0.1, d0.2, hf, h3⟩
section
variable {P : Program} {g : G} {S : Nat → Prop} {E : Env} {F : List (List Nat)} {A : St} {a : Act} {w : World}
end
section
variable {P : Program} {Φ : Fs}
/-- One piece of code behind another, with what holds between. -/
theorem seq_cut {x z : Code} {A : St} {Q : Exit → St → Prop} (I : St → Prop) (h2 : ∀ A', I A' → Tri P z A' Q) (h1 : Tri P x A (thenQ I Q)) : Tri P (.seq x z) A Q :=
 tri_seq (h1.mono fun e A' h => by cases e <;> first | exact h2 A' h | exact h)
end
end Go.Dl

namespace Go.Dl
open Go.RowKit
section
variable {P : Program} {Φ : Fs}
def SwapK (P : Program) (Φ : Fs) (K : St → Prop) (ops : Array Oper) (x y : Oper) : Prop :=
 ∀ (g : G) (A A1 A2 : St), Ok g A → K A → Y5 P Φ ops x A = some A1 → Y5 P Φ ops y A1 = some A2 → ∃ B, Y5 P Φ ops y A = some B ∧ Y5 P Φ ops x B = some A2
def Keep (P : Program) (Φ : Fs) (K : St → Prop) (ops : Array Oper) : Prop := ∀ o ∈ ops.toList, ∀ A A' : St, K A → Y5 P Φ ops o A = some A' → K A'
def SwapsK (P : Program) (Φ : Fs) (K : St → Prop) (ops : Array Oper) : Prop :=
 (∀ (j : Nat) (y : Oper), ops[j]? = some y → ∀ e ∈ y.after, Region.binds .any e = true → e.on < j) ∧
 ∀ (i j : Nat) (x y : Oper), i < j → ops[i]? = some x → ops[j]? = some y → reach ops ops.size j i = false → SwapK P Φ K ops x y
theorem frontK {K : St → Prop} (hΦ : FsOK P Φ) {ops : Array Oper} (hok : opsOK ops = true) (hK : Keep P Φ K ops) (hsw : SwapsK P Φ K ops) {g : G} {j : Nat} {y : Oper} (hy : ops[j]? = some y) {post : List Nat} {Af : St} :
  ∀ (pre : List Nat) (A : St), Ok g A → K A → (∀ i ∈ pre, i < j ∧ reach ops ops.size j i = false) → runI P Φ ops (pre ++ j :: post) A = some Af →
   ∃ B, Y5 P Φ ops y A = some B ∧ runI P Φ ops (pre ++ post) B = some Af := by
 intro pre
 induction pre with
 | nil =>
  intro A _ _ _ h
  simp only [Z12, runI, hy] at h
  cases hx : Y5 P Φ ops y A with
  | none => rw [hx] at h; cases h
  | some B => rw [hx] at h; exact ⟨B, rfl, h⟩
 | cons i pre ih =>
  intro A hA hkA hall h
  simp only [Z23, runI] at h
  cases hi : ops[i]? with
  | none => rw [hi] at h; cases h
  | some x =>
   rw [hi] at h
   simp only at h
   cases hx : Y5 P Φ ops x A with
   | none => rw [hx] at h; cases h
   | some A1 =>
    rw [hx] at h
    have hin : x ∈ ops.toList := by simpa using Array.mem_of_getElem? hi
    have hA1 := xstep_ok hΦ (List.all_eq_true.1 hok x hin) hx hA
    obtain ⟨B1, h1, h2⟩ := ih A1 hA1 (hK x hin A A1 hkA hx) (fun k hk => hall k (List.mem_cons_of_mem _ hk)) h
    obtain ⟨q1, q2⟩ := hall i (List.mem_cons_self ..)
    obtain ⟨B, k1, k2⟩ := hsw.2 i j x y q1 hi hy q2 g A A1 B1 hA hkA hx h1
    refine ⟨B, k1, ?_⟩
    simp only [Z23, runI, hi, k2]
    exact h2
theorem wpAny_runK {K : St → Prop} (hΦ : FsOK P Φ) {ops : Array Oper} (hok : opsOK ops = true) (hK : Keep P Φ K ops) (hsw : SwapsK P Φ K ops) {g : G} {Q : Exit → Act → World → Prop} {Af : St} (hQ : ∀ a' w', Sat g Af a' w' → Q .normal a' w') :
  ∀ (fuel : Nat) (listed : Array Bool) (A : St) (a : Act) (w : World), listed.size = ops.size → (remI ops listed).length ≤ fuel → Closed ops listed → Sat g A a w → K A →
   runI P Φ ops (remI ops listed) A = some Af → wpAny P .any ops Q fuel listed a w := by
 have least : ∀ listed : Array Bool, listed.size = ops.size → Region.ready .any ops listed = [] → remI ops listed = [] := by
  intro listed hsz hr
  cases hrem : remI ops listed with
  | nil => rfl
  | cons k rest =>
   exfalso
   have hk := mem_remI.1 (show k ∈ remI ops listed by rw [hrem]; exact List.mem_cons_self ..)
   have hsort := remI_sorted ops listed
   rw [hrem, List.pairwise_cons] at hsort
   have : k ∈ Region.ready .any ops listed := by
    refine mem_ready.2 ⟨hk.2, ops[k]'hk.1, Array.getElem?_eq_getElem hk.1, fun e he hb => ?_⟩
    have hlt := hsw.1 k _ (Array.getElem?_eq_getElem hk.1) e he hb
    rw [← getD_both (by omega)]
    refine Classical.byContradiction fun hn => ?_
    have hm : e.on ∈ remI ops listed := mem_remI.2 ⟨by omega, by simpa using hn⟩
    rw [hrem] at hm
    rcases List.mem_cons.1 hm with h | h
    · omega
    · have := hsort.1 _ h; omega
   rw [hr] at this
   cases this
 intro fuel
 induction fuel with
 | zero =>
  intro listed A a w hsz hl hcl hs hkA h
  have : remI ops listed = [] := List.length_eq_zero_iff.1 (by omega)
  rw [this] at h
  cases h
  refine ⟨?_, hQ a w hs⟩
  cases hr : Region.ready .any ops listed with
  | nil => rfl
  | cons i l =>
   exfalso
   obtain ⟨h0, o, ho, _⟩ := mem_ready.1 (show i ∈ Region.ready .any ops listed by rw [hr]; exact List.mem_cons_self ..)
   have : i ∈ remI ops listed := mem_remI.2 ⟨(Array.getElem?_eq_some_iff.1 ho).1, h0⟩
   rw [‹remI ops listed = []›] at this
   cases this
 | succ fuel ih =>
  intro listed A a w hsz hl hcl hs hkA h
  refine ⟨fun hr => ?_, fun j hj => ?_⟩
  · rw [least listed hsz hr] at h
    cases h
    exact hQ a w hs
  · obtain ⟨h0, y, hy, hall⟩ := mem_ready.1 hj
    have hjs := (Array.getElem?_eq_some_iff.1 hy).1
    have hm : j ∈ remI ops listed := mem_remI.2 ⟨hjs, h0⟩
    obtain ⟨pre, post, hsplit⟩ := List.append_of_mem hm
    have hsort := remI_sorted ops listed
    rw [hsplit, List.pairwise_append, List.pairwise_cons] at hsort
    obtain ⟨_, ⟨s2, _⟩, s3⟩ := hsort
    rw [hsplit] at h
    obtain ⟨B, k1, k2⟩ := frontK hΦ hok hK hsw hy pre A ⟨a, w, hs⟩ hkA (fun i hi => by
     refine ⟨s3 i hi j (List.mem_cons_self ..), ?_⟩
     refine Classical.byContradiction fun hn => ?_
     have hl := reach_listed hcl ops.size j i (by simpa using hn) fun o ho => by rw [hy] at ho; cases ho; exact hall
     have hi' := mem_remI.1 (show i ∈ remI ops listed by rw [hsplit]; exact List.mem_append_left _ hi)
     rw [getD_both (by omega), hl] at hi'
     cases hi'.2) h
    have hin : y ∈ ops.toList := by simpa using Array.mem_of_getElem? hy
    refine xstep_wp hΦ hy (List.all_eq_true.1 hok y hin) k1 hs fun a' w' hs' => ?_
    have hrem : remI ops (listed.setIfInBounds j true) = pre ++ post := by
     have e1 : remI ops (listed.setIfInBounds j true) = (remI ops listed).filter (fun k => k != j) := by
      unfold remI
      rw [List.filter_filter]
      refine List.filter_congr fun k hk => ?_
      by_cases hkj : k = j
      · subst hkj
        simp [hsz ▸ hjs]
      · rw [getD_set_ne true (Ne.symm hkj)]; simp [hkj]
     rw [e1, hsplit, List.filter_append, List.filter_cons_of_neg (by simp)]
     rw [List.filter_eq_self.2 fun k hk => by have := s3 k hk j (List.mem_cons_self ..); simp; omega,
      List.filter_eq_self.2 fun k hk => by have := s2 k hk; simp; omega]
    refine ih _ B a' w' (by simp [hsz]) (by rw [hrem]; rw [hsplit] at hl; simp at hl ⊢; omega) ?_ hs' (hK y hin A B hkA k1) (by rw [hrem]; exact k2)
    intro i o ho hli e he hb
    by_cases hij : i = j
    · subst hij
      rw [hy] at ho; cases ho
      exact getD_set_true (hall e he hb)
    · rw [getD_set_ne false (Ne.symm hij)] at hli
      exact getD_set_true (hcl i o ho hli e he hb)
/-- A region that draws its order: the same, with what is known of the states between. -/
theorem tri_anyK {K : St → Prop} (hm : P.follows .mixedOrders = true) (hΦ : FsOK P Φ) {id : Nat} {ops : Array Oper} {A A' : St} {Q : Exit → St → Prop} (hok : opsOK ops = true) (hK : Keep P Φ K ops) (hsw : SwapsK P Φ K ops) (hkA : K A)
  (h : runf P Φ ops ops.toList A = some A') (hQ : Q .normal A') : Tri P (.region id ops true) A Q := by
 intro g a w hs
 refine wp_region_any hm ?_
 have h0 : remI ops (Array.replicate ops.size false) = List.range ops.size := by
  unfold remI
  refine List.filter_eq_self.2 fun i hi => ?_
  have := List.mem_range.1 hi
  simp [this]
 refine wpAny_runK hΦ hok hK hsw (Af := A') (fun a' w' hs' => ⟨A', hs', hQ⟩) ops.size _ A a _ (by simp) (by rw [h0]; simp) ?_ (hs.drawn _ (Nat.le_succ _)) hkA ?_
 · intro j o ho hl e he hb
   have hj := (Array.getElem?_eq_some_iff.1 ho).1
   simp [hj] at hl
 · rw [h0, List.range_eq_range', ← runI_range ops.size 0 A (by omega)]
   simpa using h
/-- A store leaves the other roots as they are. -/
theorem store_other {A : St} {t : TypeId} {b v : Operand} {d d' : D} {H2 : List (Option Root)} (hb : A.ev b = some d') (h : act P Φ A (.store t b v) = some (d, H2)) (r : Nat) (hr : d'.no r = true) : A.H[r]? = H2[r]? := by
 simp only [act, hb] at h
 split at h <;> try cases h
 rename_i d1 cells h1 h2
 cases h1
 split at h <;> try cases h
 cases hs : storeA A.H cells d' with
 | none => rw [hs] at h; cases h
 | some H1 =>
  rw [hs] at h; cases h
  unfold storeA at hs
  split at hs <;> try cases hs
  rename_i r' e c
  split at hs <;> try cases hs
  split at hs <;> try cases hs
  split at hs <;> try cases hs
  have hne : r' ≠ r := by simpa [D.no, C.no] using hr
  rw [List.getElem?_set_ne hne]
theorem act_store_some {A : St} {t : TypeId} {b v : Operand} {d : D} {H2 : List (Option Root)} (h : act P Φ A (.store t b v) = some (d, H2)) : ∃ d', A.ev b = some d' := by
 simp only [act] at h
 split at h
 · rename_i d1 _ h1 _; exact ⟨d1, h1⟩
 · cases h
theorem swap_ls {K : St → Prop} {ops : Array Oper} {x y : Oper} {t t' : TypeId} {a b v : Operand} (hx0 : x.guard = none) (hy0 : y.guard = none) (hx : x.op = .load t a) (hy : y.op = .store t' b v) (hap : x.apart ops y = true)
  (hab : ∀ A, K A → ∀ d d', A.ev a = some d → A.ev b = some d' → ∀ r, d.no r = false → d'.no r = true) : SwapK P Φ K ops x y := by
 intro g A A1 A2 hA hkA h1 h2
 obtain ⟨p1, p2, p3⟩ := Oper.apart_spec hap
 have hcx : cl P Φ x.op = .L := by rw [hx]; rfl
 have hcy : cl P Φ y.op = .S := by rw [hy]; rfl
 have hxN : cl P Φ x.op ≠ .N := by rw [hcx]; intro h; cases h
 have hyN : cl P Φ y.op ≠ .N := by rw [hcy]; intro h; cases h
 rw [xstep_gact hxN] at h1
 rw [xstep_gact hyN] at h2
 cases hgx : gact P Φ ops x A with
 | none => rw [hgx] at h1; cases h1
 | some rx =>
  rw [hgx] at h1; cases h1
  cases hgy : gact P Φ ops y (A.with x.dst rx) with
  | none => rw [hgy] at h2; cases h2
  | some ry =>
   rw [hgy] at h2; cases h2
   obtain ⟨d, H1⟩ := rx
   obtain ⟨e, H2⟩ := ry
   have hH1 : H1 = A.H := by
    obtain ⟨o, h1, _⟩ := gact_quiet (A := A) (A' := A) (ops := ops) (.inr hcx) (fun _ _ => rfl) (fun _ _ _ _ _ _ _ => rfl) (fun _ _ _ _ _ _ _ => rfl)
    rw [h1] at hgx
    cases o <;> simp at hgx
    exact hgx.2.symm
   subst hH1
   have hy1 : gact P Φ ops y A = some (e, H2) := by
    rw [gact_congr hyN (A' := A.with x.dst (d, A.H)) (agree_with p1) (with_H (r := (d, A.H))).symm]; exact hgy
   refine ⟨A.with y.dst (e, H2), by rw [xstep_gact hyN, hy1]; rfl, ?_⟩
   have hyact : act P Φ A (.store t' b v) = some (e, H2) := by
    have := hy1
    unfold gact at this
    rw [hy0] at this
    rw [← hy]; exact this
   obtain ⟨db, hdb⟩ := act_store_some hyact
   have hx1 : gact P Φ ops x (A.with y.dst (e, H2)) = some (d, H2) := by
    obtain ⟨o, h1, h2⟩ := gact_quiet (A := A) (A' := A.with y.dst (e, H2)) (ops := ops) (.inr hcx) (agree_with p3)
     (fun hF z hz dz hdz r hr => by rw [hcx] at hF; cases hF)
     (fun hL z hz dz hdz r hr => by
      rw [with_H]
      rw [hx] at hz
      have hz : z = a := by simpa [Op.operands] using hz
      subst hz
      exact store_other hdb hyact r (hab A hkA dz db hdz hdb r hr))
    rw [h1] at hgx
    rw [h2, with_H]
    cases o <;> simp at hgx
    rw [hgx]; rfl
   rw [xstep_gact hxN, hx1]
   simp only [Z4]
   rw [with_comm (H2 := H2) p2]
theorem swap_sl {K : St → Prop} {ops : Array Oper} {x y : Oper} {t t' : TypeId} {a b v : Operand} (hx0 : x.guard = none) (hy0 : y.guard = none) (hx : x.op = .store t' b v) (hy : y.op = .load t a) (hap : x.apart ops y = true)
  (hab : ∀ A, K A → ∀ d d', A.ev a = some d → A.ev b = some d' → ∀ r, d.no r = false → d'.no r = true) : SwapK P Φ K ops x y := by
 intro g A A1 A2 hA hkA h1 h2
 obtain ⟨p1, p2, p3⟩ := Oper.apart_spec hap
 have hcx : cl P Φ x.op = .S := by rw [hx]; rfl
 have hcy : cl P Φ y.op = .L := by rw [hy]; rfl
 have hxN : cl P Φ x.op ≠ .N := by rw [hcx]; intro h; cases h
 have hyN : cl P Φ y.op ≠ .N := by rw [hcy]; intro h; cases h
 rw [xstep_gact hxN] at h1
 rw [xstep_gact hyN] at h2
 cases hgx : gact P Φ ops x A with
 | none => rw [hgx] at h1; cases h1
 | some rx =>
  rw [hgx] at h1; cases h1
  cases hgy : gact P Φ ops y (A.with x.dst rx) with
  | none => rw [hgy] at h2; cases h2
  | some ry =>
   rw [hgy] at h2; cases h2
   obtain ⟨d, H1⟩ := rx
   obtain ⟨e, H2⟩ := ry
   have hxact : act P Φ A (.store t' b v) = some (d, H1) := by
    have := hgx
    unfold gact at this
    rw [hx0] at this
    rw [← hx]; exact this
   obtain ⟨db, hdb⟩ := act_store_some hxact
   obtain ⟨o, q1, q2⟩ := gact_quiet (A := A) (A' := A.with x.dst (d, H1)) (ops := ops) (o := y) (.inr hcy) (agree_with p1)
    (fun hF z hz dz hdz r hr => by rw [hcy] at hF; cases hF)
    (fun hL z hz dz hdz r hr => by
     rw [with_H]
     rw [hy] at hz
     have hz : z = a := by simpa [Op.operands] using hz
     subst hz
     exact store_other hdb hxact r (hab A hkA dz db hdz hdb r hr))
   rw [q2, with_H] at hgy
   cases o with
   | none => simp at hgy
   | some e0 =>
    simp only [Z4, Z3, Prod.mk.injEq] at hgy
    obtain ⟨rfl, rfl⟩ := hgy
    refine ⟨A.with y.dst (e0, A.H), by rw [xstep_gact hyN, q1]; rfl, ?_⟩
    have hx1 : gact P Φ ops x (A.with y.dst (e0, A.H)) = some (d, H1) := by
     rw [← gact_congr hxN (A := A) (agree_with p3) (with_H (r := (e0, A.H))).symm]; exact hgx
    rw [xstep_gact hxN, hx1]
    exact congrArg some (with_comm (H2 := A.H) (H3 := H1) p2).symm
/-- Slots that speak of one root at most. -/
def Tagged (tg : List (Nat × Nat)) (A : St) : Prop := ∀ t r, (t, r) ∈ tg → ∀ d, A.sl[t]? = some d → ∀ r', d.no r' = false → r' = r
def tagOp (tg : List (Nat × Nat)) (o : Oper) : Bool :=
 tg.all fun e => o.dst != some e.1 || match o.op with
  | .move (.tmp s) => tg.contains (s, e.2)
  | .nilCheck (.tmp s) => tg.contains (s, e.2)
  | .fieldAddr _ (.tmp s) _ => tg.contains (s, e.2)
  | _ => false
theorem tag_keep {tg : List (Nat × Nat)} {ops : Array Oper} (h1 : (ops.toList.all fun o => cl P Φ o.op != .N) = true) (h2 : (ops.toList.all (tagOp tg)) = true) : Keep P Φ (Tagged tg) ops := by
 intro o ho A A' hA hx
 have hN : cl P Φ o.op ≠ .N := by have := List.all_eq_true.1 h1 o ho; simpa using this
 have ht := List.all_eq_true.1 h2 o ho
 rw [xstep_gact hN] at hx
 cases hg : gact P Φ ops o A with
 | none => rw [hg] at hx; cases hx
 | some rd =>
  rw [hg] at hx; cases hx
  obtain ⟨d0, H0⟩ := rd
  intro t r htr d hd r' hr'
  by_cases hdst : o.dst = some t
  · unfold tagOp at ht
    have ht := List.all_eq_true.1 ht (t, r) htr
    simp only [hdst, bne_self_eq_false, Bool.false_or] at ht
    have hd0 : d = d0 := by
     unfold St.with St.put at hd
     rw [hdst] at hd
     simp only [List.getElem?_set] at hd
     split at hd
     · split at hd
       · cases hd; rfl
       · cases hd
     · rename_i hh; exact absurd trivial hh
    subst hd0
    have key : act P Φ A o.op = some (d, H0) ∨ d = .t [] := by
     unfold gact at hg
     split at hg
     · exact .inl hg
     · split at hg <;> try cases hg
       split at hg <;> try cases hg
       · split at hg
         · exact .inl hg
         · cases hg; exact .inr rfl
       · exact .inr rfl
    rcases key with key | rfl
    · cases hop : o.op <;> rw [hop] at ht <;> first | (simp at ht; done) | skip
      · rename_i x
        cases x <;> first | (simp at ht; done) | skip
        rename_i s
        rw [hop] at key
        simp only [act, qev, St.ev] at key
        cases hs : A.sl[s]? with
        | none => rw [hs] at key; cases key
        | some ds =>
         rw [hs] at key; cases key
         exact hA s r (by simpa using ht) d hs r' hr'
      · rename_i x
        cases x <;> first | (simp at ht; done) | skip
        rename_i s
        rw [hop] at key
        simp only [act, qev, St.ev] at key
        cases hs : A.sl[s]? with
        | none => rw [hs] at key; cases key
        | some ds =>
         rw [hs] at key
         simp only [Z8] at key
         refine hA s r (by simpa using ht) ds hs r' ?_
         unfold qnil at key
         split at key
         · split at key
           · cases key; exact hr'
           · cases key
         · cases key; exact hr'
         · cases key; exact hr'
         · cases key
      · rename_i ty x i
        cases x <;> first | (simp at ht; done) | skip
        rename_i s
        rw [hop] at key
        simp only [act, qev, St.ev] at key
        cases hs : A.sl[s]? with
        | none => rw [hs] at key; cases key
        | some ds =>
         rw [hs] at key
         simp only [Z8] at key
         refine hA s r (by simpa using ht) ds hs r' ?_
         unfold Yb at key
         split at key <;> try cases key
         split at key <;> try cases key
         split at key
         · cases key
         · split at key
           · split at key
             · cases key; simpa [D.no, C.no] using hr'
             · cases key
           · cases key
             exact absurd hr' (by simp [D.no])
           · cases key
    · simp [D.no, D.nos] at hr'
  · rw [with_sl hdst] at hd
    exact hA t r htr d hd r' hr'
def apartTag (tg : List (Nat × Nat)) (a b : Nat) : Bool := tg.any fun e => e.1 == a && tg.any fun f => f.1 == b && e.2 != f.2
theorem apartTag_spec {tg : List (Nat × Nat)} {a b : Nat} (h : apartTag tg a b = true) {A : St} (hA : Tagged tg A) {d d' : D} (h1 : A.ev (.tmp a) = some d) (h2 : A.ev (.tmp b) = some d') (r : Nat) (hr : d.no r = false) : d'.no r = true := by
 unfold apartTag at h
 rw [List.any_eq_true] at h
 obtain ⟨⟨t, r1⟩, m1, h⟩ := h
 rw [Bool.and_eq_true, beq_iff_eq, List.any_eq_true] at h
 obtain ⟨rfl, ⟨t', r2⟩, m2, h⟩ := h
 rw [Bool.and_eq_true, beq_iff_eq] at h
 obtain ⟨rfl, hne⟩ := h
 have e1 := hA _ _ m1 d h1 r hr
 cases hd : d'.no r with
 | true => rfl
 | false =>
  have e2 := hA _ _ m2 d' h2 r hd
  simp only [bne_iff_ne, ne_eq] at hne
  exact absurd (e1.symm.trans e2) hne
def lsOK (tg : List (Nat × Nat)) (x y : Oper) : Bool :=
 x.guard.isNone && y.guard.isNone && match x.op, y.op with
  | .load _ (.tmp a), .store _ (.tmp b) _ => apartTag tg a b
  | .store _ (.tmp b) _, .load _ (.tmp a) => apartTag tg a b
  | _, _ => false
theorem lsOK_swap {tg : List (Nat × Nat)} {ops : Array Oper} {x y : Oper} (h : lsOK tg x y = true) (hap : x.apart ops y = true) : SwapK P Φ (Tagged tg) ops x y := by
 unfold lsOK at h
 rw [Bool.and_eq_true, Bool.and_eq_true, Option.isNone_iff_eq_none, Option.isNone_iff_eq_none] at h
 obtain ⟨⟨h1, h2⟩, h⟩ := h
 split at h
 · rename_i hx hy
   exact swap_ls h1 h2 hx hy hap fun A hA d d' e1 e2 r hr => apartTag_spec h hA e1 e2 r hr
 · rename_i hx hy
   exact swap_sl h1 h2 hx hy hap fun A hA d d' e1 e2 r hr => apartTag_spec h hA e1 e2 r hr
 · cases h
/-- May the order be open, where slots speak of these roots? -/
def anyOKK (P : Program) (Φ : Fs) (tg : List (Nat × Nat)) (ops : Array Oper) : Bool :=
 (ops.toList.all fun o => cl P Φ o.op != .N) && ops.toList.all (tagOp tg) &&
 (List.range ops.size).all fun j => match ops[j]? with
  | none => true
  | some y => (y.after.toList.all fun e => !Region.binds .any e || decide (e.on < j)) && (List.range j).all fun i => reach ops ops.size j i || match ops[i]? with
   | some z => (okCl (cl P Φ z.op) (cl P Φ y.op) || lsOK tg z y) && z.apart ops y
   | none => true
theorem anyOKK_spec {tg : List (Nat × Nat)} {ops : Array Oper} (h : anyOKK P Φ tg ops = true) : Keep P Φ (Tagged tg) ops ∧ SwapsK P Φ (Tagged tg) ops := by
 unfold anyOKK at h
 rw [Bool.and_eq_true, Bool.and_eq_true] at h
 obtain ⟨⟨hN, hT⟩, h⟩ := h
 refine ⟨tag_keep hN hT, ?_⟩
 rw [List.all_eq_true] at h
 have h' : ∀ (j : Nat) (y : Oper), ops[j]? = some y → (y.after.toList.all fun e => !Region.binds .any e || decide (e.on < j)) = true ∧
   ((List.range j).all fun i => reach ops ops.size j i || match ops[i]? with
    | some x => (okCl (cl P Φ x.op) (cl P Φ y.op) || lsOK tg x y) && x.apart ops y
    | none => true) = true := by
  intro j y hy
  have := h j (List.mem_range.2 (Array.getElem?_eq_some_iff.1 hy).1)
  rw [hy] at this
  simpa only [Bool.and_eq_true] using this
 refine ⟨fun j y hy e he hb => ?_, fun i j x y hij hx hy hr => ?_⟩
 · have := List.all_eq_true.1 (h' j y hy).1 e (by simpa using he)
   rw [hb] at this
   simpa using this
 · have := List.all_eq_true.1 (h' j y hy).2 i (List.mem_range.2 hij)
   rw [hr, hx, Bool.false_or, Bool.and_eq_true, Bool.or_eq_true] at this
   rcases this with ⟨h1 | h1, h2⟩
   · intro g A A1 A2 hA _ k1 k2
     exact swap_ok h1 h2 g A A1 A2 hA k1 k2
   · exact lsOK_swap h1 h2
def ktag (sl : List D) (tg : List (Nat × Nat)) : Bool := tg.all fun e => match sl[e.1]? with
 | some (.c (.p r _ _)) => r == e.2
 | some .o => true
 | none => true
 | _ => false
theorem ktag_spec {A : St} {tg : List (Nat × Nat)} (h : ktag A.sl tg = true) : Tagged tg A := by
 intro t r htr d hd r' hr'
 have := List.all_eq_true.1 h (t, r) htr
 simp only [hd] at this
 split at this
 · rename_i r0 e c hh
   cases hh
   have h1 : r0 = r := by simpa using this
   have h2 : r0 = r' := by simpa [D.no, C.no] using hr'
   omega
 · rename_i hh; cases hh; simp [D.no] at hr'
 · rename_i hh; cases hh
 · cases this
theorem any_endK {A A' : St} {Q : Exit → St → Prop} (tg : List (Nat × Nat)) (hm : P.follows .mixedOrders = true) (hΦ : FsOK P Φ) {id : Nat} {l : List Oper} (hok : opsOK l.toArray = true) (hsw : anyOKK P Φ tg l.toArray = true) (hk : ktag A.sl tg = true) (h : runf P Φ l.toArray l A = some A') (hQ : Q .normal A') :
  Tri P (.region id l.toArray true) A Q :=
 tri_anyK hm hΦ hok (anyOKK_spec hsw).1 (anyOKK_spec hsw).2 (ktag_spec hk) (by simpa using h) hQ
end
end Go.Dl

namespace Go.Dl
open Go.RowKit
open Go.Proofs
set_option linter.unusedSimpArgs false
set_option linter.unusedVariables false
def isLetter (c : Int) : Bool := (decide (97 ≤ c) && decide (c ≤ 122)) || (decide (65 ≤ c) && decide (c ≤ 90)) || decide (c = 95)
def isDigit (c : Int) : Bool := decide (48 ≤ c) && decide (c ≤ 57)
def isWordC (c : Int) : Bool := isLetter c || isDigit c
def notNL (c : Int) : Bool := !decide (c = 10)
def pU8 (f : Int → Bool) : List D → Option D
 | [.c (.v (.int .u8 c))] => some (dB (f c))
 | _ => none
theorem meets53 : Meets Try.prog 53 (pureS (pU8 isLetter)) := by
 refine meets_of_tri (show Try.prog.funcs[53]? = some Try.f53 by kernel_rfl) rfl (n := 21) rfl (rs := [ResultVar.tmp 2]) rfl ?_
 rintro args objs Q ⟨rfl, d, hd, hQ⟩
 unfold pU8 at hd
 split at hd
 · rename_i c
   cases hd
   refine Y3 ok0 rfl (by repeat first | with_reducible exact Y2 | refine Y1 (by simp only [Y5, Y4, Y6, qev, St.ev, St.put, Y8, Y7, List.replicate, Nat.reduceSub, ZA]; rfl) ?_) ?_
   by_cases h1 : 97 ≤ c
   · by_cases h2 : c ≤ 122
     · refine Y3 ok0 rfl (by repeat first | with_reducible exact Y2 | refine Y1 (by simp only [Y5, Y4, Y6, qev, St.ev, St.put, qpick, qint, Yc, isEq, qeq, Ya, qbin, Y8, Y7, if_true, if_false, decide_true, cond_true, reduceCtorEq, tk5, eq_true h1, eq_true h2, ZA]; rfl) ?_) ?_
       refine Yo (Yp (by simp only [outRes, Yi, resD, outD, outC, C.dat, if_true, ZA]; rfl) rfl .nil (by simp) ?_)
       simpa [isLetter, h1, h2, dB] using hQ
     · refine Y3 ok0 rfl (by repeat first | with_reducible exact Y2 | refine Y1 (by simp only [Y5, Y4, Y6, qev, St.ev, St.put, qpick, qint, Yc, Ya, qbin, Y8, Y7, if_true, if_false, decide_true, decide_false, cond_true, cond_false, eq_true h1, eq_false h2, show (65 ≤ c) = True from eq_true (by omega), show (c ≤ 90) = False from eq_false (by omega), show (c = 95) = False from eq_false (by omega), ZA]; rfl) ?_) ?_
       refine Yo (Yp (by simp only [outRes, Yi, resD, outD, outC, C.dat, if_true, ZA]; rfl) rfl .nil (by simp) ?_)
       simpa [isLetter, h1, h2, show ¬ c ≤ 90 by omega, show ¬ c = 95 by omega, dB] using hQ
   · by_cases h3 : 65 ≤ c
     · by_cases h4 : c ≤ 90
       · refine Y3 ok0 rfl (by repeat first | with_reducible exact Y2 | refine Y1 (by simp only [Y5, Y4, Y6, qev, St.ev, St.put, qpick, qint, Yc, isEq, qeq, Ya, qbin, Y8, Y7, if_true, if_false, decide_true, decide_false, cond_true, cond_false, reduceCtorEq, tk5, eq_false h1, eq_true h3, eq_true h4, ZA]; rfl) ?_) ?_
         refine Yo (Yp (by simp only [outRes, Yi, resD, outD, outC, C.dat, if_true, ZA]; rfl) rfl .nil (by simp) ?_)
         simpa [isLetter, h3, h4, dB] using hQ
       · refine Y3 ok0 rfl (by repeat first | with_reducible exact Y2 | refine Y1 (by simp only [Y5, Y4, Y6, qev, St.ev, St.put, qpick, qint, Yc, isEq, Ya, qbin, Y8, Y7, if_true, if_false, decide_true, decide_false, cond_true, cond_false, eq_false h1, eq_true h3, eq_false h4, ZA]; rfl) ?_) ?_
         refine Yo (Yp (by simp only [outRes, Yi, resD, outD, outC, C.dat, if_true, ZA]; rfl) rfl .nil (by simp) ?_)
         simpa [isLetter, h1, h4, dB] using hQ
     · refine Y3 ok0 rfl (by repeat first | with_reducible exact Y2 | refine Y1 (by simp only [Y5, Y4, Y6, qev, St.ev, St.put, qpick, qint, Yc, isEq, Ya, qbin, Y8, Y7, if_true, if_false, decide_false, cond_false, eq_false h1, eq_false h3, ZA]; rfl) ?_) ?_
       refine Yo (Yp (by simp only [outRes, Yi, resD, outD, outC, C.dat, if_true, ZA]; rfl) rfl .nil (by simp) ?_)
       simpa [isLetter, h1, h3, dB] using hQ
 · cases hd
theorem meets56 : Meets Try.prog 56 (pureS (pU8 isDigit)) := by
 refine meets_of_tri (show Try.prog.funcs[56]? = some Try.f56 by kernel_rfl) rfl (n := 9) rfl (rs := [ResultVar.tmp 2]) rfl ?_
 rintro args objs Q ⟨rfl, d, hd, hQ⟩
 unfold pU8 at hd
 split at hd
 · rename_i c
   cases hd
   refine Y3 ok0 rfl (by repeat first | with_reducible exact Y2 | refine Y1 (by simp only [Y5, Y4, Y6, qev, St.ev, St.put, Y8, Y7, List.replicate, Nat.reduceSub, ZA]; rfl) ?_) ?_
   by_cases h1 : 48 ≤ c
   · refine Y3 ok0 rfl (by repeat first | with_reducible exact Y2 | refine Y1 (by simp only [Y5, Y4, Y6, qev, St.ev, St.put, qpick, qint, Yc, Ya, qbin, Y8, Y7, if_true, if_false, decide_true, cond_true, eq_true h1, ZA]; rfl) ?_) ?_
     refine Yo (Yp (by simp only [outRes, Yi, resD, outD, outC, C.dat, if_true, ZA]; rfl) rfl .nil (by simp) ?_)
     simpa [isDigit, h1, dB] using hQ
   · refine Y3 ok0 rfl (by repeat first | with_reducible exact Y2 | refine Y1 (by simp only [Y5, Y4, Y6, qev, St.ev, St.put, qpick, qint, Yc, isEq, Ya, qbin, Y8, Y7, if_true, if_false, decide_false, cond_false, eq_false h1, ZA]; rfl) ?_) ?_
     refine Yo (Yp (by simp only [outRes, Yi, resD, outD, outC, C.dat, if_true, ZA]; rfl) rfl .nil (by simp) ?_)
     simpa [isDigit, h1, dB] using hQ
 · cases hd
def FsL1 : Fs := { Fs.none with pure := fun k => if k = 53 then some (pU8 isLetter) else if k = 56 then some (pU8 isDigit) else none }
theorem okL1 : FsOK Try.prog FsL1 := by
 refine ⟨fun k f h => ?_, fun _ _ h => (by cases h)⟩
 simp only [FsL1] at h
 split at h
 · rename_i hk; subst hk; cases h; exact ⟨by kernel_rfl, meets53⟩
 split at h
 · rename_i hk; subst hk; cases h; exact ⟨by kernel_rfl, meets56⟩
 · cases h
theorem meets55 : Meets Try.prog 55 (pureS (pU8 isWordC)) := by
 refine meets_of_tri (show Try.prog.funcs[55]? = some Try.f55 by kernel_rfl) rfl (n := 9) rfl (rs := [ResultVar.tmp 2]) rfl ?_
 rintro args objs Q ⟨rfl, d, hd, hQ⟩
 unfold pU8 at hd
 split at hd
 · rename_i c
   cases hd
   have hl : pU8 isLetter [.c (.v (.int .u8 c))] = some (dB (isLetter c)) := rfl
   have hd : pU8 isDigit [.c (.v (.int .u8 c))] = some (dB (isDigit c)) := rfl
   refine Y3 ok0 rfl (by repeat first | with_reducible exact Y2 | refine Y1 (by simp only [Y5, Y4, Y6, qev, St.ev, St.put, Y8, Y7, List.replicate, Nat.reduceSub, ZA]; rfl) ?_) ?_
   cases h : isLetter c with
   | true =>
    rw [h] at hl
    refine Y3 okL1 rfl (by repeat first | with_reducible exact Y2 | refine Y1 (by simp only [Y5, Y4, Y6, evsA, qev, St.ev, St.put, St.with, C.cpy, qpick, C.cp, C.dat, Y8, Y7, Nat.reduceEqDiff, if_true, if_false, cond_true, reduceCtorEq, Bool.or_true, dB, callP, callO, Fs.none, Yg, argD, argC, D.ni, D.ni1, C.ni, settle, settle1, settleC, FsL1, hl, ZA]; rfl) ?_) ?_
    refine Yo (Yp (by simp only [outRes, Yi, resD, outD, outC, C.dat, if_true, ZA]; rfl) rfl .nil (by simp) ?_)
    simpa [isWordC, h, dB] using hQ
   | false =>
    rw [h] at hl
    refine Y3 okL1 rfl (by repeat first | with_reducible exact Y2 | refine Y1 (by simp only [Y5, Y4, Y6, evsA, qev, St.ev, St.put, St.with, C.cpy, qpick, C.cp, C.dat, Y8, Y7, Nat.reduceEqDiff, if_true, if_false, cond_false, Bool.or_true, dB, callP, Fs.none, Yg, argD, argC, D.ni, D.ni1, C.ni, settle, settle1, settleC, FsL1, hl, hd, ZA]; rfl) ?_) ?_
    refine Yo (Yp (by simp only [outRes, Yi, resD, outD, outC, C.dat, if_true, ZA]; rfl) rfl .nil (by simp) ?_)
    simpa [isWordC, h, dB] using hQ
 · cases hd
theorem meets71 : Meets Try.prog 71 (pureS (pU8 notNL)) := by
 refine meets_of_tri (show Try.prog.funcs[71]? = some Try.f71 by kernel_rfl) rfl (n := 5) rfl (rs := [ResultVar.tmp 2]) rfl ?_
 rintro args objs Q ⟨rfl, d, hd, hQ⟩
 unfold pU8 at hd
 split at hd
 · rename_i c
   cases hd
   refine Y3 ok0 rfl (by repeat first | with_reducible exact Y2 | refine Y1 (by simp only [Y5, Y4, Y6, qev, St.ev, St.put, Y8, Y7, List.replicate, Nat.reduceSub, ZA]; rfl) ?_) ?_
   refine Y3 ok0 rfl (by repeat first | with_reducible exact Y2 | refine Y1 (by simp only [Y5, Y4, Y6, qev, St.ev, St.put, qint, Yc, Ya, qbin, Y8, Y7, if_true, if_false, ZA]; rfl) ?_) ?_
   refine Yo (Yp (by simp only [outRes, Yi, resD, outD, outC, C.dat, if_true, ZA]; rfl) rfl .nil (by simp) ?_)
   simpa [notNL, dB] using hQ
 · cases hd
end Go.Dl

namespace Go.Dl
open Go.RowKit
open Go.Proofs
set_option linter.unusedSimpArgs false
set_option linter.unusedVariables false
def idxB (s : ByteArray) (c : Int) : Int := Lib.indexByte s.data.toList c.toNat.toUInt8
theorem run_idx (s : ByteArray) (c : Int) (w : World) : (callFunc 83 #[.string s, .int .u8 c]).run Try.prog w = .ok (.value (.int .i64 (idxB s c))) w := by
 rw [run_callFunc_extern (fn := Try.f83) (by kernel_rfl) (by kernel_rfl) (by kernel_rfl) (by kernel_rfl) (e := Extern.BytealgIndexByte.indexByte) (by kernel_rfl), Lib.run_indexByteString]
 rfl
theorem indexByte_range : ∀ (l : List UInt8) (c : UInt8), -1 ≤ Lib.indexByte l c ∧ Lib.indexByte l c < l.length + 1
 | [], c => by simp [Lib.indexByte]
 | b :: l, c => by
  have := indexByte_range l c
  simp only [Lib.indexByte, List.length_cons]
  split
  · omega
  · split
    · omega
    · omega
theorem exec_ext2 {P : Program} {w w' : World} {o : Oper} {c : Call} {k : FuncId} {x y : Operand} {e : Operand → Value} {v u v' : Value} (ho : o.op = .call c) (hc : c.callee = .value (.func k)) (ha : c.args = #[x, y])
  (hf : e (.func k) = .func (.func k) #[] #[]) (hx : e x = v) (hy : e y = u) (h : (callFunc k #[v, u]).run P w = .ok (.value v') w') : (execOp e o).run P w = .ok (.value v') w' := by
 simp only [execOp, ho, Sem.run_bind, resolve, hc, Deferred.ofValue, hf, Sem.run_pure, Result.andThen_ok]
 have harr : (#[] ++ c.args.map e ++ #[] : Array Value) = #[v, u] := by rw [ha]; simp [hx, hy]
 simp only [invoke]
 rw [harr]
 exact h
def pIdxB : List D → Option D
 | [.c (.v (.string s)), .c (.v (.int .u8 c))] => if s.size ≤ 1000000 then some (dI (idxB s c)) else none
 | _ => none
theorem meets73 : Meets Try.prog 73 (pureS pIdxB) := by
 refine meets_of_tri (show Try.prog.funcs[73]? = some Try.f73 by kernel_rfl) rfl (n := 8) rfl (rs := [ResultVar.tmp 4]) rfl ?_
 rintro args objs Q ⟨rfl, d, hd, hQ⟩
 unfold pIdxB at hd
 split at hd
 · rename_i s c
   split at hd
   · rename_i hs
     cases hd
     refine Y3 ok0 rfl (by repeat first | with_reducible exact Y2 | refine Y1 (by simp only [Y5, Y4, Y6, qev, St.ev, St.put, Y8, Y7, List.set_cons_zero, List.set_cons_succ, List.replicate, List.length_cons, List.length_nil, List.cons_append, List.nil_append, List.map_nil, Option.map_some, Nat.reduceAdd, Nat.reduceSub, Option.some.injEq, Nat.zero_add]; rfl) ?_) ?_
     refine seq_runR ?_
     refine rr_det ok0 rfl (by simp only [Y5, Y4, Y6, qev, St.ev, St.put, List.getElem?_cons_zero, List.set_cons_zero, List.set_cons_succ, Option.map_some, Option.some.injEq]; rfl) ?_
     refine rr_det ok0 rfl (by simp only [Y5, Y4, Y6, qev, St.ev, St.put, List.getElem?_cons_zero, List.getElem?_cons_succ, List.set_cons_zero, List.set_cons_succ, Option.map_some, Option.some.injEq]; rfl) ?_
     refine rr_gen (T := fun v => v = .int .i64 (idxB s c)) rfl rfl ?_ ?_
     · intro e w S E he hc hf
       have h5 := sc_of (he (.tmp 5) (by simp [Op.operands, Call.operands]) _ rfl)
       have h6 := sc_of (he (.tmp 6) (by simp [Op.operands, Call.operands]) _ rfl)
       refine ⟨_, w, exec_ext2 rfl rfl rfl (hf _) h5 h6 (run_idx s c w), .inl rfl, ?_, rfl⟩
       have hr := indexByte_range s.data.toList c.toNat.toUInt8
       have hl : s.data.toList.length = s.size := B_length s
       show (decide (-9223372036854775808 ≤ Lib.indexByte s.data.toList c.toNat.toUInt8) && decide (Lib.indexByte s.data.toList c.toNat.toUInt8 ≤ 9223372036854775807)) = true
       rw [Bool.and_eq_true, decide_eq_true_eq, decide_eq_true_eq]
       omega
     rintro _ rfl
     refine rr_det ok0 rfl (by simp only [Y5, Y4, Y6, qev, St.ev, St.put, List.getElem?_cons_zero, List.getElem?_cons_succ, List.set_cons_zero, List.set_cons_succ, Option.map_some, Option.some.injEq]; rfl) (rr_nil ?_)
     refine Yo (Yp (by simp only [outRes, Yi, resD, outD, outC, C.dat, List.getElem?_cons_zero, List.getElem?_cons_succ, Option.map_some, if_true, Option.some.injEq]; rfl) rfl (by simp) (by simp) ?_)
     exact hQ
   · cases hd
 · cases hd
def FsL2 : Fs := { Fs.none with pure := fun k => if k = 73 then some pIdxB else none }
theorem okL2 : FsOK Try.prog FsL2 := by
 refine ⟨fun k f h => ?_, fun _ _ h => (by cases h)⟩
 simp only [FsL2] at h
 split at h
 · rename_i hk; subst hk; cases h; exact ⟨by kernel_rfl, meets73⟩
 · cases h
theorem meets58 : Meets Try.prog 58 (pureS pIdxB) := by
 refine meets_of_tri (show Try.prog.funcs[58]? = some Try.f58 by kernel_rfl) rfl (n := 8) rfl (rs := [ResultVar.tmp 4]) rfl ?_
 rintro args objs Q ⟨rfl, d, hd, hQ⟩
 unfold pIdxB at hd
 split at hd
 · rename_i s c
   split at hd
   · rename_i hs
     cases hd
     have hI : pIdxB [.c (.v (.string s)), .c (.v (.int .u8 c))] = some (dI (idxB s c)) := if_pos hs
     refine Y3 ok0 rfl (by repeat first | with_reducible exact Y2 | refine Y1 (by simp only [Y5, Y4, Y6, qev, St.ev, St.put, Y8, Y7, List.set_cons_zero, List.set_cons_succ, List.replicate, List.length_cons, List.length_nil, List.cons_append, List.nil_append, List.map_nil, Option.map_some, Nat.reduceAdd, Nat.reduceSub, Option.some.injEq, Nat.zero_add]; rfl) ?_) ?_
     refine Y3 okL2 rfl (by repeat first | with_reducible exact Y2 | refine Y1 (by simp only [Y5, Y4, Y6, evsA, qev, St.ev, St.put, St.with, C.cpy, C.cp, C.dat, List.getElem?_cons_zero, List.getElem?_cons_succ, List.set_cons_zero, List.set_cons_succ, List.append_nil, List.map_nil, Option.map_some, if_true, Option.some.injEq, Bool.and_self, Bool.or_true, dI, callP, Fs.none, Yg, argD, argC, D.ni, D.ni1, C.ni, settle, settle1, settleC, List.isEmpty_nil, FsL2, hI]; rfl) ?_) ?_
     refine Yo (Yp (by simp only [outRes, Yi, resD, outD, outC, C.dat, List.getElem?_cons_zero, List.getElem?_cons_succ, Option.map_some, if_true, Option.some.injEq]; rfl) rfl (by simp) (by simp) ?_)
     exact hQ
   · cases hd
 · cases hd
end Go.Dl

namespace Go.Dl
open Go.RowKit
open Go.Proofs
set_option linter.unusedSimpArgs false
set_option linter.unusedVariables false
/-- A text's byte. -/
def byt (s : ByteArray) (p : Nat) : Int := (((s.data.toList.getD p 0).toNat : Nat) : Int)
def lxObj (s : ByteArray) (p : Nat) : Obj := ⟨2, [[.v (.string s), .v (.int .i64 p)]]⟩
/-- How far something holds. -/
def runN (f : Int → Bool) : Nat → ByteArray → Nat → Nat
 | 0, _, p => p
 | n + 1, s, p => if p < s.size ∧ f (byt s p) = true then runN f n s (p + 1) else p
theorem runN_le (f : Int → Bool) : ∀ (n : Nat) (s : ByteArray) (p : Nat), p ≤ s.size → p ≤ runN f n s p ∧ runN f n s p ≤ s.size
 | 0, s, p, h => ⟨Nat.le_refl _, h⟩
 | n + 1, s, p, h => by
  simp only [runN]
  split
  · rename_i hc
    have := runN_le f n s (p + 1) hc.1
    omega
  · exact ⟨Nat.le_refl _, h⟩
def runF (f : Int → Bool) (s : ByteArray) (p : Nat) : Nat := runN f (s.size + 1) s p
theorem runF_le (f : Int → Bool) (s : ByteArray) (p : Nat) (h : p ≤ s.size) : p ≤ runF f s p ∧ runF f s p ≤ s.size := runN_le f _ s p h
def predK (k : Nat) : Option (Int → Bool) := if k = 55 then some isWordC else if k = 56 then some isDigit else if k = 71 then some notNL else none
def FsL3 : Fs := { Fs.none with pure := fun k => (predK k).map pU8 }
theorem okL3 : FsOK Try.prog FsL3 := by
 refine ⟨fun k f h => ?_, fun _ _ h => (by cases h)⟩
 simp only [FsL3, predK] at h
 split at h
 · rename_i hk; subst hk; cases h; exact ⟨by kernel_rfl, meets55⟩
 split at h
 · rename_i hk; subst hk; cases h; exact ⟨by kernel_rfl, meets56⟩
 split at h
 · rename_i hk; subst hk; cases h; exact ⟨by kernel_rfl, meets71⟩
 · cases h
/-- run. -/
def oRun : List D → List Obj → Option (D × List Obj)
 | [.c (.p 0 0 0), .c (.f k [])], [⟨2, [[.v (.string s), .v (.int .i64 (.ofNat p))]]⟩] => (predK k).bind fun f => if s.size ≤ 1000000 ∧ p ≤ s.size then
  some (.c (.v (.string (s.extract p (runF f s p)))), [lxObj s (runF f s p)]) else none
 | _, _ => none
theorem meets54 : Meets Try.prog 54 (detS oRun) := by
 refine meets_of_tri (show Try.prog.funcs[54]? = some Try.f54 by kernel_rfl) rfl (n := 50) rfl (rs := [ResultVar.tmp 4]) rfl ?_
 rintro args objs Q ⟨d, os, hd, hQ⟩
 unfold oRun at hd
 split at hd
 · rename_i k s p
   cases hk : predK k with
   | none => rw [hk] at hd; cases hd
   | some f =>
    rw [hk] at hd
    simp only [Z8] at hd
    split at hd
    · rename_i hc
      obtain ⟨hs, hp⟩ := hc
      cases hd
      have hFs : FsL3.pure k = some (pU8 f) := by simp only [FsL3, hk, Z4]
      obtain ⟨g1, g2⟩ := runF_le f s p hp
      generalize hr : runF f s p = r at g1 g2 hQ
      refine Y3 ok0 rfl (by repeat first | with_reducible exact Y2 | refine Y1 (by simp only [Y5, Y4, Y6, qev, St.ev, St.put, Y8, Y7, List.replicate, Nat.reduceAdd, Nat.reduceSub, ZA]; rfl) ?_) ?_
      refine Y3 ok0 rfl (by repeat first | with_reducible exact Y2 | refine Y1 (by simp only [Y5, Y4, Y6, qev, St.ev, St.put, qload, Y9, qmk, C.cpy, TK.agg, qnil, Yb, liveR, C.cp, if_true, if_false, reduceCtorEq, tk3, tsz3, tk61, Int.ofNat_eq_natCast, ZA]; rfl) ?_) ?_
      refine seq_in (tri_block ?_)
      refine tri_loop_le (fun n A => ∃ (q fu : Nat), q ≤ s.size ∧ n = s.size - q ∧ s.size - q < fu ∧ runN f fu s q = r ∧
        A = ⟨[.c (.p 0 0 0), .c (.f k []), .o, .o, .o, dI p, .o, .o, .o, .o, .o, .o, .o, .o, .o, .o, .o, .o, .o, .o, .o, .o, .o, .o, .o, .o, .o, .o, .o, .o, .o, .o, .o, .o, .o, .o, .o, .o, .o, .o, .o, .o, .o, .o, .o, .o, .o, .o, .o, .o], [some ⟨false, 2, [[.v (.string s), .v (.int .i64 q)]]⟩]⟩) (s.size - p)
       (B := ⟨[.c (.p 0 0 0), .c (.f k []), .o, .o, .o, dI p, .o, .o, .o, .o, .o, .o, .o, .o, .o, .o, .o, .o, .o, .o, .o, .o, .o, .o, .o, .o, .o, .o, .o, .o, .o, .o, .o, .o, .o, .o, .o, .o, .o, .o, .o, .o, .o, .o, .o, .o, .o, .o, .o, .o], [some ⟨false, 2, [[.v (.string s), .v (.int .i64 p)]]⟩]⟩)
       ⟨by repeat (first | exact .nil | refine .same ?_ | refine .o ?_), rfl⟩ ⟨p, s.size + 1, hp, rfl, by omega, hr, rfl⟩ ?_
      rintro n A ⟨q, fu, hq, rfl, hfu, hru, rfl⟩
      obtain ⟨fu, rfl⟩ : ∃ m, fu = m + 1 := ⟨fu - 1, by omega⟩
      simp only [runN] at hru
      by_cases hqs : q < s.size
      · have hU : pU8 f [.c (.v (.int .u8 (byt s q)))] = some (dB (f (byt s q))) := rfl
        simp only [byt] at hU
        cases hf : f (byt s q) with
        | true =>
         rw [if_pos ⟨hqs, hf⟩] at hru
         simp only [byt] at hf
         rw [hf] at hU
         refine seq_in (seq_any mixed okL3 rfl (by kernel_rfl) (by repeat first | with_reducible exact Y2 | refine Y1 (by simp only [Y5, Y4, Y6, evsA, qev, St.ev, St.put, St.with, D.int, qload, Y9, qmk, C.cpy, TK.agg, qnil, Yb, qindex, qpick, qint, Yc, Ya, qbin, qlen, qbuiltin, liveR, C.cp, C.dat, Y8, Y7, if_true, if_false, decide_true, cond_true, reduceCtorEq, Nat.add_zero, Bool.true_or, dI, dB, tk3, tsz3, tk9, tsz9, tk61, Int.toNat_natCast, Int.natCast_nonneg, callP, Yg, argD, argC, settle, settle1, settleC, hFs, hU, show ((q : Int) < (s.size : Int)) = True from eq_true (by omega), ZA]; rfl) ?_) ?_)
         refine Yf rfl (fun _ => Ye ?_) (fun h => by cases h)
         refine tri_block ?_
         refine Yk ok0 rfl (by repeat first | with_reducible exact Y2 | refine Y1 (by simp only [Y5, Y4, Y6, qev, St.ev, St.put, D.cells, qload, Y9, qmk, C.cpy, TK.agg, qnil, Yb, qint, Yc, Ya, qbin, liveR, C.st, C.cp, C.dat, storeA, putCells, Y8, Y7, Nat.reduceAdd, if_true, if_false, ne_eq, reduceCtorEq, Nat.le_refl, implies_true, tk3, tsz3, tk61, wrap_succ q s.size hqs (by unfold maxStr; omega), ZA]; rfl) ?_) ?_
         exact ⟨s.size - (q + 1), by omega, ⟨[.c (.p 0 0 0), .c (.f k []), .o, .o, .o, dI p, .o, .o, .o, .o, .o, .o, .o, .o, .o, .o, .o, .o, .o, .o, .o, .o, .o, .o, .o, .o, .o, .o, .o, .o, .o, .o, .o, .o, .o, .o, .o, .o, .o, .o, .o, .o, .o, .o, .o, .o, .o, .o, .o, .o], [some ⟨false, 2, [[.v (.string s), .v (.int .i64 (q + 1 : Nat))]]⟩]⟩, ⟨by repeat (first | exact .nil | refine .same ?_ | refine .o ?_), rfl⟩, q + 1, fu, hqs, rfl, by omega, hru, rfl⟩
        | false =>
         rw [if_neg (by rw [hf]; simp)] at hru
         subst hru
         simp only [byt] at hf
         rw [hf] at hU
         refine seq_in (seq_any mixed okL3 rfl (by kernel_rfl) (by repeat first | with_reducible exact Y2 | refine Y1 (by simp only [Y5, Y4, Y6, evsA, qev, St.ev, St.put, St.with, D.int, qload, Y9, qmk, C.cpy, TK.agg, qnil, Yb, qindex, qpick, qint, Yc, Ya, qbin, qlen, qbuiltin, liveR, C.cp, C.dat, Y8, Y7, if_true, if_false, decide_true, cond_true, reduceCtorEq, Nat.add_zero, Bool.true_or, dI, dB, tk3, tsz3, tk9, tsz9, tk61, Int.toNat_natCast, Int.natCast_nonneg, callP, Yg, argD, argC, settle, settle1, settleC, hFs, hU, show ((q : Int) < (s.size : Int)) = True from eq_true (by omega), ZA]; rfl) ?_) ?_)
         refine Yf rfl (fun h => by cases h) (fun _ => tri_exit ?_)
         show Tri _ _ _ _
         refine seq_any mixed ok0 rfl (by kernel_rfl) (by repeat first | with_reducible exact Y2 | refine Y1 (by simp only [Y5, Y4, Y6, qev, St.ev, St.put, D.int, qload, Y9, qmk, C.cpy, TK.agg, qnil, Yb, qbounds, qslice, omap, liveR, C.cp, if_true, if_false, reduceCtorEq, Nat.add_zero, tk3, tsz3, tk9, tsz9, tk61, qbounds, D.int, Int.toNat_natCast, Int.natCast_nonneg, show ((p : Int) ≤ (q : Int)) = True from eq_true (by omega), show ((q : Int) ≤ (s.size : Int)) = True from eq_true (by omega), ZA]; rfl) ?_) ?_
         refine Yo (Yp (by simp only [outRes, Yi, resD, outD, outC, C.dat, if_true, ZA]; rfl) rfl .nil (by simp) ?_)
         exact hQ
      · rw [if_neg (fun h => hqs h.1)] at hru
        subst hru
        refine seq_in (seq_any mixed okL3 rfl (by kernel_rfl) (by repeat first | with_reducible exact Y2 | refine Y1 (by simp only [Y5, Y4, Y6, qev, St.ev, St.put, D.int, qload, Y9, qmk, C.cpy, TK.agg, qnil, Yb, qpick, qint, Yc, Ya, qbin, qlen, qbuiltin, liveR, C.cp, Y8, Y7, Option.bind_none, if_true, if_false, decide_false, cond_false, reduceCtorEq, Nat.add_zero, dI, tk3, tsz3, tk9, tsz9, tk61, callP, callO, show ((q : Int) < (s.size : Int)) = False from eq_false (by omega), ZA]; rfl) ?_) ?_)
        refine Yf rfl (fun h => by cases h) (fun _ => tri_exit ?_)
        show Tri _ _ _ _
        refine seq_any mixed ok0 rfl (by kernel_rfl) (by repeat first | with_reducible exact Y2 | refine Y1 (by simp only [Y5, Y4, Y6, qev, St.ev, St.put, D.int, qload, Y9, qmk, C.cpy, TK.agg, qnil, Yb, qbounds, qslice, omap, liveR, C.cp, if_true, if_false, reduceCtorEq, Nat.add_zero, tk3, tsz3, tk9, tsz9, tk61, qbounds, D.int, Int.toNat_natCast, Int.natCast_nonneg, show ((p : Int) ≤ (q : Int)) = True from eq_true (by omega), show ((q : Int) ≤ (s.size : Int)) = True from eq_true (by omega), ZA]; rfl) ?_) ?_
        refine Yo (Yp (by simp only [outRes, Yi, resD, outD, outC, C.dat, if_true, ZA]; rfl) rfl .nil (by simp) ?_)
        exact hQ
    · cases hd
 · cases hd
end Go.Dl
