/- 'Dl', part Zf: what reads as a datum, by value; 'Dl', part Zg: from a function's contract to the row of a law; 'Dl', part Zh: a nil slice in a slot, taken as a row of the call's own; 'Dl', part Zj: regions in which an operation may leave one of several; maps that are made; 'Dl', part Zl: a call that is handed a function with what it captured; own rows that stay from then on; an own slice cut short; 'Dl', part Zn: a region of open order, its order looked at first; 'Dl', part Zo: contracts over a family of inputs; 'Dl', part Zr: clear at a slice; 'Dl', part Zs: a call that takes a slice over: what it answers may lie where that lay; 'Dl': the types of this program, as far as they are asked. -/
import Derived.Test.YtnflfefopdieiaaE05
set_option linter.all false
namespace Go.Dl
open Go.RowKit
mutual
/-- The cells of a value of a type. -/
inductive Ty (P : Program) : TypeId → List C → Prop
  | bool {t b} (h : tk P t = some .bool) : Ty P t [.v (.bool b)]
  | int {t k n} (h : tk P t = some (.int k)) (hn : inR k n = true) : Ty P t [.v (.int k n)]
  | str {t s} (h : tk P t = some .str) (hs : s.size ≤ maxStr) : Ty P t [.v (.string s)]
  | slice {t e} {rows : List (List C)} (h : tk P t = some (.slice e)) (hr : ∀ r, r ∈ rows → Ty P e r) (hl : ∀ r, r ∈ rows → r.length = tsz P e) (hn : rows.length ≤ maxStr) : Ty P t [.s false (tsz P e) rows]
  | arr {t n e} {rows : List (List C)} (h : tk P t = some (.arr n e)) (hn : rows.length = n) (hr : ∀ r, r ∈ rows → Ty P e r) : Ty P t rows.flatten
  | st {t fs} {css : List (List C)} (h : tk P t = some (.st fs)) (hf : TyL P fs css) : Ty P t css.flatten
inductive TyL (P : Program) : List (TypeId × Nat) → List (List C) → Prop
  | nil : TyL P [] []
  | cons {x xs c cs} (h : Ty P x.1 c) (hr : TyL P xs cs) : TyL P (x :: xs) (c :: cs)
end
def contig (P : Program) : Nat → List (TypeId × Nat) → Option Nat
  | off, [] => some off
  | off, (t, o) :: fs => if o = off then contig P (off + tsz P t) fs else none
/-- Types of numbers, texts, slices, arrays and structs of such. -/
def plainT (P : Program) : Nat → TypeId → Bool
  | 0, _ => false
  | f + 1, t => match tk P t with
    | some .bool => true
    | some (.int _) => true
    | some .str => true
    | some (.slice e) => tsz P e != 0 && plainT P f e
    | some (.arr n e) => tsz P t == n * tsz P e && plainT P f e
    | some (.st fs) => contig P 0 fs == some (tsz P t) && fs.all fun x => plainT P f x.1
    | _ => false
def Inside (w : World) : Nat → Prop := fun b => b < w.heap.size
section
variable {P : Program} {w : World} {H : Type} {enc : TypeId × Value → H} {sp : Nat → Bool} {held : Bool}
theorem vs_join {S : Nat → Prop} {E : Env} : ∀ {a b : List C} {x y : List Value}, Rep w S E (.vs a x) [] → Rep w S E (.vs b y) [] → Rep w S E (.vs (a ++ b) (x ++ y)) [] := by
  intro a
  induction a with
  | nil => intro b x y h1 h2; cases h1; exact h2
  | cons c a ih =>
    intro b x y h1 h2
    generalize hfp : ([] : List Nat) = fp at h1
    cases h1 with
    | vcons hc hr =>
      rename_i v vs f1 f2
      have := List.append_eq_nil_iff.1 hfp.symm
      obtain ⟨rfl, rfl⟩ := this
      exact .vcons (f1 := []) (f2 := []) hc (ih hr h2)
theorem cell_lt {a : Addr} {v : Value} (h : w.cell? a = some v) : a.spot = none ∧ a.block < w.heap.size := by
  have hs := World.cell?_spot h
  refine ⟨hs, ?_⟩
  rcases Nat.lt_or_ge a.block w.heap.size with h' | h'
  · exact h'
  · simp [World.cell?, Array.getElem?_eq_none h'] at h
theorem cells_get {base : Nat} {a : Addr} {n : Nat} {vs : List Value} (h : w.cells? base a n = some vs) : vs.length = n ∧ ∀ (j : Nat) (v : Value), vs[j]? = some v → w.cell? (a.add j) = some v := by
  unfold World.cells? at h
  split at h
  · have hl := mapM_some_length h
    rw [List.length_range] at hl
    refine ⟨hl, fun j v hj => ?_⟩
    have hjn := lt_len hj
    have := mapM_some_get h j j (by rw [List.getElem?_range (by omega)])
    rw [this, hj]
  · cases h
theorem mapM_all {α β : Type} {f : α → Option β} {l : List α} {r : List β} (h : l.mapM f = some r) : ∀ x ∈ l, ∃ y, f x = some y := by
  intro x hx
  obtain ⟨i, hi⟩ := List.getElem?_of_mem hx
  have h1 := mapM_some_get h i x hi
  have h2 := mapM_some_length h
  have h3 := lt_len hi
  exact ⟨r[i]'(by omega), by rw [h1]; exact List.getElem?_eq_getElem _⟩
section
variable {fuel : Nat} {t : TypeId} {vs : List Value} {x : DataW H × List MemPlace}
theorem trod_bool (hu : P.underlying t = some .bool) (h : DataW.trod enc P w 0 sp held (fuel + 1) t vs = some x) : ∃ b, vs = [.bool b] := by
  unfold DataW.trod at h
  rw [hu] at h
  split at h <;> simp_all
theorem trod_int {k : IntKind} (hu : P.underlying t = some (.int k)) (h : DataW.trod enc P w 0 sp held (fuel + 1) t vs = some x) : ∃ n, vs = [.int k n] ∧ (Lit.int k n).wf = true := by
  unfold DataW.trod at h
  rw [hu] at h
  split at h <;> simp_all
theorem trod_str (hu : P.underlying t = some .string) (h : DataW.trod enc P w 0 sp held (fuel + 1) t vs = some x) : ∃ s, vs = [.string s] ∧ s.size ≤ maxLen := by
  unfold DataW.trod at h
  rw [hu] at h
  split at h <;> simp_all
theorem trod_slice {e : TypeId} (hu : P.underlying t = some (.slice e)) (h : DataW.trod enc P w 0 sp held (fuel + 1) t vs = some x) : vs = [.slice none 0 0] ∨
    ∃ a len cap, vs = [.slice (some a) len cap] ∧ len ≤ cap ∧ cap ≤ maxLen ∧ ∀ i, i < len → ∃ y, (w.cells? 0 (a.add (i * P.cellsOf e)) (P.cellsOf e)).bind (DataW.trod enc P w 0 sp held fuel e) = some y := by
  unfold DataW.trod at h
  rw [hu] at h
  split at h <;> try (first | (simp_all; done) | cases h)
  rename_i e' a len cap heq
  cases heq
  right
  simp only at h
  split at h
  · rename_i hc
    refine ⟨a, len, cap, rfl, hc.2.1, hc.2.2, fun i hi => ?_⟩
    cases hm : (List.range len).mapM fun i => (w.cells? 0 (a.add (i * P.cellsOf e)) (P.cellsOf e)).bind (DataW.trod enc P w 0 sp held fuel e) with
    | none => rw [hm] at h; cases h
    | some r => exact mapM_all hm i (List.mem_range.2 hi)
  · cases h
theorem trod_arr {n : Nat} {e : TypeId} (hu : P.underlying t = some (.array n e)) (h : DataW.trod enc P w 0 sp held (fuel + 1) t vs = some x) : ∀ i, i < n →
    ∃ y, DataW.trod enc P w 0 sp held fuel e ((vs.drop (i * P.cellsOf e)).take (P.cellsOf e)) = some y := by
  unfold DataW.trod at h
  rw [hu] at h
  simp only at h
  split at h
  · intro i hi
    cases hm : (List.range n).mapM fun i => DataW.trod enc P w 0 sp held fuel e ((vs.drop (i * P.cellsOf e)).take (P.cellsOf e)) with
    | none => rw [hm] at h; cases h
    | some r => exact mapM_all hm i (List.mem_range.2 hi)
  · cases h
theorem trod_st {fs : Array Field} (hu : P.underlying t = some (.struct fs)) (h : DataW.trod enc P w 0 sp held (fuel + 1) t vs = some x) : ∀ f ∈ fs.toList,
    ∃ y, DataW.trod enc P w 0 sp held fuel f.type ((vs.drop f.offset).take (P.cellsOf f.type)) = some y := by
  unfold DataW.trod at h
  rw [hu] at h
  simp only at h
  split at h
  · intro f hf
    cases hm : fs.toList.mapM fun f => DataW.trod enc P w 0 sp held fuel f.type ((vs.drop f.offset).take (P.cellsOf f.type)) with
    | none => rw [hm] at h; cases h
    | some r => exact mapM_all hm f hf
  · cases h
end
theorem wf_inR {k : IntKind} {n : Int} (h : (Lit.int k n).wf = true) : inR k n = true := by
  cases k <;> simpa [Lit.wf, IntKind.min, IntKind.max, IntKind.signed, IntKind.bits, inR] using h
theorem choose_list {α : Type} {R : Nat → α → Prop} : ∀ n : Nat, (∀ i, i < n → ∃ c, R i c) → ∃ l : List α, l.length = n ∧ ∀ (i : Nat) (c : α), l[i]? = some c → R i c
  | 0, _ => ⟨[], rfl, by simp⟩
  | n + 1, h => by
    obtain ⟨l, h1, h2⟩ := choose_list n fun i hi => h i (by omega)
    obtain ⟨c, hc⟩ := h n (by omega)
    refine ⟨l ++ [c], by simp [h1], fun i c' hi => ?_⟩
    by_cases hil : i < l.length
    · rw [List.getElem?_append_left hil] at hi; exact h2 i c' hi
    · rw [List.getElem?_append_right (by omega)] at hi
      have : i - l.length = 0 := by
        have := lt_len hi
        simp at this; omega
      rw [this] at hi
      cases hi
      rw [show i = n by omega]; exact hc
theorem rows_l {S : Nat → Prop} {E : Env} {b es : Nat} : ∀ (rows : List (List C)) (off : Nat), (∀ (i : Nat) (c : List C), rows[i]? = some c → c.length = es ∧ Rep w S E (.l true c b (off + i * es)) []) → Rep w S E (.l true rows.flatten b off) []
  | [], off, _ => .lnil
  | c :: rows, off, h => by
    obtain ⟨h1, h2⟩ := h 0 c rfl
    rw [Nat.zero_mul, Nat.add_zero] at h2
    have := rows_l rows (off + es) fun i c hc => by
      have := h (i + 1) c (by simpa using hc)
      rw [Nat.succ_mul] at this
      rwa [show off + es + i * es = off + (i * es + es) by omega]
    rw [← h1] at this
    exact h2.join this
theorem rows_vs {S : Nat → Prop} {E : Env} {es : Nat} : ∀ (rows : List (List C)) (vs : List Value), (∀ (i : Nat) (c : List C), rows[i]? = some c → Rep w S E (.vs c ((vs.drop (i * es)).take es)) []) → vs.length = rows.length * es → Rep w S E (.vs rows.flatten vs) []
  | [], vs, _, hl => by
    simp at hl
    subst hl
    exact .vnil
  | c :: rows, vs, h, hl => by
    have h0 := h 0 c rfl
    rw [Nat.zero_mul, List.drop_zero] at h0
    have := rows_vs rows (vs.drop es) (fun i c hc => by
      have := h (i + 1) c (by simpa using hc)
      rw [Nat.succ_mul] at this
      rw [List.drop_drop, show es + i * es = i * es + es by omega]
      exact this) (by rw [List.length_drop, hl, List.length_cons, Nat.succ_mul]; omega)
    have hj := vs_join h0 this
    rw [List.take_append_drop] at hj
    exact hj
/-- What is read as a datum of such a type has a reading by value. -/
theorem rep_trod : ∀ (fuel pf : Nat) (t : TypeId) (vs : List Value) (x : DataW H × List MemPlace), DataW.trod enc P w 0 sp held fuel t vs = some x → plainT P pf t = true → vs.length = tsz P t →
    ∃ cs, Rep w (Inside w) [] (.vs cs vs) [] ∧ cs.length = tsz P t ∧ cs.all C.dat = true ∧ Ty P t cs := by
  intro fuel
  induction fuel with
  | zero => intro pf t vs x h; cases h
  | succ fuel ih =>
    intro pf t vs x h hp hlen
    cases pf with
    | zero => cases hp
    | succ pf =>
      unfold plainT at hp
      split at hp
      · rename_i hk
        obtain ⟨b, rfl⟩ := trod_bool (tk_bool hk) h
        exact ⟨[.v (.bool b)], .vcons (f1 := []) (f2 := []) (.v trivial) .vnil, hlen, rfl, .bool hk⟩
      · rename_i k hk
        obtain ⟨n, rfl, hn⟩ := trod_int (tk_int hk) h
        exact ⟨[.v (.int k n)], .vcons (f1 := []) (f2 := []) (.v (wf_inR hn)) .vnil, hlen, rfl, .int hk (wf_inR hn)⟩
      · rename_i hk
        obtain ⟨s, rfl, hs⟩ := trod_str (tk_str hk) h
        exact ⟨[.v (.string s)], .vcons (f1 := []) (f2 := []) (.v hs) .vnil, hlen, rfl, .str hk hs⟩
      · rename_i e hk
        rw [Bool.and_eq_true, bne_iff_ne] at hp
        obtain ⟨hz, hpe⟩ := hp
        rcases trod_slice (tk_slice hk) h with rfl | ⟨a, len, cap, rfl, hlc, hcm, hel⟩
        · exact ⟨[.s false (tsz P e) []], .vcons (f1 := []) (f2 := []) .nilI .vnil, hlen, rfl, .slice hk (by simp) (by simp) (by simp)⟩
        · by_cases hl0 : len = 0
          · subst hl0
            exact ⟨[.s false (tsz P e) []], .vcons (f1 := []) (f2 := []) .nilI .vnil, hlen, rfl, .slice hk (by simp) (by simp) (by simp)⟩
          · have key : ∀ i, i < len → ∃ c : List C, c.length = tsz P e ∧ c.all C.dat = true ∧ Ty P e c ∧ ∃ cv : List Value, Rep w (Inside w) [] (.vs c cv) [] ∧ ∀ (j : Nat) (v : Value), cv[j]? = some v → w.cell? ((a.add (i * tsz P e)).add j) = some v := by
              intro i hi
              obtain ⟨y, hy⟩ := hel i hi
              rw [Option.bind_eq_some_iff] at hy
              obtain ⟨cv, h1, h2⟩ := hy
              obtain ⟨k1, k2⟩ := cells_get h1
              obtain ⟨c, q1, q2, q3, q4⟩ := ih pf e cv y h2 hpe k1
              exact ⟨c, q2, q3, q4, cv, q1, k2⟩
            obtain ⟨rows, r1, r2⟩ := choose_list len key
            -- where it lies
            have hfirst : ∃ b off, a = ⟨b, off, none⟩ ∧ b < w.heap.size := by
              obtain ⟨c, c1, _, _, cv, c4, c5⟩ := key 0 (by omega)
              have := vs_len c4
              have hv : ∃ v, cv[0]? = some v := ⟨cv[0]'(by omega), List.getElem?_eq_getElem _⟩
              obtain ⟨v, hv⟩ := hv
              obtain ⟨e1, e2⟩ := cell_lt (c5 0 v hv)
              obtain ⟨b, off, spot⟩ := a
              have : spot = none := by simpa [Addr.add] using e1
              subst this
              rw [addr_add, addr_add] at e2
              exact ⟨b, off, rfl, e2⟩
            obtain ⟨b, off, rfl, hb⟩ := hfirst
            have hrl : ∀ r ∈ rows, r.length = tsz P e := by
              intro r hr
              obtain ⟨i, hi⟩ := List.getElem?_of_mem hr
              exact (r2 i r hi).1
            have hrep : Rep w (Inside w) [] (.l true rows.flatten b off) [] := rows_l rows off fun i c hc => by
              obtain ⟨q1, q2, _, cv, q4, q5⟩ := r2 i c hc
              refine ⟨q1, rep_new q4 (fun _ => q2) fun j v hj => ?_⟩
              have := q5 j v hj
              rw [addr_add, addr_add] at this
              exact this
            subst r1
            refine ⟨[.s false (tsz P e) rows], .vcons (f1 := []) (f2 := []) (.imm hb hlc hrl hrep) .vnil, hlen, rfl, .slice hk ?_ hrl ?_⟩
            · intro r hr
              obtain ⟨i, hi⟩ := List.getElem?_of_mem hr
              exact (r2 i r hi).2.2.1
            · have : maxLen = maxStr := rfl
              omega
      · rename_i n e hk
        rw [Bool.and_eq_true, beq_iff_eq] at hp
        obtain ⟨hz, hpe⟩ := hp
        have hel := trod_arr (tk_arr hk) h
        have key : ∀ i, i < n → ∃ c : List C, c.length = tsz P e ∧ c.all C.dat = true ∧ Ty P e c ∧ Rep w (Inside w) [] (.vs c ((vs.drop (i * tsz P e)).take (tsz P e))) [] := by
          intro i hi
          obtain ⟨y, hy⟩ := hel i hi
          have hle : (i + 1) * tsz P e ≤ n * tsz P e := Nat.mul_le_mul_right _ hi
          rw [Nat.succ_mul] at hle
          obtain ⟨c, q1, q2, q3, q4⟩ := ih pf e _ y hy hpe (by rw [List.length_take, List.length_drop, hlen, hz]; exact Nat.min_eq_left (by unfold tsz at *; omega))
          exact ⟨c, q2, q3, q4, q1⟩
        obtain ⟨rows, r1, r2⟩ := choose_list n key
        have hrep := rows_vs rows vs (fun i c hc => (r2 i c hc).2.2.2) (by rw [hlen, hz, r1])
        refine ⟨rows.flatten, hrep, by rw [vs_len hrep, hlen], ?_, .arr hk r1 ?_⟩
        · rw [List.all_eq_true]
          intro c hc
          obtain ⟨r, h1, h2⟩ := List.mem_flatten.1 hc
          obtain ⟨i, hi⟩ := List.getElem?_of_mem h1
          exact List.all_eq_true.1 (r2 i r hi).2.1 c h2
        · intro r hr
          obtain ⟨i, hi⟩ := List.getElem?_of_mem hr
          exact (r2 i r hi).2.2.1
      · rename_i fs hk
        rw [Bool.and_eq_true, beq_iff_eq, List.all_eq_true] at hp
        obtain ⟨hz, hpe⟩ := hp
        obtain ⟨d, hu, hd⟩ := tk_some hk
        cases d <;> simp only [TK.of, reduceCtorEq, TK.st.injEq] at hd
        rename_i fs'
        have hel := trod_st hu h
        have hel' : ∀ f ∈ fs, ∃ y, DataW.trod enc P w 0 sp held fuel f.1 ((vs.drop f.2).take (tsz P f.1)) = some y := by
          intro f hf
          rw [← hd] at hf
          obtain ⟨f', k1, rfl⟩ := List.mem_map.1 hf
          exact hel f' k1
        have go : ∀ (l : List (TypeId × Nat)) (off tot : Nat), contig P off l = some tot → tot ≤ vs.length → (∀ f ∈ l, f ∈ fs) →
            ∃ css : List (List C), TyL P l css ∧ Rep w (Inside w) [] (.vs css.flatten ((vs.drop off).take (tot - off))) [] ∧ css.flatten.all C.dat = true ∧ off ≤ tot := by
          intro l
          induction l with
          | nil =>
            intro off tot hc _ _
            cases hc
            exact ⟨[], .nil, by simp only [Nat.sub_self, Z20]; exact .vnil, rfl, Nat.le_refl _⟩
          | cons f l ihl =>
            intro off tot hc ht hm
            obtain ⟨ft, fo⟩ := f
            simp only [contig] at hc
            split at hc
            · rename_i ho
              subst ho
              obtain ⟨css, q1, q2, q3, q4⟩ := ihl _ tot hc ht fun f hf => hm f (List.mem_cons_of_mem _ hf)
              obtain ⟨y, hy⟩ := hel' _ (hm _ (List.mem_cons_self ..))
              obtain ⟨c, k1, k2, k3, k4⟩ := ih pf ft _ y hy (hpe _ (hm _ (List.mem_cons_self ..))) (by show ((vs.drop fo).take (tsz P ft)).length = tsz P ft; rw [List.length_take, List.length_drop]; exact Nat.min_eq_left (by omega))
              refine ⟨c :: css, .cons k4 q1, ?_, by rw [List.flatten_cons, List.all_append, k3, q3]; rfl, by omega⟩
              have := vs_join k1 q2
              have hsplit : (vs.drop fo).take (tot - fo) = (vs.drop fo).take (tsz P ft) ++ (vs.drop (fo + tsz P ft)).take (tot - (fo + tsz P ft)) := by
                rw [show tot - fo = tsz P ft + (tot - (fo + tsz P ft)) by omega, List.take_add, List.drop_drop]
              rw [hsplit]
              exact this
            · cases hc
        obtain ⟨css, q1, q2, q3, _⟩ := go fs 0 (tsz P t) hz (by omega) (fun f hf => hf)
        rw [List.drop_zero, Nat.sub_zero, ← hlen, List.take_length] at q2
        exact ⟨css.flatten, q2, by rw [vs_len q2, hlen], q3, .st hk q1⟩
      · cases hp
end
end Go.Dl

namespace Go.Dl
open Go.RowKit Go.ChangeShapes Go.WideShapes
/-- What an argument of a type is, by value. -/
def ArgTy (P : Program) (t : TypeId) (dd : D) : Prop :=
  match tk P t with
  | some k => if k.agg = true then ∃ cs, dd = .agg cs ∧ Ty P t cs else ∃ c, dd = .c c ∧ Ty P t [c]
  | none => False
def argOK (P : Program) (t : TypeId) : Bool :=
  plainT P 20 t && match tk P t with
  | some k => k.agg || tsz P t == 1
  | none => false
section
variable {P : Program} {W : World} {H : Type} {enc : TypeId × Value → H} {sp : Nat → Bool} {held : Bool}
theorem vs_single {S : Nat → Prop} {E : Env} {cs : List C} {v : Value} (h : Rep W S E (.vs cs [v]) []) : ∃ c, cs = [c] ∧ Rep W S E (.k false c v) [] := by
  generalize hfp : ([] : List Nat) = fp at h
  cases h with
  | vcons hc hr =>
    have := List.append_eq_nil_iff.1 hfp.symm
    obtain ⟨rfl, rfl⟩ := this
    cases hr
    exact ⟨_, rfl, hc⟩
theorem arg_trod {r : Reach} {b0 : Nat} {t : TypeId} {v : Value} {d : DataW H} {ps : List MemPlace} (hok : argOK P t = true) (hval : Value.okWide P W r b0 t v) (h : DataW.Trod enc P W 0 sp held t v d ps) :
    ∃ dd, RepD W (Inside W) [] dd v ∧ ArgTy P t dd := by
  obtain ⟨fuel, hf⟩ := h
  unfold argOK at hok
  rw [Bool.and_eq_true] at hok
  obtain ⟨hp, hk⟩ := hok
  unfold ArgTy
  have scal : ∀ k, tk P t = some k → k.agg = false → v.cells.toList = [v] → ∃ dd, RepD W (Inside W) [] dd v ∧ ∃ c, dd = .c c ∧ Ty P t [c] := by
    intro k h1 h2 h3
    rw [h1] at hk
    simp only [h2, Bool.false_or, beq_iff_eq] at hk
    rw [h3] at hf
    obtain ⟨cs, q1, q2, _, q4⟩ := rep_trod fuel 20 t [v] _ hf hp (by rw [hk]; rfl)
    obtain ⟨c, rfl, q5⟩ := vs_single q1
    exact ⟨.c c, .c q5, c, rfl, q4⟩
  have aggr : ∀ arr : Array Value, v = .agg arr → arr.size = tsz P t → ∃ dd, RepD W (Inside W) [] dd v ∧ ∃ cs, dd = .agg cs ∧ Ty P t cs := by
    rintro arr rfl hs
    obtain ⟨cs, q1, q2, _, q4⟩ := rep_trod fuel 20 t arr.toList _ hf hp (by simpa using hs)
    exact ⟨.agg cs, .agg q1, cs, rfl, q4⟩
  unfold plainT at hp
  split at hp
  · rename_i h1
    rw [h1]
    obtain ⟨b, rfl⟩ := okWide_bool (tk_bool h1) hval
    simpa [TK.agg] using scal _ h1 rfl rfl
  · rename_i k h1
    rw [h1]
    obtain ⟨n, rfl⟩ := okWide_int (tk_int h1) hval
    simpa [TK.agg] using scal _ h1 rfl rfl
  · rename_i h1
    rw [h1]
    obtain ⟨n, rfl⟩ := okWide_string (tk_str h1) hval
    simpa [TK.agg] using scal _ h1 rfl rfl
  · rename_i e h1
    rw [h1]
    obtain ⟨a, l, c, rfl⟩ := okWide_slice (tk_slice h1) hval
    simpa [TK.agg] using scal _ h1 rfl rfl
  · rename_i n e h1
    rw [h1]
    have hu := tk_arr h1
    unfold Value.okWide at hval
    rw [hu] at hval
    obtain ⟨arr, h2, h3, _⟩ := hval
    simpa [TK.agg] using aggr arr h2 h3
  · rename_i fs h1
    rw [h1]
    obtain ⟨dd, hu, hd⟩ := tk_some h1
    cases dd <;> simp only [TK.of, reduceCtorEq, TK.st.injEq] at hd
    unfold Value.okWide at hval
    rw [hu] at hval
    obtain ⟨arr, h2, h3, _⟩ := hval
    simpa [TK.agg] using aggr arr h2 h3
  · cases hp
theorem law_bool {k : FuncId} {F : List D → Option D} (hm : Meets P k (pureS F)) {vs : Array Value} {args : List D} {b : Bool} (hlen : args.length = vs.size)
    (hr : ∀ (i : Nat) (d : D), args[i]? = some d → RepD W (Inside W) [] d (vs.getD i undef)) (hF : F args = some (dB b)) :
    Calls P k vs W fun e W' => e = .returned (.bool b) ∧ Below W.heap.size W W' := by
  refine (hm args [] (fun d os => d = dB b ∧ os = []) ⟨rfl, _, hF, rfl, rfl⟩ W (Inside W) vs [] [] hlen hr ⟨rfl, rfl, by simp⟩ (by simp) (by simp) (fun _ h => h)).mono ?_
  rintro e W' ⟨v, d, os, rfl, ⟨rfl, rfl⟩, _, hl⟩
  obtain ⟨S', pls', fps', fpd, _, _, h3, _⟩ := hl.rest
  have hv : v = .bool b := by
    have h3 : Rep W' S' [] (.k false (.v (.bool b)) v) fpd := h3
    cases h3
    rfl
  subst hv
  exact ⟨rfl, hl.os, hl.tape, hl.output.1, hl.size, fun j hj => hl.keep j hj (by simp)⟩
end
end Go.Dl

namespace Go.Dl
open Go.RowKit
section
variable {P : Program} {g : G} {S : Nat → Prop} {E : Env} {F : List (List Nat)} {A : St} {a : Act} {w : World}
def nilA (A : St) (t es : Nat) : Option St :=
  match A.sl[t]? with
  | some (.c (.s true _ [])) => some ⟨A.sl.set t (.c (.h A.H.length 0 0)), A.H ++ [some ⟨true, es, []⟩]⟩
  | _ => none
theorem nil_sat {A' : St} {t es : Nat} (ho : nilA A t es = some A') (hs : Sat g A a w) : Sat g A' a w := by
  obtain ⟨S, E, F, hr⟩ := hs
  unfold nilA at ho
  split at ho
  · rename_i es0 ht
    cases ho
    have hv := hr.sl t _ ht
    generalize hval : a.tmps.getD t undef = v at hv
    have hn : ∃ ad, v = .slice ad 0 0 := by
      cases hv with
      | c h =>
        generalize hfp : ([] : List Nat) = fp at h
        cases h with
        | nilO => exact ⟨_, rfl⟩
        | own _ _ _ _ _ => cases hfp
    obtain ⟨ad, rfl⟩ := hn
    have h1 := hr.addRoot (R := ⟨true, es, []⟩) (p := ⟨none, es, 0, 0⟩) (f := []) ⟨rfl, rfl, Nat.le_refl _, by simp, rfl, rfl, rfl⟩ .nil (by simp)
    have h2 : RepD w S (E ++ [some ⟨none, es, 0, 0⟩]) (.c (.h A.H.length 0 0)) (.slice ad 0 0) := by
      refine .c (.h (by simp [hr.lE]) fun pl hpl => ?_)
      rw [← hr.lE, List.getElem?_append_right (Nat.le_refl _), Nat.sub_self] at hpl
      cases hpl
      exact ⟨Nat.le_refl _, ad, rfl⟩
    refine ⟨S, _, _, { h1 with len := by rw [List.length_set]; exact hr.len, sl := ?_ }⟩
    intro i d hd
    rw [List.getElem?_set] at hd
    split at hd
    · rename_i hti
      subst hti
      rw [if_pos (lt_len ht)] at hd
      cases hd
      rw [hval]; exact h2
    · exact h1.sl i d hd
  · cases ho
theorem tri_nil {code : Code} {Q : Exit → St → Prop} {A' : St} (t es : Nat) (ho : nilA A t es = some A') (h : Tri P code A' Q) : Tri P code A Q :=
  Tri.weak (fun _ _ _ hs => nil_sat ho hs) h
end
end Go.Dl

namespace Go.Dl
open Go.RowKit
section
variable {P : Program} {Φ : Fs}
/-- One operation of a region, and all that it may leave. -/
def GStep (P : Program) (ops : Array Oper) (o : Oper) (A : St) (R : St → Prop) : Prop :=
  ∀ (i : Nat), ops[i]? = some o → ∀ g a w, Sat g A a w → ∀ (Q : Exit → Act → World → Prop) (K : Act → World → Prop), (∀ A' a' w', R A' → Sat g A' a' w' → K a' w') → wpOp P ops Q i K a w
def RunR (P : Program) (ops : Array Oper) : List Oper → St → (St → Prop) → Prop
  | [], A, K => K A
  | o :: os, A, K => GStep P ops o A (fun A' => RunR P ops os A' K)
theorem rr_nil {ops : Array Oper} {A : St} {K : St → Prop} (h : K A) : RunR P ops [] A K := h
theorem rr_det (hΦ : FsOK P Φ) {ops : Array Oper} {o : Oper} {os : List Oper} {A A1 : St} {K : St → Prop} (hop : o.op.operands.toList.all opdOK = true) (h : Y5 P Φ ops o A = some A1) (hk : RunR P ops os A1 K) :
    RunR P ops (o :: os) A K := by
  intro i hi g a w hs Q K' hK
  exact xstep_wp hΦ hi hop h hs fun a' w' hs' => hK A1 a' w' hk hs'
theorem rr_step {ops : Array Oper} {o : Oper} {os : List Oper} {A : St} {R K : St → Prop} (hg : o.guard = none) (h : Step P o A R) (hk : ∀ A', R A' → RunR P ops os A' K) : RunR P ops (o :: os) A K := by
  intro i hi g a w hs Q K' hK
  unfold wpOp
  simp only [hi, Region.wanted, hg, if_true]
  exact .inl (h g a w hs _ _ fun A1 a' w' hR hs' => hK A1 a' w' (hk A1 hR) hs')
theorem runR_ops {ops : Array Oper} {g : G} {Q : Exit → Act → World → Prop} {K : St → Prop} (hQ : ∀ A' a' w', K A' → Sat g A' a' w' → Q .normal a' w') :
    ∀ (n i : Nat) (A : St) (a : Act) (w : World), i + n = ops.size → RunR P ops (ops.toList.drop i) A K → Sat g A a w → wpOps P ops Q (List.range' i n) a w := by
  intro n
  induction n with
  | zero =>
    intro i A a w hn h hs
    rw [List.drop_eq_nil_of_le (by simp; omega)] at h
    exact hQ A a w h hs
  | succ n ih =>
    intro i A a w hn h hs
    have hi : i < ops.toList.length := by simp; omega
    rw [List.drop_eq_getElem_cons hi] at h
    have ho : ops[i]? = some ops.toList[i] := by simp
    rw [List.range'_succ, wpOps_cons]
    exact h i ho g a w hs _ _ fun A1 a' w' h1 hs' => ih (i + 1) A1 a' w' (by omega) h1 hs'
theorem tri_runR {id : Nat} {l : List Oper} {A : St} {Q : Exit → St → Prop} (h : RunR P l.toArray l A (fun A' => Q .normal A')) : Tri P (.region id l.toArray false) A Q := by
  intro g a w hs
  refine wp_region ?_
  rw [List.range_eq_range']
  exact runR_ops (K := fun A' => Q .normal A') (fun A' a' w' hk hs' => ⟨A', hs', hk⟩) l.toArray.size 0 A a w (by omega) (by simpa using h) hs
theorem seq_runR {id : Nat} {l : List Oper} {y : Code} {A : St} {Q : Exit → St → Prop} (h : RunR P l.toArray l A (fun A' => Tri P y A' Q)) : Tri P (.seq (.region id l.toArray false) y) A Q :=
  tri_seq (tri_runR h)
/-- An operation that gives one scalar, of which something is said. -/
theorem step_gen {o : Oper} {A : St} {T : Value → Prop} (hop : o.op.operands.toList.all opdOK = true)
    (hrun : ∀ (e : Operand → Value) (w : World) (S : Nat → Prop) (E : Env), (∀ x ∈ o.op.operands.toList, ∀ d, A.ev x = some d → RepD w S E d (e x)) → (∀ v, e (.const v) = v) → (∀ k, e (.func k) = .func (.func k) #[] #[]) →
      ∃ v w', (execOp e o).run P w = .ok (.value v) w' ∧ (w' = w ∨ w' = { w with drawn := w.drawn + 1 }) ∧ Sc v ∧ T v) :
    Step P o A (fun A' => ∃ v, T v ∧ Sc v ∧ A' = A.put o.dst (.c (.v v))) := by
  intro g a w ⟨S, E, F, hr⟩ next Q hn
  obtain ⟨v, w', h1, h2, h3, h4⟩ := hrun a.eval w S E (fun x hx d hd => ev_rep hr (List.all_eq_true.1 hop x hx) hd) (fun _ => rfl) (fun _ => rfl)
  unfold Oper.wp
  rw [h1]
  rcases h2 with rfl | rfl
  · exact hn _ _ _ ⟨v, h4, h3, rfl⟩ ⟨S, E, F, hr.put (.c (.v h3))⟩
  · exact hn _ _ _ ⟨v, h4, h3, rfl⟩ ⟨S, E, F, (hr.drawn _ (Nat.le_succ _)).put (.c (.v h3))⟩
theorem eqIn_slice {w : World} {t e : TypeId} {d : Nat} (hu : P.underlying t = some (.slice e)) (a : Option Addr) (l c : Nat) : (Op.equalIn (d + 1) t (.slice a l c) (.slice none 0 0)).run P w = .ok a.isNone w := by
  cases a <;> simp [Op.equalIn, run_und hu]
/-- Whether a slice is nil, of which only the elements are known. -/
theorem nil_eq {w : World} {S : Nat → Prop} {E : Env} {t e : TypeId} {n : Nat} {rows : List (List C)} {v : Value} (hk : tk P t = some (.slice e)) (h : RepD w S E (.c (.s false n rows)) v) :
    ∃ b, (binOp .eql t v (.slice none 0 0)).run P w = .ok (.bool b) w ∧ (b = true → rows = []) := by
  have hu : P.underlying t = some (.slice e) := by
    obtain ⟨d, h1, h2⟩ := tk_some hk
    cases d <;> simp [TK.of] at h2
    subst h2; exact h1
  have run : ∀ (a : Option Addr) (l c : Nat), (binOp .eql t (.slice a l c) (.slice none 0 0)).run P w = .ok (.bool a.isNone) w := by
    intro a l c
    refine run_binOp_eql (by simp [plainEq]) ?_
    rw [equal_succ]
    exact eqIn_slice hu a l c
  cases h with
  | c h => cases h with
    | nilI => exact ⟨_, run _ _ _, fun _ => rfl⟩
    | imm _ _ _ _ => exact ⟨_, run _ _ _, fun h => by cases h⟩
theorem step_nil {o : Oper} {A : St} {t e yt : TypeId} {x : Operand} {n : Nat} {rows : List (List C)} (ho : o.op = .binOp .eql t x (.const (.slice none 0 0)) yt) (hop : o.op.operands.toList.all opdOK = true)
    (hk : tk P t = some (.slice e)) (hx : A.ev x = some (.c (.s false n rows))) : Step P o A (fun A' => ∃ b : Bool, (b = true → rows = []) ∧ A' = A.put o.dst (.c (.v (.bool b)))) := by
  intro g a w hs next Q hn
  refine step_gen (T := fun v => ∃ b : Bool, v = .bool b ∧ (b = true → rows = [])) hop ?_ g a w hs next Q fun A' a' w' h => ?_
  · intro e' w S E he hc _
    have hv := he x (by simp [ho, Op.operands]) _ hx
    obtain ⟨b, h1, h2⟩ := nil_eq hk hv
    refine ⟨.bool b, w, ?_, .inl rfl, trivial, b, rfl, h2⟩
    have hg : (eqGuard .eql t x (.const (.slice none 0 0)) (e' x) (.slice none 0 0)).run P w = .ok () w := run_eqGuard (by simp) (by simp)
    simp only [execOp, ho, hc, Sem.run_bind, hg, h1, Result.andThen_ok, Sem.run_pure]
  · obtain ⟨v, ⟨b, rfl, h2⟩, _, rfl⟩ := h
    exact hn _ _ _ ⟨b, h2, rfl⟩
theorem rr_isnil {ops : Array Oper} {o : Oper} {os : List Oper} {A : St} {K : St → Prop} {t e yt : TypeId} {x : Operand} {n : Nat} {rows : List (List C)} (hg : o.guard = none) (ho : o.op = .binOp .eql t x (.const (.slice none 0 0)) yt)
    (hop : o.op.operands.toList.all opdOK = true) (hk : tk P t = some (.slice e)) (hx : A.ev x = some (.c (.s false n rows))) (h : ∀ b : Bool, (b = true → rows = []) → RunR P ops os (A.put o.dst (.c (.v (.bool b)))) K) : RunR P ops (o :: os) A K :=
  rr_step hg (step_nil ho hop hk hx) (by rintro _ ⟨b, h1, rfl⟩; exact h b h1)
/-- A contract at one input. -/
noncomputable def one (a : List D) (o : List Obj) (r : D × List Obj) : List D → List Obj → Option (D × List Obj) := by
  classical exact fun args objs => if args = a ∧ objs = o then some r else none
end
end Go.Dl

namespace Go.Dl
open Go.RowKit
theorem rows_cp {rows : List (List C)} (h : (rows.all fun row => row.all C.cp) = true) : rows.flatten.all C.cp = true := by
  rw [List.all_eq_true]
  intro c hcm
  obtain ⟨row, hrow, hcr⟩ := List.mem_flatten.1 hcm
  exact List.all_eq_true.1 (List.all_eq_true.1 h row hrow) c hcr
section
variable {P : Program} {g : G} {S : Nat → Prop} {E : Env} {F : List (List Nat)} {A : St} {a : Act} {w : World}
/-- The head of an own row, as an own slice. -/
theorem outC_take (hr : Rel g S E F A a w) {n len : Nat} {N : Root} {v : Value} (hN : A.H[n]? = some (some N)) (c1 : N.dat = true) (c0 : N.es ≠ 0) (hlen : len ≤ N.rows.length) (hcp : (N.rows.all fun row => row.all C.cp) = true)
    (h : Rep w S E (.k false (.h n 0 len) v) []) : ∃ fp, Rep w S [] (.k false (.s true N.es (N.rows.take len)) v) fp ∧ (∀ x ∈ fp, ∃ r ∈ [n], ∃ f, F[r]? = some f ∧ x ∈ f) ∧ fp.Nodup := by
  obtain ⟨p, f, h1, h2, h3, h4⟩ := handle_live hr hN (.c h)
  obtain ⟨g1, g2, g3, g4, g5⟩ := h3
  obtain ⟨k1, k2⟩ := h4
  have hlen' : (N.rows.take len).length = len := by rw [List.length_take]; omega
  cases hat : p.at? with
  | none =>
    rw [hat] at k2 g5
    obtain ⟨ad, rfl⟩ := k2
    obtain ⟨e1, _, _⟩ := g5
    rw [e1, List.take_nil]
    exact ⟨[], .nilO, by simp, by simp⟩
  | some bo =>
    obtain ⟨b, off⟩ := bo
    rw [hat] at k2 g5
    obtain ⟨ad, cap, rfl, q2, q3, q4⟩ := k2
    obtain ⟨fr, rfl, e2, e3⟩ := g5
    by_cases hcap0 : cap = 0
    · subst hcap0
      have : len = 0 := by omega
      subst this
      rw [List.take_zero]
      exact ⟨[], .nilO, by simp, by simp⟩
    · have had : ad = ⟨b, off, none⟩ := by
        rcases q4 with q4 | q4
        · exact absurd q4 hcap0
        · rw [q4]; simp
      subst had
      rw [c1] at e3
      obtain ⟨f1, f2, f3, hff, hr2⟩ := flatten_sub g4 e3 0 len (by omega)
      rw [List.drop_zero] at hr2
      have hr2 : Rep w S E (.l true (N.rows.take len).flatten b off) f2 := by simpa using hr2
      have hf2 : f2 = [] := by
        refine cells_cp hr2 (rows_cp ?_)
        rw [List.all_eq_true]
        intro row hrow
        exact List.all_eq_true.1 hcp row (List.mem_of_mem_take hrow)
      subst hf2
      have := Rep.own (dat := false) (S := S) (w := w) (E := []) (es := N.es) (rows := N.rows.take len) (b := b) (off := off) (cap := cap) (fp := []) c0 (by
          obtain ⟨arr, el, z, m1, m2, m3⟩ := e2
          refine ⟨arr, el, z, m1, ?_, m3⟩
          have := Nat.mul_le_mul_right N.es (show cap ≤ p.m by omega)
          omega) (by rw [hlen']; exact q2) (fun r hr => g4 r (List.mem_of_mem_take hr)) (hr2.noenv rfl)
      rw [hlen'] at this
      exact ⟨[b], this, fun x hx => ⟨n, by simp, _, h2, by rw [List.mem_singleton.1 hx]; exact List.mem_cons_self ..⟩, by simp⟩
end
section
variable {P : Program} {Φ : Fs}
/-- A function with what it captures. -/
theorem evs_vs {g : G} {S : Nat → Prop} {E : Env} {F : List (List Nat)} {A : St} {a : Act} {w : World} (hr : Rel g S E F A a w) : ∀ {xs : List Operand} {caps : List C}, (∀ x ∈ xs, opdOK x = true) → evsA A xs = some (caps.map .c) → Rep w S E (.vs caps (xs.map a.eval)) []
  | [], caps, _, h => by
    cases caps with
    | nil => exact .vnil
    | cons c cs => simp [evsA] at h
  | x :: xs, caps, hop, h => by
    simp only [evsA] at h
    split at h
    · rename_i d ds h1 h2
      cases caps with
      | nil => simp at h
      | cons c cs =>
        simp only [Z24, Z3, List.cons.injEq] at h
        obtain ⟨rfl, rfl⟩ := h
        have hx := ev_rep hr (hop x (List.mem_cons_self ..)) h1
        cases hx with
        | c hx => exact .vcons (f1 := []) (f2 := []) hx (evs_vs hr (fun y hy => hop y (List.mem_cons_of_mem _ hy)) h2)
    · cases h
theorem step_makeFunc {o : Oper} {A : St} {k : FuncId} {cap : Array Operand} {caps : List C} (ho : o.op = .makeFunc (.func k) #[] cap) (hop : cap.toList.all opdOK = true) (hd : evsA A cap.toList = some (caps.map .c)) : Step P o A (fun A' => A' = A.put o.dst (.c (.f k caps))) := by
  intro g a w ⟨S, E, F, hr⟩ next Q hn
  have h1 : (execOp a.eval o).run P w = .ok (.value (.func (.func k) #[] (cap.map a.eval))) w := by
    simp [execOp, ho, Instr.makeFunc, Sem.run_bind, Sem.run_pure, Sem.run]
  unfold Oper.wp
  rw [h1]
  refine hn _ _ _ rfl ⟨S, E, F, hr.put (.c (.f (.inl rfl) ?_))⟩
  have := evs_vs hr (fun x hx => List.all_eq_true.1 hop x hx) hd
  simpa using this
theorem rr_makeFunc {ops : Array Oper} {o : Oper} {os : List Oper} {A : St} {K : St → Prop} {k : FuncId} {cap : Array Operand} {caps : List C} (hg : o.guard = none) (ho : o.op = .makeFunc (.func k) #[] cap) (hop : cap.toList.all opdOK = true) (hd : evsA A cap.toList = some (caps.map .c))
    (h : RunR P ops os (A.put o.dst (.c (.f k caps))) K) : RunR P ops (o :: os) A K :=
  rr_step hg (step_makeFunc ho hop hd) (by rintro _ rfl; exact h)
/-- One piece of code behind another, with what holds between. -/
theorem seq_cut {x z : Code} {A : St} {Q : Exit → St → Prop} (I : St → Prop) (h2 : ∀ A', I A' → Tri P z A' Q) (h1 : Tri P x A (thenQ I Q)) : Tri P (.seq x z) A Q :=
  tri_seq (h1.mono fun e A' h => by cases e <;> first | exact h2 A' h | exact h)
end
end Go.Dl

namespace Go.Dl
open Go.RowKit
section
variable {P : Program} {Φ : Fs} {A : St} {Q : Exit → St → Prop}
theorem Yj (hm : P.follows .mixedOrders = true) (hΦ : FsOK P Φ) {id : Nat} {l : List Oper} {y : Code} (hok : opsOK l.toArray = true) (hsw : anyOK P Φ l.toArray = true)
    (h : ∃ A', runf P Φ l.toArray l A = some A' ∧ Tri P y A' Q) : Tri P (.seq (.region id l.toArray true) y) A Q := by
  obtain ⟨A', h1, h2⟩ := h
  exact seq_any hm hΦ hok hsw h1 h2
theorem any_endE (hm : P.follows .mixedOrders = true) (hΦ : FsOK P Φ) {id : Nat} {l : List Oper} (hok : opsOK l.toArray = true) (hsw : anyOK P Φ l.toArray = true)
    (h : ∃ A', runf P Φ l.toArray l A = some A' ∧ Q .normal A') : Tri P (.region id l.toArray true) A Q := by
  obtain ⟨A', h1, h2⟩ := h
  exact any_end hm hΦ hok hsw h1 h2
end
end Go.Dl

namespace Go.Dl
open Go.RowKit
section
variable {P : Program}
/-- What is said of a family of inputs: those that 'enc' names, where 'pre' holds; 'out' comes. -/
noncomputable def famO {ι : Type} (pre : ι → Prop) (enc : ι → List D × List Obj) (out : ι → D × List Obj) : List D → List Obj → Option (D × List Obj) := by
  classical exact fun a o => if h : ∃ x, pre x ∧ enc x = (a, o) then some (out h.choose) else none
theorem famO_inv {ι : Type} {pre : ι → Prop} {enc : ι → List D × List Obj} {out : ι → D × List Obj} {a : List D} {o : List Obj} {r : D × List Obj} (h : famO pre enc out a o = some r) :
    ∃ x, pre x ∧ enc x = (a, o) ∧ r = out x := by
  unfold famO at h
  split at h
  · rename_i hh
    cases h
    exact ⟨hh.choose, hh.choose_spec.1, hh.choose_spec.2, rfl⟩
  · cases h
theorem famO_at {ι : Type} {pre : ι → Prop} {enc : ι → List D × List Obj} {out : ι → D × List Obj} (inj : ∀ x y, enc x = enc y → out x = out y) (x : ι) (h : pre x) {a : List D} {o : List Obj}
    (he : enc x = (a, o)) : famO pre enc out a o = some (out x) := by
  unfold famO
  have hx : ∃ x, pre x ∧ enc x = (a, o) := ⟨x, h, he⟩
  rw [dif_pos hx, inj _ x (hx.choose_spec.2.trans he.symm)]
theorem meets_famO {ι : Type} {pre : ι → Prop} {enc : ι → List D × List Obj} {out : ι → D × List Obj} {k : FuncId} {fn : Func} {c : Code} {n : Nat} {rs : List ResultVar} (hf : P.funcs[k]? = some fn) (hb : fn.body = some c) (hnt : fn.ntmps = n) (hrs : fn.results.toList = rs)
    (h : ∀ x, pre x → ∀ Q : D → List Obj → Prop, Q (out x).1 (out x).2 →
      Tri P c ⟨(enc x).1 ++ List.replicate (n - (enc x).1.length) .top, (enc x).2.map fun o => some ⟨false, o.es, o.rows⟩⟩ (Ends P rs (enc x).2.length Q)) : Meets P k (detS (famO pre enc out)) := by
  refine meets_of_tri hf hb hnt hrs ?_
  rintro args objs Q ⟨d, os, hd, hQ⟩
  obtain ⟨x, h1, h2, h3⟩ := famO_inv hd
  have := h x h1 Q (by rw [← h3]; exact hQ)
  rw [h2] at this
  exact this
noncomputable def famP {ι : Type} (pre : ι → Prop) (enc : ι → List D) (out : ι → D) : List D → Option D := by
  classical exact fun a => if h : ∃ x, pre x ∧ enc x = a then some (out h.choose) else none
theorem famP_inv {ι : Type} {pre : ι → Prop} {enc : ι → List D} {out : ι → D} {a : List D} {r : D} (h : famP pre enc out a = some r) : ∃ x, pre x ∧ enc x = a ∧ r = out x := by
  unfold famP at h
  split at h
  · rename_i hh
    cases h
    exact ⟨hh.choose, hh.choose_spec.1, hh.choose_spec.2, rfl⟩
  · cases h
theorem Ym {ι : Type} {pre : ι → Prop} {enc : ι → List D} {out : ι → D} (inj : ∀ x y, enc x = enc y → out x = out y) (x : ι) (h : pre x) {a : List D} (he : enc x = a) : famP pre enc out a = some (out x) := by
  unfold famP
  have hx : ∃ x, pre x ∧ enc x = a := ⟨x, h, he⟩
  rw [dif_pos hx, inj _ x (hx.choose_spec.2.trans he.symm)]
theorem Yn {ι : Type} {pre : ι → Prop} {enc : ι → List D} {out : ι → D} {k : FuncId} {fn : Func} {c : Code} {n : Nat} {rs : List ResultVar} (hf : P.funcs[k]? = some fn) (hb : fn.body = some c) (hnt : fn.ntmps = n) (hrs : fn.results.toList = rs)
    (h : ∀ x, pre x → ∀ Q : D → List Obj → Prop, Q (out x) [] → Tri P c ⟨enc x ++ List.replicate (n - (enc x).length) .top, []⟩ (Ends P rs 0 Q)) : Meets P k (pureS (famP pre enc out)) := by
  refine meets_of_tri hf hb hnt hrs ?_
  rintro args objs Q ⟨rfl, d, hd, hQ⟩
  obtain ⟨x, h1, h2, h3⟩ := famP_inv hd
  have := h x h1 Q (by rw [← h3]; exact hQ)
  rw [h2] at this
  exact this
end
end Go.Dl

namespace Go.Dl
open Go.RowKit
/-- Elements become zero values. -/
def clearA (P : Program) (H : List (Option Root)) (t : TypeId) : D → Option (List (Option Root))
  | .c (.h r lo len) => match H[r]?, tk P t with
    | some (some R), some (.slice e) => match tz P e with
      | some z => if tsz P e ≠ 0 ∧ z.length = R.es ∧ lo + len ≤ R.rows.length ∧ z.all C.dat = true ∧ z.all (C.st H) = true ∧ z.length = tsz P e then
          some (H.set r (some { R with rows := R.rows.take lo ++ (List.replicate len z ++ R.rows.drop (lo + len)) })) else none
      | none => none
    | _, _ => none
  | _ => none
section
variable {P : Program} {g : G} {S : Nat → Prop} {E : Env} {F : List (List Nat)} {A : St} {a : Act} {w : World}
theorem reps_all {α : Type} {p : α → Bool} {z : List α} (h : z.all p = true) : ∀ n, (reps n z).all p = true
  | 0 => rfl
  | n + 1 => by rw [reps, List.all_append, h, reps_all h n]; rfl
theorem zero_reps (z : Array Value) (hz : 0 < z.size) (n : Nat) : (Builtin.zeroCells z n).toList = reps n z.toList := range_reps z hz n
theorem clearA_sound (hr : Rel g S E F A a w) {t ty : TypeId} {d : D} {v : Value} {H' : List (Option Root)} (hd : RepD w S E d v) (h : clearA P A.H t d = some H') :
    ∃ w', (Builtin.clear_ #[t] ty #[v]).run P w = .ok (.tuple #[]) w' ∧ ∃ F', Rel g S E F' { A with H := H' } a w' := by
  unfold clearA at h
  split at h
  · rename_i r lo len
    split at h
    · rename_i R e hR hk
      split at h
      · rename_i z hz
        split at h
        · rename_i hc
          obtain ⟨c1, c2, c3, c4, c5, c6⟩ := hc
          cases h
          obtain ⟨p, f, h1, h2, h3, h4⟩ := handle_live hr hR hd
          obtain ⟨g1, g2, g3, g4, g5⟩ := h3
          obtain ⟨k1, k2⟩ := h4
          have same : len = 0 → A.H.set r (some { R with rows := R.rows.take lo ++ (List.replicate len z ++ R.rows.drop (lo + len)) }) = A.H := by
            rintro rfl
            have : R.rows.take lo ++ (List.replicate 0 z ++ R.rows.drop (lo + 0)) = R.rows := by simp
            rw [this]
            exact set_same hR
          have nothing : len = 0 → ∀ ad cap, v = .slice ad 0 cap → ∃ w', (Builtin.clear_ #[t] ty #[v]).run P w = .ok (.tuple #[]) w' ∧ ∃ F', Rel g S E F' { A with H := A.H.set r (some { R with rows := R.rows.take lo ++ (List.replicate len z ++ R.rows.drop (lo + len)) }) } a w' := by
            rintro h0 ad cap rfl
            refine ⟨w, ?_, F, by rw [same h0]; exact hr⟩
            cases ad <;> simp [Builtin.clear_, run_und (tk_slice hk)]
          cases hat : p.at? with
          | none =>
            rw [hat] at k2 g5
            obtain ⟨ad, rfl⟩ := k2
            have : len = 0 := by rw [g5.1] at c3; simp at c3; exact c3.2
            exact nothing this ad 0 rfl
          | some bo =>
            obtain ⟨b, off⟩ := bo
            rw [hat] at k2 g5
            obtain ⟨ad, cap, rfl, q2, q3, q4⟩ := k2
            by_cases hl0 : len = 0
            · subst hl0; exact nothing rfl (some ad) cap rfl
            have had : ad = ⟨b, off + lo * p.es, none⟩ := by
              rcases q4 with q4 | q4
              · omega
              · exact q4
            subst had
            obtain ⟨fr, rfl, hown, hrep⟩ := g5
            obtain ⟨zv, z1, z2, z3⟩ := tz_some (P := P) (w := w) (S := S) (E := E) hz
            have hz0 : 0 < zv.cells.size := by omega
            have hcr : Rep w S E (.vs (reps len z) (Builtin.zeroCells zv.cells len).toList) [] := by
              rw [zero_reps _ hz0]
              exact reps_vs z2 len
            have hvl := vs_len hcr
            have hone := vs_one hcr (reps_all c5 len) hr
            have hbS : ¬ S b := hr.fS b (flat_get h2 b (List.mem_cons_self ..))
            have hnd : (b :: fr).Nodup := nodup_at hr.nodup h2
            have hbfr : b ∉ fr := (List.nodup_cons.1 hnd).1
            have hsplit : R.rows.flatten = (R.rows.take lo).flatten ++ (((R.rows.drop lo).take len).flatten ++ (R.rows.drop (lo + len)).flatten) := by
              rw [← List.flatten_append, ← List.flatten_append, show R.rows.drop (lo + len) = (R.rows.drop lo).drop len by rw [List.drop_drop], List.take_append_drop, List.take_append_drop]
            have hrep' := hrep
            rw [hsplit] at hrep'
            have flen : ∀ (l : List (List C)), (∀ r ∈ l, r.length = R.es) → l.flatten.length = l.length * R.es := by
              intro l
              induction l with
              | nil => intro _; simp
              | cons x l ih =>
                intro hl
                rw [List.flatten_cons, List.length_append, ih (fun r hr => hl r (List.mem_cons_of_mem _ hr)), hl x (List.mem_cons_self ..), List.length_cons, Nat.succ_mul]
                omega
            have hxl : (R.rows.take lo).flatten.length = lo * R.es := by
              rw [flen _ (fun r hr => g4 r (List.mem_of_mem_take hr)), List.length_take, Nat.min_eq_left (by omega)]
            have hol : ((R.rows.drop lo).take len).flatten.length = len * R.es := by
              rw [flen _ (fun r hr => g4 r (List.mem_of_mem_drop (List.mem_of_mem_take hr))), List.length_take, List.length_drop, Nat.min_eq_left (by omega)]
            have hrl : (reps len z).length = len * R.es := by rw [reps_len, c2]
            have hcs : ∀ j, j < ((R.rows.drop lo).take len).flatten.length → (w.cell? ⟨b, off + (R.rows.take lo).flatten.length + j, none⟩).isSome = true := by
              obtain ⟨_, _, _, _, k2⟩ := hrep'.append
              obtain ⟨_, _, _, k3, _⟩ := k2.append
              exact rep_some k3
            obtain ⟨f1, f2, f3, q1, q2'⟩ := hrep'.write (cells := reps len z) (vs := (Builtin.zeroCells zv.cells len).toList) (by rw [hrl, hol]) hcr (fun _ => reps_all c4 len) (by
              intro b' hb' heq
              subst heq
              exact hb'.elim hbS hbfr) hcs
            have hfz : ∀ j, j < (Builtin.zeroCells zv.cells len).toList.length → w.frozen? ⟨b, off + lo * p.es + 0 + j, none⟩ = false := by
              intro j hj
              obtain ⟨arr, el, z', m1, m2, m3⟩ := hown
              have hs := hcs j (by omega)
              rw [hxl, Option.isSome_iff_exists] at hs
              obtain ⟨u, hu⟩ := hs
              simp only [World.cell?, m1] at hu
              have hlt : off + lo * R.es + j < arr.size := by
                rcases Nat.lt_or_ge (off + lo * R.es + j) arr.size with h | h
                · exact h
                · simp [Array.getElem?_eq_none h] at hu
              have := m3 _ hlt
              rwa [g1, Nat.add_zero]
            have hrun : (Builtin.clear_ #[t] ty #[.slice (some ⟨b, off + lo * p.es, none⟩) len cap]).run P w = .ok (.tuple #[]) (w.setCells b (off + lo * p.es) (Builtin.zeroCells zv.cells len).toList) := by
              have hst := run_storeCells_cells (P := P) b (off + lo * p.es) (Builtin.zeroCells zv.cells len).toList 0 w
                (fun j hj => by
                  have := hcs j (by omega)
                  rw [hxl] at this
                  rwa [g1, Nat.add_zero]) hfz hone
              rw [Nat.add_zero] at hst
              obtain ⟨n, rfl⟩ : ∃ n, len = n + 1 := ⟨len - 1, by omega⟩
              simp [Builtin.clear_, run_und (tk_slice hk), z1, hst]
            refine ⟨_, hrun, ?_⟩
            have hE' : E.set r (some p) = E := set_same h1
            obtain ⟨z1', z2', z3', z4'⟩ := size_setCells b (Builtin.zeroCells zv.cells len).toList (off + lo * p.es) w
            have hres := hr.setRoot (w' := w.setCells b (off + lo * p.es) (Builtin.zeroCells zv.cells len).toList) (R' := { R with rows := R.rows.take lo ++ (List.replicate len z ++ R.rows.drop (lo + len)) }) (p' := p) (f' := b :: (f1 ++ f3)) hR h1 h2
              (fun b' hb' => heap_setCells b _ _ w b' (fun h => by subst h; exact hbS hb'))
              (fun b' _ hb' => heap_setCells b _ _ w b' (fun h => by subst h; exact hb' (List.mem_cons_self ..)))
              (fun b' hb1 hb2 => heap_setCells b _ _ w b' (fun h => by
                subst h
                rcases (hr.fsz b' (flat_get h2 b' (List.mem_cons_self ..))).2 with h | h
                · exact hb2 h
                · omega))
              (by rw [z1']; exact Nat.le_refl _) z2' z3' z4' ?_ ?_ ?_ (.inl p.le_refl) rfl (fun _ => p.le_refl)
            · rw [hE'] at hres
              exact ⟨_, hres⟩
            · rw [hE']
              refine ⟨g1, by simp [g2]; omega, g3, ?_, ?_⟩
              · intro r' hr'
                rcases List.mem_append.1 hr' with h | h
                · exact g4 r' (List.mem_of_mem_take h)
                · rcases List.mem_append.1 h with h | h
                  · rw [List.eq_of_mem_replicate h, c2]
                  · exact g4 r' (List.mem_of_mem_drop h)
              · rw [hat]
                refine ⟨f1 ++ f3, rfl, own_setCells b _ _ w hown, ?_⟩
                have : (R.rows.take lo ++ (List.replicate len z ++ R.rows.drop (lo + len))).flatten = (R.rows.take lo).flatten ++ (reps len z ++ (R.rows.drop (lo + len)).flatten) := by
                  rw [List.flatten_append, List.flatten_append, replicate_flat]
                show Rep _ S E (.l R.dat (R.rows.take lo ++ (List.replicate len z ++ R.rows.drop (lo + len))).flatten b off) (f1 ++ f3)
                rw [this]
                rw [hxl, ← g1] at q2'
                exact q2'
            · rw [q1] at hnd
              have n1 := List.nodup_cons.1 hnd
              have n2 := List.nodup_append.1 n1.2
              have n3 := List.nodup_append.1 n2.2.1
              refine List.nodup_cons.2 ⟨fun h => n1.1 ?_, List.nodup_append.2 ⟨n2.1, n3.2.1, fun x hx y hy => n2.2.2 x hx y (List.mem_append_right _ hy)⟩⟩
              rcases List.mem_append.1 h with h | h
              · exact List.mem_append_left _ h
              · exact List.mem_append_right _ (List.mem_append_right _ h)
            · intro b' hb'
              have hmem : b' ∈ b :: fr := by
                rcases List.mem_cons.1 hb' with h | h
                · rw [h]; exact List.mem_cons_self ..
                · rw [q1]
                  refine List.mem_cons_of_mem _ ?_
                  rcases List.mem_append.1 h with h | h
                  · exact List.mem_append_left _ h
                  · exact List.mem_append_right _ (List.mem_append_right _ h)
              exact ⟨.inl hmem, by rw [z1']; exact (hr.fsz b' (flat_get h2 b' hmem)).1⟩
        · cases h
      · cases h
    · cases h
  · cases h
/-- clear, as an operation. -/
theorem step_clear {o : Oper} {c : Call} {A : St} {x : Operand} {t : TypeId} {d : D} {H' : List (Option Root)} (ho : o.op = .call c) (hop : o.op.operands.toList.all opdOK = true) (hc : c.callee = .builtin .clear) (ha : c.args = #[x]) (ht : c.argTypes = #[t])
    (hx : A.ev x = some d) (h : clearA P A.H t d = some H') (hd : o.dst = none) {R : St → Prop} (hR : R { A with H := H' }) : Step P o A R := by
  intro g a w ⟨S, E, F, hr⟩ next Q hn
  have hxr := ev_rep hr (List.all_eq_true.1 hop x (by simp [ho, Op.operands, Call.operands, hc, ha])) hx
  obtain ⟨w', k1, F', k2⟩ := clearA_sound (P := P) (ty := o.type) hr hxr h
  unfold Oper.wp
  have : (execOp a.eval o).run P w = .ok (.value (.tuple #[])) w' := by simp [execOp, ho, resolve, invoke, builtin, hc, ha, ht, k1]
  rw [this]
  have hR' : R (({ A with H := H' } : St).put o.dst (.t [])) := by rw [hd]; exact hR
  exact hn _ _ _ hR' ⟨S, E, F', k2.put (.t rfl (by simp))⟩
end
end Go.Dl

namespace Go.Dl
open Go.RowKit
/-- A contract of a function that takes its last object over. -/
def MeetsM (P : Program) (k : FuncId) (spec : Spec) : Prop :=
  ∀ (args : List D) (objs : List Obj) (Q : D → List Obj → Prop), spec args objs Q → ∀ (w : World) (S : Nat → Prop) (vs : Array Value) (pls : List Pl) (fps : List (List Nat)),
    args.length = vs.size → (∀ (i : Nat) (d : D), args[i]? = some d → RepD w S (pls.map some) d (vs.getD i undef)) → ObjsAt w S objs pls fps → fps.flatten.Nodup → (∀ b ∈ fps.flatten, ¬ S b ∧ b < w.heap.size) → (∀ b, S b → b < w.heap.size) →
    Calls P k vs w fun e w' => ∃ v d objs', e = .returned v ∧ Q d objs' ∧ objs'.length + 1 = objs.length ∧ Left w w' S pls.dropLast fps d v objs'
/-- A function's end: a slice, of which the head is answered; the first m objects stay. -/
def EndsM (t m : Nat) (Q : D → List Obj → Prop) (e : Exit) (A : St) : Prop :=
  (e = .ret ∨ e = .normal) ∧ ∃ r len N objs, A.sl[t]? = some (.c (.h r 0 len)) ∧ A.H[r]? = some (some N) ∧ N.dat = true ∧ N.es ≠ 0 ∧ len ≤ N.rows.length ∧ (N.rows.all fun row => row.all C.cp) = true ∧ m ≤ r ∧
    outObjs A.H m = some objs ∧ Q (.c (.s true N.es (N.rows.take len))) objs
section
variable {P : Program} {g : G} {S : Nat → Prop} {E : Env} {F : List (List Nat)} {A : St} {a : Act} {w : World}
theorem Rel.afterCallL {w' : World} (hr : Rel g S E F A a w) {ρ B : List Nat} {objs objs' : List Obj} {pls : List Pl} {fps : List (List Nat)} {v : Value} {d : D} (hρn : ρ.Nodup) (hobjs : objsAt A.H ρ = some objs)
    (hlen : pls.length = ρ.length ∧ fps.length = ρ.length) (hpls : ∀ (i r : Nat), ρ[i]? = some r → ∃ p f, E[r]? = some (some p) ∧ F[r]? = some f ∧ pls[i]? = some p ∧ fps[i]? = some f)
    (hBρ : ∀ r ∈ B, r ∉ ρ) (hl : objs'.length = objs.length) {L : List Nat} (hL : ∀ b ∈ L, b ∉ F.flatten ∧ ¬ S b ∧ b < w.heap.size ∧ (b ∈ g.own ∨ g.w0.heap.size ≤ b)) (left : Left w w' (fun b => S b ∨ Lent F B b) pls (fps ++ [L]) d v objs') (hni : B = [] ∨ (d.ni = true ∧ ∀ o ∈ objs', Obj.ni o = true)) :
    ∃ S'' E'' F'', Rel g S'' E'' F'' { A with H := (settle (setObjs A.H ρ objs') d).2 } a w' ∧ RepD w' S'' E'' (settle (setObjs A.H ρ objs') d).1 v := by
  obtain ⟨S', pls', fps', fpd, l1, l2, l3, l4, l5, l6, l7⟩ := left.rest
  obtain ⟨m1, m2, m3⟩ := l4
  obtain ⟨ob1, ob2⟩ := objsAt_spec hobjs
  have hρH : ∀ r ∈ ρ, ∃ R, A.H[r]? = some (some R) := by
    intro r hrm
    obtain ⟨i, hi⟩ := List.getElem?_of_mem hrm
    have hi' := lt_len hi
    obtain ⟨r', R, e1, e2, _⟩ := ob2 i (objs[i]'(by omega)) (List.getElem?_eq_getElem _)
    rw [hi] at e1; cases e1
    exact ⟨R, e2⟩
  have hρlt : ∀ r ∈ ρ, r < A.H.length := fun r hrm => by obtain ⟨R, hR⟩ := hρH r hrm; exact lt_len hR
  obtain ⟨s1, s2, s3⟩ := setObjs_eq (H := A.H) (ρ := ρ) (objs := objs') (by omega) hρn hρH
  have hlp : ρ.length = (pls'.map some).length := by simp; omega
  have hlf : ρ.length = fps'.length := by omega
  -- the memory that stays
  have hSS : ∀ b, S b → S' b ∧ ¬ Lent F B b := by
    intro b hb
    refine ⟨l1 b (.inl hb), ?_⟩
    rintro ⟨r, _, f, h1, h2⟩
    exact hr.fS b (flat_get h1 b h2) hb
  have hfpsA : ∀ b, b ∈ (fps ++ [L]).flatten → b ∈ fps.flatten ∨ b ∈ L := by
    intro b hb
    rw [List.flatten_append, List.mem_append] at hb
    simpa using hb
  have hfpsF0 : ∀ b, b ∈ fps.flatten → b ∈ F.flatten := by
    intro b hb
    obtain ⟨f, h1, h2⟩ := List.mem_flatten.1 hb
    obtain ⟨i, hi⟩ := List.getElem?_of_mem h1
    have hi' := lt_len hi
    obtain ⟨p, f', e1, e2, e3, e4⟩ := hpls i (ρ[i]'(by omega)) (List.getElem?_eq_getElem _)
    rw [hi] at e4; cases e4
    exact flat_get e2 b h2
  have hfpsF : ∀ b, b ∈ (fps ++ [L]).flatten → b < w.heap.size ∧ (b ∈ g.own ∨ g.w0.heap.size ≤ b) := by
    intro b hb
    rcases hfpsA b hb with h | h
    · exact hr.fsz b (hfpsF0 b h)
    · exact (hL b h).2.2
  have hfpsρ : ∀ {b r : Nat} {f : List Nat}, b ∈ (fps ++ [L]).flatten → F[r]? = some f → b ∈ f → r ∈ ρ := by
    intro b r f hb hF hbf
    have hb : b ∈ fps.flatten := (hfpsA b hb).resolve_right fun h => (hL b h).1 (flat_get hF b hbf)
    obtain ⟨f', h1, h2⟩ := List.mem_flatten.1 hb
    obtain ⟨i, hi⟩ := List.getElem?_of_mem h1
    have hi' := lt_len hi
    obtain ⟨p, f2, e1, e2, e3, e4⟩ := hpls i (ρ[i]'(by omega)) (List.getElem?_eq_getElem _)
    rw [hi] at e4; cases e4
    have := apart hr hF e2 hbf h2
    subst this
    exact List.getElem_mem _
  have hkeepS : ∀ b, S b → w'.heap[b]? = w.heap[b]? := fun b hb => left.keep b (hr.Ssz b hb).1 (fun h => by
    rcases hfpsA b h with h | h
    · exact hr.fS b (hfpsF0 b h) hb
    · exact (hL b h).2.1 hb)
  have hkeepF : ∀ {r : Nat} {f : List Nat} {b : Nat}, r ∉ ρ → F[r]? = some f → b ∈ f → w'.heap[b]? = w.heap[b]? :=
    fun hrm hF hb => left.keep _ (hr.fsz _ (flat_get hF _ hb)).1 (fun h => hrm (hfpsρ h hF hb))
  have hE : EnvLe E (setAll E ρ (pls'.map some)) (fun _ => false) := by
    refine ⟨by rw [setAll_len]; exact Nat.le_refl _, fun r hrl _ q hq => ?_⟩
    by_cases hm : r ∈ ρ
    · obtain ⟨i, hi⟩ := List.getElem?_of_mem hm
      have hi' := lt_len hi
      obtain ⟨p, f, e1, e2, e3, e4⟩ := hpls i r hi
      have := setAll_in ρ (pls'.map some) E hρn (fun r hr' => by rw [hr.lE]; exact hρlt r hr') i r (some (pls'[i]'(by omega))) hi (by simp)
      rw [this] at hq
      cases hq
      exact ⟨p, e1, l7 i p _ e3 (List.getElem?_eq_getElem _)⟩
    · rw [setAll_out ρ _ E hm] at hq
      exact ⟨q, hq, q.le_refl⟩
  have hEok : ∀ ok : Nat → Bool, EnvLe E (setAll E ρ (pls'.map some)) ok := fun ok => ⟨hE.1, fun i hi _ q hq => hE.2 i hi rfl q hq⟩
  have hfps'old : ∀ b, b ∈ fps'.flatten → b ∈ (fps ++ [L]).flatten ∨ w.heap.size ≤ b := fun b hb => (l6 b (List.mem_append_right _ hb)).2.2
  have hB0 : B = [] → ∀ b, ¬ Lent F B b := by
    rintro rfl b ⟨r, h, _⟩; cases h
  have hrel : Rel g (fun b => S' b ∧ ¬ Lent F B b) (setAll E ρ (pls'.map some)) (setAll F ρ fps') { A with H := setObjs A.H ρ objs' } a w' := by
    refine { len := hr.len, sl := ?_, defers := hr.defers, lE := by rw [setAll_len, s1]; exact hr.lE, lF := by rw [setAll_len, s1]; exact hr.lF, root := ?_, dead := ?_, nodup := ?_, fS := ?_, fsz := ?_, Ssz := ?_, S0 := fun b hb => hSS b (hr.S0 b hb), prot := ?_, size := Nat.le_trans hr.size left.size, os := left.os.trans hr.os, tape := left.tape.trans hr.tape, output := left.output.trans hr.output, fix := ?_ }
    · intro t d' hd
      exact (hr.sl t d' hd).mono hSS (hEok _) hkeepS
    · intro r R' hR'
      by_cases hm : r ∈ ρ
      · obtain ⟨i, hi⟩ := List.getElem?_of_mem hm
        have hi' := lt_len hi
        obtain ⟨R, e1, e2⟩ := s3 i r (objs'[i]'(by omega)) hi (List.getElem?_eq_getElem _)
        rw [e2] at hR'
        cases hR'
        obtain ⟨r2, R2, f1, f2, f3, f4⟩ := ob2 i (objs[i]'(by omega)) (List.getElem?_eq_getElem _)
        rw [hi] at f1; cases f1
        rw [e1] at f2; cases f2
        obtain ⟨p', f', k1, k2, k3⟩ := m3 i (objs'[i]'(by omega)) (List.getElem?_eq_getElem _)
        refine ⟨p', f', setAll_in ρ _ E hρn (fun r hr' => by rw [hr.lE]; exact hρlt r hr') i r (some p') hi (by rw [List.getElem?_map, k1]; rfl), setAll_in ρ fps' F hρn (fun r hr' => by rw [hr.lF]; exact hρlt r hr') i r f' hi k2, ?_⟩
        obtain ⟨g1, g2, g3, g4, g5⟩ := k3
        have hes : (objs'[i]'(by omega)).es = R.es := by
          obtain ⟨p, f, q1, q2, q3, q4⟩ := hpls i r hi
          have hle := l7 i p p' q3 k1
          obtain ⟨p0, f0, t1, t2, t3⟩ := hr.root r R e1
          rw [q1] at t1; cases t1
          have g1' : p'.es = (objs'[i]'(by omega)).es := g1
          rw [← g1', hle.2.1, t3.1]
        refine ⟨g1.trans hes, g2, g3, fun row hrow => (g4 row hrow).trans hes, ?_⟩
        cases hat : p'.at? with
        | none => rw [hat] at g5; exact g5
        | some bo =>
          obtain ⟨b, off⟩ := bo
          rw [hat] at g5
          obtain ⟨fr, u1, u2, u3⟩ := g5
          refine ⟨fr, u1, by show OwnBlock w' b (off + p'.m * R.es); rw [← hes]; exact u2, ?_⟩
          have u4 : Rep w' (fun b => S' b ∧ ¬ Lent F B b) [] (.l true (objs'[i]'(by omega)).rows.flatten b off) fr := by
            rcases hni with h0 | h0
            · exact u3.mono (fun b hb => ⟨hb, hB0 h0 b⟩) (.refl _ _) (fun _ _ => rfl)
            · exact u3.ni (niRow_flat (h0.2 _ (List.getElem_mem _)))
          have u5 := u4.noenv (E' := setAll E ρ (pls'.map some)) rfl
          cases hdat : R.dat with
          | true => exact u5
          | false =>
            have : ∀ {cs : List C} {off : Nat} {fp : List Nat} {b : Nat}, Rep w' (fun b => S' b ∧ ¬ Lent F B b) (setAll E ρ (pls'.map some)) (.l true cs b off) fp → Rep w' (fun b => S' b ∧ ¬ Lent F B b) (setAll E ρ (pls'.map some)) (.l false cs b off) fp := by
              intro cs
              induction cs with
              | nil => intro off fp b h; cases h; exact .lnil
              | cons c cs ih =>
                intro off fp b h
                cases h with
                | lcons hv h1 h2 => exact .lcons hv h1.undat (ih h2)
                | lb hv hz h0 h1 h2 => exact .lb hv hz h0 h1 (ih h2)
            exact this u5
      · have hR := hR'
        rw [s2 r hm] at hR
        obtain ⟨p, f, k1, k2, k3⟩ := hr.root r R' hR
        refine ⟨p, f, by rw [setAll_out ρ _ E hm]; exact k1, by rw [setAll_out ρ _ F hm]; exact k2, k3.mono hSS (hEok _) ?_⟩
        intro b hb
        rcases hb with hb | hb
        · exact hkeepS b hb
        · exact hkeepF hm k2 hb
    · intro r hR'
      by_cases hm : r ∈ ρ
      · obtain ⟨i, hi⟩ := List.getElem?_of_mem hm
        have hi' := lt_len hi
        obtain ⟨R, e1, e2⟩ := s3 i r (objs'[i]'(by omega)) hi (List.getElem?_eq_getElem _)
        rw [e2] at hR'; cases hR'
      · have hR := hR'
        rw [s2 r hm] at hR
        obtain ⟨k1, k2⟩ := hr.dead r hR
        exact ⟨by rw [setAll_out ρ _ E hm]; exact k1, by rw [setAll_out ρ _ F hm]; exact k2⟩
    · have l5' := (List.nodup_append.1 l5).2.1
      refine nodup_flat ?_ ?_
      · intro f hf
        obtain ⟨r, hrl, rfl⟩ := List.getElem_of_mem hf
        by_cases hm : r ∈ ρ
        · obtain ⟨i, hi⟩ := List.getElem?_of_mem hm
          have hi' := lt_len hi
          have := setAll_in ρ fps' F hρn (fun r hr' => by rw [hr.lF]; exact hρlt r hr') i r (fps'[i]'(by omega)) hi (List.getElem?_eq_getElem _)
          rw [List.getElem?_eq_getElem hrl] at this
          simp at this
          rw [this]
          exact nodup_at l5' (List.getElem?_eq_getElem (by omega))
        · have := setAll_out ρ fps' F hm
          rw [List.getElem?_eq_getElem hrl] at this
          exact nodup_at hr.nodup this.symm
      · intro i j f f' x hi hj hx hx'
        by_cases hmi : i ∈ ρ
        · obtain ⟨i1, hi1⟩ := List.getElem?_of_mem hmi
          have hi1' := lt_len hi1
          have e1 := setAll_in ρ fps' F hρn (fun r hr' => by rw [hr.lF]; exact hρlt r hr') i1 i (fps'[i1]'(by omega)) hi1 (List.getElem?_eq_getElem _)
          rw [hi] at e1
          cases e1
          by_cases hmj : j ∈ ρ
          · obtain ⟨j1, hj1⟩ := List.getElem?_of_mem hmj
            have hj1' := lt_len hj1
            have e2 := setAll_in ρ fps' F hρn (fun r hr' => by rw [hr.lF]; exact hρlt r hr') j1 j (fps'[j1]'(by omega)) hj1 (List.getElem?_eq_getElem _)
            rw [hj] at e2
            cases e2
            have := apart_flat l5' (List.getElem?_eq_getElem (by omega)) (List.getElem?_eq_getElem (by omega)) hx hx'
            subst this
            rw [hi1] at hj1; cases hj1; rfl
          · rw [setAll_out ρ _ F hmj] at hj
            exfalso
            have hxf : x ∈ fps'.flatten := List.mem_flatten.2 ⟨_, List.getElem_mem (by omega), hx⟩
            rcases hfps'old x hxf with h | h
            · exact hmj (hfpsρ h hj hx')
            · have := (hr.fsz x (flat_get hj x hx')).1; omega
        · rw [setAll_out ρ _ F hmi] at hi
          by_cases hmj : j ∈ ρ
          · obtain ⟨j1, hj1⟩ := List.getElem?_of_mem hmj
            have hj1' := lt_len hj1
            have e2 := setAll_in ρ fps' F hρn (fun r hr' => by rw [hr.lF]; exact hρlt r hr') j1 j (fps'[j1]'(by omega)) hj1 (List.getElem?_eq_getElem _)
            rw [hj] at e2
            cases e2
            exfalso
            have hxf : x ∈ fps'.flatten := List.mem_flatten.2 ⟨_, List.getElem_mem (by omega), hx'⟩
            rcases hfps'old x hxf with h | h
            · exact hmi (hfpsρ h hi hx)
            · have := (hr.fsz x (flat_get hi x hx)).1; omega
          · rw [setAll_out ρ _ F hmj] at hj
            exact apart hr hi hj hx hx'
    · intro b hb hS
      rcases flat_setAll hρn hlf (fun r hr' => by rw [hr.lF]; exact hρlt r hr') hb with h | ⟨r, f, hm, h1, h2⟩
      · exact (l6 b (List.mem_append_right _ h)).1 hS.1
      · have hbF := flat_get h1 b h2
        rcases (l2 b hS.1).2 with (h | h) | h | h
        · exact hr.fS b hbF h
        · exact hS.2 h
        · exact hm (hfpsρ h h1 h2)
        · have := (hr.fsz b hbF).1; omega
    · intro b hb
      rcases flat_setAll hρn hlf (fun r hr' => by rw [hr.lF]; exact hρlt r hr') hb with h | ⟨r, f, hm, h1, h2⟩
      · obtain ⟨_, k2, k3⟩ := l6 b (List.mem_append_right _ h)
        refine ⟨k2, ?_⟩
        rcases k3 with k3 | k3
        · exact (hfpsF b k3).2
        · exact .inr (Nat.le_trans hr.size k3)
      · have hbF := flat_get h1 b h2
        exact ⟨Nat.lt_of_lt_of_le (hr.fsz b hbF).1 left.size, (hr.fsz b hbF).2⟩
    · intro b hb
      obtain ⟨k1, k2⟩ := l2 b hb.1
      refine ⟨k1, ?_⟩
      rcases k2 with (k2 | k2) | k2 | k2
      · exact (hr.Ssz b k2).2
      · exact absurd k2 hb.2
      · exact .inr (hfpsF b k2).2
      · exact .inr (.inr (Nat.le_trans hr.size k2))
    · intro b h1 h2
      rw [left.keep b (Nat.lt_of_lt_of_le h1 hr.size) ?_]
      · exact hr.prot b h1 h2
      · intro h
        rcases (hfpsF b h).2 with k | k
        · exact h2 k
        · omega
    · intro r q hq
      obtain ⟨h1, h2⟩ := hr.fix r q hq
      refine ⟨by show r < (setObjs A.H ρ objs').length; rw [s1]; exact h1, fun R' hR' => ?_⟩
      by_cases hm : r ∈ ρ
      · obtain ⟨i, hi⟩ := List.getElem?_of_mem hm
        have hi' := lt_len hi
        obtain ⟨R, e1, e2⟩ := s3 i r (objs'[i]'(by omega)) hi (List.getElem?_eq_getElem _)
        rw [e2] at hR'
        cases hR'
        obtain ⟨k1, k2⟩ := h2 R e1
        refine ⟨k1, fun p1 hp1 => ?_⟩
        obtain ⟨p, f, q1, q2, q3, q4⟩ := hpls i r hi
        have := setAll_in ρ (pls'.map some) E hρn (fun r hr' => by rw [hr.lE]; exact hρlt r hr') i r (some (pls'[i]'(by omega))) hi (by simp)
        rw [this] at hp1
        cases hp1
        exact (k2 p q1).trans (l7 i p _ q3 (List.getElem?_eq_getElem _))
      · have hR := hR'
        rw [s2 r hm] at hR
        obtain ⟨k1, k2⟩ := h2 R' hR
        exact ⟨k1, fun p1 hp1 => k2 p1 (by rwa [setAll_out ρ _ E hm] at hp1)⟩
  have hnew : New g (fun b => S' b ∧ ¬ Lent F B b) (setAll F ρ fps') w' fpd := by
    refine ⟨(List.nodup_append.1 l5).1, fun b hb => ?_⟩
    obtain ⟨k1, k2, k3⟩ := l6 b (List.mem_append_left _ hb)
    refine ⟨?_, fun h => k1 h.1, k2, ?_⟩
    · intro hh
      rcases flat_setAll hρn hlf (fun r hr' => by rw [hr.lF]; exact hρlt r hr') hh with h | ⟨r, f, hm, h1, h2⟩
      · exact (List.nodup_append.1 l5).2.2 b hb b h rfl
      · rcases k3 with k3 | k3
        · exact hm (hfpsρ k3 h1 h2)
        · have := (hr.fsz b (flat_get h1 b h2)).1; omega
    · rcases k3 with k3 | k3
      · exact (hfpsF b k3).2
      · exact .inr (Nat.le_trans hr.size k3)
  obtain ⟨E2, F2, r1, r2, _, _⟩ := settle_sound hrel (d := d) (v := v) (l3.mono (by
    rcases hni with h0 | h0
    · exact .inl fun b hb => ⟨hb, hB0 h0 b⟩
    · exact .inr h0.1)) hnew
  exact ⟨_, E2, F2, r1, r2⟩
theorem meets_m {k : FuncId} {fn : Func} {c : Code} {spec : Spec} {n : Nat} (hf : P.funcs[k]? = some fn) (hb : fn.body = some c) (hnt : fn.ntmps = n) {t : Nat} (hrs : fn.results.toList = [ResultVar.tmp t])
    (h : ∀ (args : List D) (objs : List Obj) (Q : D → List Obj → Prop), spec args objs Q → ∃ ko mo, objs = ko ++ [mo] ∧
      Tri P c ⟨args ++ List.replicate (n - args.length) .top, (ko.map fun o => some ⟨false, o.es, o.rows⟩) ++ [some ⟨true, mo.es, mo.rows⟩]⟩ (EndsM t ko.length Q)) : MeetsM P k spec := by
  subst hnt
  intro args objs Q hs w S vs pls fps hlen hargs hobjs hnd hfs hS
  obtain ⟨ko, mo, rfl, h⟩ := h args objs Q hs
  obtain ⟨o1, o2, o3⟩ := hobjs
  have o1' : pls.length = ko.length + 1 := by simpa using o1
  have o2' : fps.length = ko.length + 1 := by simpa using o2
  refine calls_of_wp hf hb ?_
  have hrel : Rel ⟨w, S, fps.flatten, pls.dropLast⟩ S (pls.map some) fps ⟨args ++ List.replicate (fn.ntmps - args.length) .top, (ko.map fun o => some ⟨false, o.es, o.rows⟩) ++ [some ⟨true, mo.es, mo.rows⟩]⟩
      { tmps := vs ++ Array.replicate (fn.ntmps - vs.size) undef, defers := [] } w := by
    refine { len := by simp [hlen], sl := ?_, defers := rfl, lE := by simp [o1'], lF := by simp [o2'], root := ?_, dead := ?_, nodup := hnd, fS := fun b hb => (hfs b hb).1, fsz := fun b hb => ⟨(hfs b hb).2, .inl hb⟩, Ssz := fun b hb => ⟨hS b hb, .inl hb⟩, S0 := fun _ h => h, prot := fun _ _ _ => rfl, size := Nat.le_refl _, os := rfl, tape := rfl, output := .rf _, fix := ?_ }
    · intro t d hd
      by_cases ht : t < args.length
      · rw [List.getElem?_append_left ht] at hd
        have := hargs t d hd
        have ht' : t < vs.size := by omega
        rw [Array.getD_eq_getD_getElem?, Array.getElem?_append_left ht', ← Array.getD_eq_getD_getElem?]
        exact this
      · rw [List.getElem?_append_right (by omega)] at hd
        have := List.eq_of_mem_replicate (List.mem_of_getElem? hd)
        subst this
        exact .top
    · intro r R hR
      by_cases hrk : r < ko.length
      · rw [List.getElem?_append_left (by simpa using hrk)] at hR
        simp only [List.getElem?_map, Option.map_eq_some_iff, Z3] at hR
        obtain ⟨ob, h1, rfl⟩ := hR
        obtain ⟨p, f, k1, k2, k3⟩ := o3 r ob (by rw [List.getElem?_append_left hrk]; exact h1)
        refine ⟨p, f, by simp [k1], k2, ?_⟩
        obtain ⟨g1, g2, g3, g4, g5⟩ := k3
        refine ⟨g1, g2, g3, g4, ?_⟩
        cases hat : p.at? with
        | none => rw [hat] at g5; exact g5
        | some bo =>
          rw [hat] at g5
          obtain ⟨fr, e1, e2, e3⟩ := g5
          refine ⟨fr, e1, e2, ?_⟩
          have : ∀ {cs : List C} {off : Nat} {fp : List Nat} {b : Nat}, Rep w S [] (.l true cs b off) fp → Rep w S (pls.map some) (.l false cs b off) fp := by
            intro cs
            induction cs with
            | nil => intro off fp b h; cases h; exact .lnil
            | cons c cs ih =>
              intro off fp b h
              cases h with
              | lcons hv h1 h2 => exact .lcons hv (h1.noenv (.inl rfl)).undat (ih h2)
              | lb hv hz h0 h1 h2 => exact .lb hv hz h0 h1 (ih h2)
          exact this e3
      · have hrl := lt_len hR
        have hre : r = ko.length := by simp at hrl; omega
        subst hre
        simp at hR
        subst hR
        obtain ⟨p, f, k1, k2, k3⟩ := o3 ko.length mo (by simp)
        refine ⟨p, f, by simp [k1], k2, ?_⟩
        obtain ⟨g1, g2, g3, g4, g5⟩ := k3
        refine ⟨g1, g2, g3, g4, ?_⟩
        cases hat : p.at? with
        | none => rw [hat] at g5; exact g5
        | some bo =>
          rw [hat] at g5
          obtain ⟨fr, e1, e2, e3⟩ := g5
          exact ⟨fr, e1, e2, e3.noenv rfl⟩
    · intro r hR
      rw [List.getElem?_append] at hR
      split at hR
      · simp only [List.getElem?_map, Option.map_eq_some_iff] at hR
        obtain ⟨ob, _, h2⟩ := hR
        cases h2
      · rw [List.getElem?_singleton] at hR
        split at hR <;> cases hR
    · intro r q hq
      have hrq := lt_len hq
      rw [List.length_dropLast] at hrq
      rw [List.getElem?_dropLast, if_pos hrq] at hq
      refine ⟨by simp; omega, fun R hR => ?_⟩
      rw [List.getElem?_append_left (by simp; omega)] at hR
      simp only [List.getElem?_map, Option.map_eq_some_iff, Z3] at hR
      obtain ⟨ob, _, rfl⟩ := hR
      refine ⟨rfl, fun p hp => ?_⟩
      rw [List.getElem?_map, hq] at hp
      cases hp
      exact q.le_refl
  have htri := h ⟨w, S, fps.flatten, pls.dropLast⟩ _ w ⟨_, _, _, hrel⟩
  refine wp_mono htri ?_
  rintro e a' w' ⟨A', ⟨S', E', F', hr'⟩, hend, r, len, N, objs', q1, q2, q3, q4, q5, q6, q7, t3, t6⟩
  have hm : Yi P A' fn.results.toList = some [.c (.h r 0 len)] := by rw [hrs]; simp [Yi, resD, q1]
  obtain ⟨vs', m1, m2, m3⟩ := resDs_sound (P := P) hr' _ (fun r d h => resD_sound hr' h) hm
  obtain ⟨v, rfl⟩ : ∃ v, vs' = [v] := by
    match vs', m2 with
    | [v], _ => exact ⟨v, rfl⟩
  have r1 : (results fn a'.tmps).run P w' = .ok v w' := by
    unfold results
    rw [Array.mapM_eq_mapM_toList, Sem.run_bind, Sem.run_map]
    refine Eq.trans (b := ((Result.ok [v] w').andThen fun a w' => Result.ok a.toArray w').andThen fun a w' => (pure (if h : a.size = 1 then a[0] else .tuple a) : Sem Value).run P w') ?_ ?_
    · rw [← m1]; rfl
    · simp only [Result.andThen_ok, Sem.run_pure, List.size_toArray]
      simp
  have hv : RepD w' S' E' (.c (.h r 0 len)) v := m3 0 _ rfl
  obtain ⟨fp, r2, r3, r4⟩ := outC_take hr' q2 q3 q4 q5 q6 (by cases hv with | c h => exact h)
  have r2 : RepO w' S' (.c (.s true N.es (N.rows.take len))) v fp := r2
  generalize hdd : (.c (.s true N.es (N.rows.take len)) : D) = d at r2 t6
  have t5 : ∀ x ∈ [r], ko.length ≤ x := fun x hx => by rw [List.mem_singleton.1 hx]; exact q7
  obtain ⟨ob1, ob2⟩ := outObjs_spec t3
  have hmE : ko.length ≤ A'.H.length := by
    rcases Nat.eq_zero_or_pos ko.length with h0 | h0
    · omega
    · have := (hr'.fix (ko.length - 1) ((pls.dropLast)[ko.length - 1]'(by simp; omega)) (List.getElem?_eq_getElem _)).1
      omega
  have hpost : ∃ v, (results fn a'.tmps).run P w' = .ok v w' ∧ ∃ v' d objs', Ending.returned v = .returned v' ∧ Q d objs' ∧ objs'.length + 1 = (ko ++ [mo]).length ∧ Left w w' S pls.dropLast fps d v' objs' := by
    refine ⟨v, r1, v, d, objs', rfl, t6, by simp [ob1], ?_⟩
    have hpls : ∀ i, i < ko.length → ∃ p f, E'[i]? = some (some p) ∧ F'[i]? = some f := by
      intro i hi
      obtain ⟨R, k1, _, _⟩ := ob2 i (objs'[i]'(by omega)) (List.getElem?_eq_getElem _)
      obtain ⟨p, f, q1, q2, _⟩ := hr'.root i R k1
      exact ⟨p, f, q1, q2⟩
    have hE'l : ko.length ≤ E'.length := by rw [hr'.lE]; exact hmE
    have hF'l : ko.length ≤ F'.length := by rw [hr'.lF]; exact hmE
    refine { size := hr'.size, keep := hr'.prot, os := hr'.os, tape := hr'.tape, output := hr'.output, rest := ⟨S', (E'.take ko.length).map (fun o => o.getD ⟨none, 0, 0, 0⟩), F'.take ko.length, fp, hr'.S0, ?_, r2, ⟨?_, ?_, ?_⟩, ?_, ?_, ?_⟩ }
    · intro b hb
      exact hr'.Ssz b hb
    · simp [ob1]; omega
    · simp [ob1]; omega
    · intro i ob hob
      obtain ⟨R, k1, k2, k3⟩ := ob2 i ob hob
      obtain ⟨p, f, q1, q2, q3⟩ := hr'.root i R k1
      have hi : i < ko.length := by rw [← ob1]; exact lt_len hob
      refine ⟨p, f, by rw [List.getElem?_map, List.getElem?_take, if_pos hi, q1]; rfl, by rw [List.getElem?_take, if_pos hi]; exact q2, ?_⟩
      subst k3
      obtain ⟨g1, g2, g3, g4, g5⟩ := q3
      refine ⟨g1, g2, g3, g4, ?_⟩
      cases hat : p.at? with
      | none => rw [hat] at g5; exact g5
      | some bo =>
        rw [hat] at g5
        obtain ⟨fr, e1, e2, e3⟩ := g5
        exact ⟨fr, e1, e2, (e3.ldat (rows_dat k2)).noenv rfl⟩
    · rw [List.nodup_append]
      refine ⟨r4, ?_, ?_⟩
      · have := hr'.nodup
        rw [← List.take_append_drop ko.length F', List.flatten_append, List.nodup_append] at this
        exact this.1
      · intro x hx y hy hxy
        subst hxy
        obtain ⟨r, k1, f, k2, k3⟩ := r3 x hx
        obtain ⟨f', m1, m2⟩ := List.mem_flatten.1 hy
        obtain ⟨i, hi, rfl⟩ := List.getElem_of_mem m1
        have hi' : i < ko.length := by simp at hi; omega
        have hF : F'[i]? = some ((F'.take ko.length)[i]) := by
          rw [List.getElem_take]; exact List.getElem?_eq_getElem _
        have := apart hr' k2 hF k3 m2
        have := t5 r k1
        omega
    · intro b hb
      have hbF : b ∈ F'.flatten := by
        rcases List.mem_append.1 hb with h | h
        · obtain ⟨r, k1, f, k2, k3⟩ := r3 b h
          exact flat_get k2 b k3
        · obtain ⟨f', m1, m2⟩ := List.mem_flatten.1 h
          exact List.mem_flatten.2 ⟨f', List.mem_of_mem_take m1, m2⟩
      exact ⟨hr'.fS b hbF, (hr'.fsz b hbF).1, (hr'.fsz b hbF).2⟩
    · intro i p p' hp hp'
      have hi : i < ko.length := by have := lt_len hp; simp at this; omega
      rw [List.getElem?_map, List.getElem?_take, if_pos hi] at hp'
      obtain ⟨p2, f2, q1, q2⟩ := hpls i hi
      rw [q1] at hp'
      simp at hp'
      subst hp'
      obtain ⟨R, k1, _, _⟩ := ob2 i (objs'[i]'(by omega)) (List.getElem?_eq_getElem _)
      exact ((hr'.fix i p hp).2 R k1).2 p2 q1
  rcases hend with rfl | rfl
  · obtain ⟨v, h1, h2⟩ := hpost
    exact ⟨hr'.defers, v, h1, h2⟩
  · obtain ⟨v, h1, h2⟩ := hpost
    exact ⟨hr'.defers, v, h1, h2⟩
theorem step_callM {o : Oper} {c : Call} {A : St} {R : St → Prop} {k : FuncId} {caps : List C} {f : Operand} {ds ds' : List D} {ρ B : List Nat} {r : Nat} {ko : List Obj} {mo : Obj} {spec : Spec} {Q : D → List Obj → Prop}
    (ho : o.op = .call c) (hop : o.op.operands.toList.all opdOK = true) (hc : c.callee = .value f) (hf : A.ev f = some (.c (.f k caps))) (hk : callable P k = true) (hds : evsA A c.args.toList = some ds)
    (harg : argFs A.H (ρ ++ [r]) (ds ++ caps.map .c) = some (ds', B)) (hρ : (ρ ++ [r]).Nodup) (hobjs : objsAt A.H (ρ ++ [r]) = some (ko ++ [mo])) (hobjs1 : objsAt ((killH r A.H).set r none) ρ = some ko) (hm : MeetsM P k spec) (hs : spec ds' (ko ++ [mo]) Q)
    (hR : ∀ d objs', Q d objs' → objs'.length = ko.length → (B = [] ∨ (d.ni = true ∧ ∀ o ∈ objs', Obj.ni o = true)) ∧ R (St.put ⟨A.sl.map (D.kill r), (settle (setObjs ((killH r A.H).set r none) ρ objs') d).2⟩ o.dst (settle (setObjs ((killH r A.H).set r none) ρ objs') d).1)) :
    Step P o A R := by
  intro g a w ⟨S, E, F, hr⟩ next Q0 hn
  have hopm : ∀ x ∈ c.args.toList, opdOK x = true := fun x hx => List.all_eq_true.1 hop x (by rw [ho]; simp only [Op.operands, Call.operands, Array.toList_append, List.mem_append]; exact .inr hx)
  have hopf : opdOK f = true := List.all_eq_true.1 hop f (by rw [ho]; simp [Op.operands, Call.operands, hc])
  obtain ⟨e1, e2⟩ := evsA_spec hds
  -- the callee
  have hfv := ev_rep hr hopf hf
  have hcs : ∃ cs : Array Value, a.eval f = .func (.func k) #[] cs ∧ Rep w S E (.vs caps cs.toList) [] := by
    generalize a.eval f = vf at hfv
    cases hfv with
    | c h => cases h with
      | f _ hh => exact ⟨_, rfl, hh⟩
  obtain ⟨cs, hfe, hcaps⟩ := hcs
  have hrun : (execOp a.eval o).run P w = .ok (.enter k (c.args.map a.eval ++ cs)) w := by
    have h1 : (execOp a.eval o).run P w = (invoke (.fn (.func k) cs) (#[] ++ c.args.map a.eval)).run P w := by
      simp only [execOp, ho, Sem.run_bind, resolve, hc, Deferred.ofValue, hfe, Sem.run_pure, Result.andThen_ok]
    rw [h1]
    simp only [invoke, Array.empty_append]
    exact run_callFunc hk
  -- the objects
  generalize hρ' : ρ ++ [r] = ρ' at harg hρ hobjs
  generalize hob' : ko ++ [mo] = objs at hobjs hs
  have hrr : r ∈ ρ' := by rw [← hρ']; simp
  obtain ⟨ob1, ob2⟩ := objsAt_spec hobjs
  have hρH : ∀ r ∈ ρ', ∃ R p f, A.H[r]? = some (some R) ∧ E[r]? = some (some p) ∧ F[r]? = some f ∧ RootAt w S E R p f := by
    intro r hrm
    obtain ⟨i, hi⟩ := List.getElem?_of_mem hrm
    have hi' := lt_len hi
    obtain ⟨r', R, q1, q2, _⟩ := ob2 i (objs[i]'(by omega)) (List.getElem?_eq_getElem _)
    rw [hi] at q1; cases q1
    obtain ⟨p, f, h1, h2, h3⟩ := hr.root r R q2
    exact ⟨R, p, f, q2, h1, h2, h3⟩
  let pl : Nat → Pl := fun r => ((E[r]?).getD none).getD ⟨none, 0, 0, 0⟩
  let fl : Nat → List Nat := fun r => (F[r]?).getD []
  have hpls : ∀ (i r : Nat), ρ'[i]? = some r → ∃ p f, E[r]? = some (some p) ∧ F[r]? = some f ∧ (ρ'.map pl)[i]? = some p ∧ (ρ'.map fl)[i]? = some f := by
    intro i r hi
    obtain ⟨R, p, f, _, h1, h2, _⟩ := hρH r (List.mem_of_getElem? hi)
    exact ⟨p, f, h1, h2, by simp [pl, hi, h1], by simp [fl, hi, h2]⟩
  -- the arguments
  have hvals : (ds ++ caps.map D.c).length = ((c.args.map a.eval).toList ++ cs.toList).length := by
    have := vs_len hcaps
    simp [e1] at this ⊢
    omega
  have hrep : ∀ (i : Nat) (d : D), (ds ++ caps.map D.c)[i]? = some d → RepD w S E d (((c.args.map a.eval).toList ++ cs.toList).getD i undef) := by
    intro i d hd
    have hla : (c.args.map a.eval).toList.length = ds.length := by simp [e1]
    by_cases hi : i < ds.length
    · rw [List.getElem?_append_left hi] at hd
      obtain ⟨x, k1, k2⟩ := e2 i d hd
      have := ev_rep hr (hopm x (List.mem_of_getElem? k1)) k2
      have hx : ((c.args.map a.eval).toList ++ cs.toList).getD i undef = a.eval x := by
        rw [List.getD_eq_getElem?_getD, List.getElem?_append_left (by omega), Array.toList_map, List.getElem?_map, k1]; rfl
      rw [hx]; exact this
    · rw [List.getElem?_append_right (by omega), List.getElem?_map, Option.map_eq_some_iff] at hd
      obtain ⟨y, k1, rfl⟩ := hd
      obtain ⟨_, k2⟩ := vs_get hcaps
      obtain ⟨v, f, m1, m2, m3⟩ := k2 _ y k1
      have : f = [] := List.eq_nil_iff_forall_not_mem.2 fun x hx => by cases m3 x hx
      subst this
      have hx : ((c.args.map a.eval).toList ++ cs.toList).getD i undef = v := by
        rw [List.getD_eq_getElem?_getD, List.getElem?_append_right (by omega), hla, m1]; rfl
      rw [hx]; exact .c m2
  obtain ⟨⟨n1, n2⟩, n3⟩ := argFs_sound hr (pls := ρ'.map pl) (fun i r hi => by obtain ⟨p, f, h1, _, h3, _⟩ := hpls i r hi; exact ⟨p, h1, h3⟩) (vs := (c.args.map a.eval).toList ++ cs.toList) hvals hrep harg (fun r hr => hr)
  have hfl : ∀ b, b ∈ (ρ'.map fl).flatten → ∃ r ∈ ρ', ∃ f, F[r]? = some f ∧ b ∈ f := by
    intro b hb
    obtain ⟨f, h1, h2⟩ := List.mem_flatten.1 hb
    obtain ⟨r, h3, rfl⟩ := List.mem_map.1 h1
    obtain ⟨R, p, f', _, _, k2, _⟩ := hρH r h3
    exact ⟨r, h3, f', k2, by simpa [fl, k2] using h2⟩
  have hobjsAt : ObjsAt w (fun b => S b ∨ Lent F B b) objs (ρ'.map pl) (ρ'.map fl) := by
    refine ⟨by simp [ob1], by simp [ob1], fun i ob hob => ?_⟩
    obtain ⟨r, R, q1, q2, q3, q4⟩ := ob2 i ob hob
    obtain ⟨p, f, h1, h2, h3, h4⟩ := hpls i r q1
    obtain ⟨p0, f0, t1, t2, t3⟩ := hr.root r R q2
    rw [h1] at t1; cases t1
    rw [h2] at t2; cases t2
    refine ⟨p, f, h3, h4, ?_⟩
    subst q4
    obtain ⟨g1, g2, g3, g4, g5⟩ := t3
    refine ⟨g1, g2, g3, g4, ?_⟩
    cases hat : p.at? with
    | none => rw [hat] at g5; exact g5
    | some bo =>
      rw [hat] at g5
      obtain ⟨fr, u1, u2, u3⟩ := g5
      exact ⟨fr, u1, u2, ((u3.ldat (rows_dat q3)).noenv (E' := []) rfl).mono (fun b hb => .inl hb) (.refl _ _) (fun _ _ => rfl)⟩
  have hmeet := hm ds' objs Q hs w (fun b => S b ∨ Lent F B b) (c.args.map a.eval ++ cs) (ρ'.map pl) (ρ'.map fl) (by rw [n1]; simpa using hvals)
    (fun i d hd => by
      have := n2 i d hd
      rwa [← Array.toList_append, show ((c.args.map a.eval ++ cs).toList.getD i undef) = (c.args.map a.eval ++ cs).getD i undef by
        rw [List.getD_eq_getElem?_getD, Array.getElem?_toList, Array.getD_eq_getD_getElem?]] at this)
    hobjsAt
    (by
      refine nodup_flat ?_ ?_
      · intro f hf
        obtain ⟨r, h3, rfl⟩ := List.mem_map.1 hf
        obtain ⟨R, p, f', _, _, k2, _⟩ := hρH r h3
        simp only [fl, k2, Option.getD_some]
        exact nodup_at hr.nodup k2
      · intro i j f f' x hi hj hx hx'
        rw [List.getElem?_map, Option.map_eq_some_iff] at hi hj
        obtain ⟨ri, i1, rfl⟩ := hi
        obtain ⟨rj, j1, rfl⟩ := hj
        obtain ⟨_, _, fi, _, _, ki, _⟩ := hρH ri (List.mem_of_getElem? i1)
        obtain ⟨_, _, fj, _, _, kj, _⟩ := hρH rj (List.mem_of_getElem? j1)
        have := apart hr ki kj (by simpa [fl, ki] using hx) (by simpa [fl, kj] using hx')
        subst this
        exact (List.getElem?_inj (lt_len i1) hρ).1 (i1.trans j1.symm))
    (by
      intro b hb
      obtain ⟨r, h1, f, h2, h3⟩ := hfl b hb
      refine ⟨?_, (hr.fsz b (flat_get h2 b h3)).1⟩
      rintro (h | ⟨r', m1, f', m2, m3⟩)
      · exact hr.fS b (flat_get h2 b h3) h
      · have := apart hr h2 m2 h3 m3
        subst this
        exact n3 r m1 h1)
    (by
      rintro b (h | ⟨r', m1, f', m2, m3⟩)
      · exact (hr.Ssz b h).1
      · exact (hr.fsz b (flat_get m2 b m3)).1)
  unfold Oper.wp
  rw [hrun, Oper.upon_enter]
  refine hmeet.mono ?_
  rintro e w' ⟨v, d, objs', rfl, hQ, hlo, hleft⟩
  subst hρ'
  subst hob'
  have hlo' : objs'.length = ko.length := by simpa using hlo
  obtain ⟨r1, r2⟩ := hR d objs' hQ hlo'
  have hrB : ∀ x ∈ B, x ≠ r := fun x hx h => n3 x hx (by rw [h]; simp)
  have hq := (hr.kill r).dropRoot r
  obtain ⟨R0, p0, f0, y1, y2, y3, y4⟩ := hρH r (by simp)
  have hfl0 : fl r = f0 := by simp [fl, y3]
  have hS : (fun b => S b ∨ Lent F B b) = (fun b => S b ∨ Lent (F.set r []) B b) := by
    funext b
    apply propext
    have : Lent F B b ↔ Lent (F.set r []) B b := by
      constructor
      · rintro ⟨x, k1, f, k2, k3⟩
        exact ⟨x, k1, f, by rw [List.getElem?_set_ne (fun h => hrB x k1 h.symm)]; exact k2, k3⟩
      · rintro ⟨x, k1, f, k2, k3⟩
        exact ⟨x, k1, f, by rwa [List.getElem?_set_ne (fun h => hrB x k1 h.symm)] at k2, k3⟩
    rw [this]
  have hρr : r ∉ ρ := fun h => (List.nodup_append.1 hρ).2.2 r h r (by simp) rfl
  rw [hS] at hleft
  simp only [List.map_append, Z24, Z13, List.dropLast_concat, hfl0] at hleft
  obtain ⟨S2, E2, F2, t1, t2⟩ := hq.afterCallL (B := B) (List.nodup_append.1 hρ).1 hobjs1 (pls := ρ.map pl) (fps := ρ.map fl) ⟨by simp, by simp⟩ (fun i x hi => by
      obtain ⟨p, f, k1, k2, k3, k4⟩ := hpls i x (by rw [List.getElem?_append_left (lt_len hi)]; exact hi)
      have hxr : r ≠ x := fun h => hρr (by rw [h]; exact List.mem_of_getElem? hi)
      rw [List.map_append, List.getElem?_append_left (by simpa using lt_len hi)] at k3 k4
      exact ⟨p, f, by rw [List.getElem?_set_ne hxr]; exact k1, by rw [List.getElem?_set_ne hxr]; exact k2, k3, k4⟩)
    (fun x hx h => n3 x hx (by simp [h])) hlo' (L := f0) (fun b hb => ⟨fun h => by
      obtain ⟨f', m3, m4⟩ := List.mem_flatten.1 h
      obtain ⟨i, hi⟩ := List.getElem?_of_mem m3
      rw [List.getElem?_set] at hi
      split at hi
      · rename_i hni
        rw [if_pos (lt_len y3)] at hi
        cases hi; cases m4
      · rename_i hni
        exact hni (apart hr y3 hi hb m4), hr.fS b (flat_get y3 b hb), hr.fsz b (flat_get y3 b hb)⟩) hleft r1
  exact hn _ _ _ r2 ⟨S2, E2, F2, t1.put t2⟩
theorem rr_callM {Φ : Fs} {ops : Array Oper} {o : Oper} {os : List Oper} {A : St} {K : St → Prop} {c : Call} {k : FuncId} {caps : List C} {f : Operand} {ds ds' : List D} {ρ B : List Nat} {r : Nat} {ko : List Obj} {mo : Obj} {objs' : List Obj} {spec : Spec} {d : D}
    (hg : o.guard = none) (ho : o.op = .call c) (hop : o.op.operands.toList.all opdOK = true) (hc : c.callee = .value f) (hf : A.ev f = some (.c (.f k caps))) (hk : callable P k = true) (hds : evsA A c.args.toList = some ds)
    (harg : argFs A.H (ρ ++ [r]) (ds ++ caps.map .c) = some (ds', B)) (hρ : (ρ ++ [r]).Nodup) (hobjs : objsAt A.H (ρ ++ [r]) = some (ko ++ [mo])) (hobjs1 : objsAt ((killH r A.H).set r none) ρ = some ko) (hm : MeetsM P k spec)
    (hs : spec ds' (ko ++ [mo]) (fun d' os' => d' = d ∧ os' = objs')) (hB : B = [] ∨ (d.ni = true ∧ ∀ o ∈ objs', Obj.ni o = true))
    (h : RunR P ops os (St.put ⟨A.sl.map (D.kill r), (settle (setObjs ((killH r A.H).set r none) ρ objs') d).2⟩ o.dst (settle (setObjs ((killH r A.H).set r none) ρ objs') d).1) K) : RunR P ops (o :: os) A K := by
  refine rr_step (R := fun A' => A' = St.put ⟨A.sl.map (D.kill r), (settle (setObjs ((killH r A.H).set r none) ρ objs') d).2⟩ o.dst (settle (setObjs ((killH r A.H).set r none) ρ objs') d).1) hg (step_callM ho hop hc hf hk hds harg hρ hobjs hobjs1 hm hs ?_) (by rintro _ rfl; exact h)
  rintro _ _ ⟨rfl, rfl⟩ _
  exact ⟨hB, rfl⟩
theorem rr_clear {ops : Array Oper} {o : Oper} {os : List Oper} {A : St} {K : St → Prop} {c : Call} {x : Operand} {t : TypeId} {d : D} {H' : List (Option Root)} (hg : o.guard = none) (ho : o.op = .call c) (hop : o.op.operands.toList.all opdOK = true) (hc : c.callee = .builtin .clear) (ha : c.args = #[x]) (ht : c.argTypes = #[t])
    (hx : A.ev x = some d) (h : clearA P A.H t d = some H') (hd : o.dst = none) (hk : RunR P ops os { A with H := H' } K) : RunR P ops (o :: os) A K :=
  rr_step (R := fun A' => A' = { A with H := H' }) hg (step_clear ho hop hc ha ht hx h hd rfl) (by rintro _ rfl; exact hk)
end
end Go.Dl

namespace Go.Dl
open Go.RowKit
open Go.Proofs
theorem tk3 : tk Try.prog 3 = some (TK.int IntKind.i64) := by kernel_rfl
theorem tsz3 : tsz Try.prog 3 = 1 := by kernel_rfl
theorem tk4 : tk Try.prog 4 = some TK.bool := by kernel_rfl
theorem tsz4 : tsz Try.prog 4 = 1 := by kernel_rfl
theorem tk9 : tk Try.prog 9 = some TK.str := by kernel_rfl
theorem tsz9 : tsz Try.prog 9 = 1 := by kernel_rfl
theorem tz9 : tz Try.prog 9 = some [C.v (Value.string ⟨#[]⟩)] := by kernel_rfl
theorem bo9 : Try.prog.bytesOf 9 = 16 := by kernel_rfl
theorem tk22 : tk Try.prog 22 = some (TK.slice 28) := by kernel_rfl
theorem tk28 : tk Try.prog 28 = some (TK.st [(3, 0), (9, 1), (3, 2), (4, 3), (4, 4), (4, 5)]) := by kernel_rfl
theorem tsz28 : tsz Try.prog 28 = 6 := by kernel_rfl
theorem tz28 : tz Try.prog 28 = some [C.v (Value.int IntKind.i64 0), C.v (Value.string ⟨#[]⟩), C.v (Value.int IntKind.i64 0), C.v (Value.bool false), C.v (Value.bool false), C.v (Value.bool false)] := by kernel_rfl
theorem bo28 : Try.prog.bytesOf 28 = 40 := by kernel_rfl
theorem tk33 : tk Try.prog 33 = some (TK.slice 9) := by kernel_rfl
theorem tk44 : tk Try.prog 44 = some (TK.int IntKind.u64) := by kernel_rfl
theorem mixed : Try.prog.follows .mixedOrders = true := by kernel_rfl
end Go.Dl
