/- 'Dl', part Zf: what reads as a datum, by value. -/
import Derived.Test.YtdhlelineoggkaaDlZe
import Derived.Carry
import Derived.DataReads
namespace Go.Dl
open Go.RowKit

mutual
/-- The cells of a value of a type. -/
inductive Ty (P : Program) : TypeId → List C → Prop
  | bool {t b} (h : tk P t = some .bool) : Ty P t [.v (.bool b)]
  | int {t k n} (h : tk P t = some (.int k)) (hn : inR k n = true) : Ty P t [.v (.int k n)]
  | str {t s} (h : tk P t = some .str) (hs : s.size ≤ maxStr) : Ty P t [.v (.string s)]
  | slice {t e} {rows : List (List C)} (h : tk P t = some (.slice e)) (hr : ∀ r, r ∈ rows → Ty P e r) (hl : ∀ r, r ∈ rows → r.length = tsz P e) (hn : rows.length ≤ maxStr) : Ty P t [.s false (tsz P e) rows]
  | arr {t n e} {rows : List (List C)} (h : tk P t = some (.arr n e)) (hn : rows.length = n) (hr : ∀ r, r ∈ rows → Ty P e r) : Ty P t rows.flatten
  | st {t fs} {css : List (List C)} (h : tk P t = some (.st fs)) (hf : TyL P fs css) : Ty P t css.flatten
inductive TyL (P : Program) : List (TypeId × Nat) → List (List C) → Prop
  | nil : TyL P [] []
  | cons {x xs c cs} (h : Ty P x.1 c) (hr : TyL P xs cs) : TyL P (x :: xs) (c :: cs)
end

def contig (P : Program) : Nat → List (TypeId × Nat) → Option Nat
  | off, [] => some off
  | off, (t, o) :: fs => if o = off then contig P (off + tsz P t) fs else none

/-- Types of numbers, texts, slices, arrays and structs of such. -/
def plainT (P : Program) : Nat → TypeId → Bool
  | 0, _ => false
  | f + 1, t => match tk P t with
    | some .bool => true
    | some (.int _) => true
    | some .str => true
    | some (.slice e) => tsz P e != 0 && plainT P f e
    | some (.arr n e) => tsz P t == n * tsz P e && plainT P f e
    | some (.st fs) => contig P 0 fs == some (tsz P t) && fs.all fun x => plainT P f x.1
    | _ => false

def Inside (w : World) : Nat → Prop := fun b => b < w.heap.size

section
variable {P : Program} {w : World} {H : Type} {enc : TypeId × Value → H} {sp : Nat → Bool} {held : Bool}

theorem vs_join {S : Nat → Prop} {E : Env} : ∀ {a b : List C} {x y : List Value}, Rep w S E (.vs a x) [] → Rep w S E (.vs b y) [] → Rep w S E (.vs (a ++ b) (x ++ y)) [] := by
  intro a
  induction a with
  | nil => intro b x y h1 h2; cases h1; exact h2
  | cons c a ih =>
    intro b x y h1 h2
    generalize hfp : ([] : List Nat) = fp at h1
    cases h1 with
    | vcons hc hr =>
      rename_i v vs f1 f2
      have := List.append_eq_nil_iff.1 hfp.symm
      obtain ⟨rfl, rfl⟩ := this
      exact .vcons (f1 := []) (f2 := []) hc (ih hr h2)

theorem cell_lt {a : Addr} {v : Value} (h : w.cell? a = some v) : a.spot = none ∧ a.block < w.heap.size := by
  have hs := World.cell?_spot h
  refine ⟨hs, ?_⟩
  rcases Nat.lt_or_ge a.block w.heap.size with h' | h'
  · exact h'
  · simp [World.cell?, Array.getElem?_eq_none h'] at h

theorem cells_get {base : Nat} {a : Addr} {n : Nat} {vs : List Value} (h : w.cells? base a n = some vs) : vs.length = n ∧ ∀ (j : Nat) (v : Value), vs[j]? = some v → w.cell? (a.add j) = some v := by
  unfold World.cells? at h
  split at h
  · have hl := mapM_some_length h
    rw [List.length_range] at hl
    refine ⟨hl, fun j v hj => ?_⟩
    have hjn := lt_len hj
    have := mapM_some_get h j j (by rw [List.getElem?_range (by omega)])
    rw [this, hj]
  · cases h

theorem mapM_all {α β : Type} {f : α → Option β} {l : List α} {r : List β} (h : l.mapM f = some r) : ∀ x ∈ l, ∃ y, f x = some y := by
  intro x hx
  obtain ⟨i, hi⟩ := List.getElem?_of_mem hx
  have h1 := mapM_some_get h i x hi
  have h2 := mapM_some_length h
  have h3 := lt_len hi
  exact ⟨r[i]'(by omega), by rw [h1]; exact List.getElem?_eq_getElem _⟩

section
variable {fuel : Nat} {t : TypeId} {vs : List Value} {x : DataW H × List MemPlace}

theorem trod_bool (hu : P.underlying t = some .bool) (h : DataW.trod enc P w 0 sp held (fuel + 1) t vs = some x) : ∃ b, vs = [.bool b] := by
  unfold DataW.trod at h
  rw [hu] at h
  split at h <;> simp_all

theorem trod_int {k : IntKind} (hu : P.underlying t = some (.int k)) (h : DataW.trod enc P w 0 sp held (fuel + 1) t vs = some x) : ∃ n, vs = [.int k n] ∧ (Lit.int k n).wf = true := by
  unfold DataW.trod at h
  rw [hu] at h
  split at h <;> simp_all

theorem trod_str (hu : P.underlying t = some .string) (h : DataW.trod enc P w 0 sp held (fuel + 1) t vs = some x) : ∃ s, vs = [.string s] ∧ s.size ≤ maxLen := by
  unfold DataW.trod at h
  rw [hu] at h
  split at h <;> simp_all

theorem trod_slice {e : TypeId} (hu : P.underlying t = some (.slice e)) (h : DataW.trod enc P w 0 sp held (fuel + 1) t vs = some x) : vs = [.slice none 0 0] ∨
    ∃ a len cap, vs = [.slice (some a) len cap] ∧ len ≤ cap ∧ cap ≤ maxLen ∧ ∀ i, i < len → ∃ y, (w.cells? 0 (a.add (i * P.cellsOf e)) (P.cellsOf e)).bind (DataW.trod enc P w 0 sp held fuel e) = some y := by
  unfold DataW.trod at h
  rw [hu] at h
  split at h <;> try (first | (simp_all; done) | cases h)
  rename_i e' a len cap heq
  cases heq
  right
  simp only at h
  split at h
  · rename_i hc
    refine ⟨a, len, cap, rfl, hc.2.1, hc.2.2, fun i hi => ?_⟩
    cases hm : (List.range len).mapM fun i => (w.cells? 0 (a.add (i * P.cellsOf e)) (P.cellsOf e)).bind (DataW.trod enc P w 0 sp held fuel e) with
    | none => rw [hm] at h; cases h
    | some r => exact mapM_all hm i (List.mem_range.2 hi)
  · cases h

theorem trod_arr {n : Nat} {e : TypeId} (hu : P.underlying t = some (.array n e)) (h : DataW.trod enc P w 0 sp held (fuel + 1) t vs = some x) : ∀ i, i < n →
    ∃ y, DataW.trod enc P w 0 sp held fuel e ((vs.drop (i * P.cellsOf e)).take (P.cellsOf e)) = some y := by
  unfold DataW.trod at h
  rw [hu] at h
  simp only at h
  split at h
  · intro i hi
    cases hm : (List.range n).mapM fun i => DataW.trod enc P w 0 sp held fuel e ((vs.drop (i * P.cellsOf e)).take (P.cellsOf e)) with
    | none => rw [hm] at h; cases h
    | some r => exact mapM_all hm i (List.mem_range.2 hi)
  · cases h

theorem trod_st {fs : Array Field} (hu : P.underlying t = some (.struct fs)) (h : DataW.trod enc P w 0 sp held (fuel + 1) t vs = some x) : ∀ f ∈ fs.toList,
    ∃ y, DataW.trod enc P w 0 sp held fuel f.type ((vs.drop f.offset).take (P.cellsOf f.type)) = some y := by
  unfold DataW.trod at h
  rw [hu] at h
  simp only at h
  split at h
  · intro f hf
    cases hm : fs.toList.mapM fun f => DataW.trod enc P w 0 sp held fuel f.type ((vs.drop f.offset).take (P.cellsOf f.type)) with
    | none => rw [hm] at h; cases h
    | some r => exact mapM_all hm f hf
  · cases h
end

theorem wf_inR {k : IntKind} {n : Int} (h : (Lit.int k n).wf = true) : inR k n = true := by
  cases k <;> simpa [Lit.wf, IntKind.min, IntKind.max, IntKind.signed, IntKind.bits, inR] using h

theorem choose_list {α : Type} {R : Nat → α → Prop} : ∀ n : Nat, (∀ i, i < n → ∃ c, R i c) → ∃ l : List α, l.length = n ∧ ∀ (i : Nat) (c : α), l[i]? = some c → R i c
  | 0, _ => ⟨[], rfl, by simp⟩
  | n + 1, h => by
    obtain ⟨l, h1, h2⟩ := choose_list n fun i hi => h i (by omega)
    obtain ⟨c, hc⟩ := h n (by omega)
    refine ⟨l ++ [c], by simp [h1], fun i c' hi => ?_⟩
    by_cases hil : i < l.length
    · rw [List.getElem?_append_left hil] at hi; exact h2 i c' hi
    · rw [List.getElem?_append_right (by omega)] at hi
      have : i - l.length = 0 := by
        have := lt_len hi
        simp at this; omega
      rw [this] at hi
      cases hi
      rw [show i = n by omega]; exact hc

theorem rows_l {S : Nat → Prop} {E : Env} {b es : Nat} : ∀ (rows : List (List C)) (off : Nat), (∀ (i : Nat) (c : List C), rows[i]? = some c → c.length = es ∧ Rep w S E (.l true c b (off + i * es)) []) → Rep w S E (.l true rows.flatten b off) []
  | [], off, _ => .lnil
  | c :: rows, off, h => by
    obtain ⟨h1, h2⟩ := h 0 c rfl
    rw [Nat.zero_mul, Nat.add_zero] at h2
    have := rows_l rows (off + es) fun i c hc => by
      have := h (i + 1) c (by simpa using hc)
      rw [Nat.succ_mul] at this
      rwa [show off + es + i * es = off + (i * es + es) by omega]
    rw [← h1] at this
    exact h2.join this

theorem rows_vs {S : Nat → Prop} {E : Env} {es : Nat} : ∀ (rows : List (List C)) (vs : List Value), (∀ (i : Nat) (c : List C), rows[i]? = some c → Rep w S E (.vs c ((vs.drop (i * es)).take es)) []) → vs.length = rows.length * es → Rep w S E (.vs rows.flatten vs) []
  | [], vs, _, hl => by
    simp at hl
    subst hl
    exact .vnil
  | c :: rows, vs, h, hl => by
    have h0 := h 0 c rfl
    rw [Nat.zero_mul, List.drop_zero] at h0
    have := rows_vs rows (vs.drop es) (fun i c hc => by
      have := h (i + 1) c (by simpa using hc)
      rw [Nat.succ_mul] at this
      rw [List.drop_drop, show es + i * es = i * es + es by omega]
      exact this) (by rw [List.length_drop, hl, List.length_cons, Nat.succ_mul]; omega)
    have hj := vs_join h0 this
    rw [List.take_append_drop] at hj
    exact hj

/-- What is read as a datum of such a type has a reading by value. -/
theorem rep_trod : ∀ (fuel pf : Nat) (t : TypeId) (vs : List Value) (x : DataW H × List MemPlace), DataW.trod enc P w 0 sp held fuel t vs = some x → plainT P pf t = true → vs.length = tsz P t →
    ∃ cs, Rep w (Inside w) [] (.vs cs vs) [] ∧ cs.length = tsz P t ∧ cs.all C.dat = true ∧ Ty P t cs := by
  intro fuel
  induction fuel with
  | zero => intro pf t vs x h; cases h
  | succ fuel ih =>
    intro pf t vs x h hp hlen
    cases pf with
    | zero => cases hp
    | succ pf =>
      unfold plainT at hp
      split at hp
      · rename_i hk
        obtain ⟨b, rfl⟩ := trod_bool (tk_bool hk) h
        exact ⟨[.v (.bool b)], .vcons (f1 := []) (f2 := []) (.v trivial) .vnil, hlen, rfl, .bool hk⟩
      · rename_i k hk
        obtain ⟨n, rfl, hn⟩ := trod_int (tk_int hk) h
        exact ⟨[.v (.int k n)], .vcons (f1 := []) (f2 := []) (.v (wf_inR hn)) .vnil, hlen, rfl, .int hk (wf_inR hn)⟩
      · rename_i hk
        obtain ⟨s, rfl, hs⟩ := trod_str (tk_str hk) h
        exact ⟨[.v (.string s)], .vcons (f1 := []) (f2 := []) (.v hs) .vnil, hlen, rfl, .str hk hs⟩
      · rename_i e hk
        rw [Bool.and_eq_true, bne_iff_ne] at hp
        obtain ⟨hz, hpe⟩ := hp
        rcases trod_slice (tk_slice hk) h with rfl | ⟨a, len, cap, rfl, hlc, hcm, hel⟩
        · exact ⟨[.s false (tsz P e) []], .vcons (f1 := []) (f2 := []) .nilI .vnil, hlen, rfl, .slice hk (by simp) (by simp) (by simp)⟩
        · by_cases hl0 : len = 0
          · subst hl0
            exact ⟨[.s false (tsz P e) []], .vcons (f1 := []) (f2 := []) .nilI .vnil, hlen, rfl, .slice hk (by simp) (by simp) (by simp)⟩
          · have key : ∀ i, i < len → ∃ c : List C, c.length = tsz P e ∧ c.all C.dat = true ∧ Ty P e c ∧ ∃ cv : List Value, Rep w (Inside w) [] (.vs c cv) [] ∧ ∀ (j : Nat) (v : Value), cv[j]? = some v → w.cell? ((a.add (i * tsz P e)).add j) = some v := by
              intro i hi
              obtain ⟨y, hy⟩ := hel i hi
              rw [Option.bind_eq_some_iff] at hy
              obtain ⟨cv, h1, h2⟩ := hy
              obtain ⟨k1, k2⟩ := cells_get h1
              obtain ⟨c, q1, q2, q3, q4⟩ := ih pf e cv y h2 hpe k1
              exact ⟨c, q2, q3, q4, cv, q1, k2⟩
            obtain ⟨rows, r1, r2⟩ := choose_list len key
            -- where it lies
            have hfirst : ∃ b off, a = ⟨b, off, none⟩ ∧ b < w.heap.size := by
              obtain ⟨c, c1, _, _, cv, c4, c5⟩ := key 0 (by omega)
              have := vs_len c4
              have hv : ∃ v, cv[0]? = some v := ⟨cv[0]'(by omega), List.getElem?_eq_getElem _⟩
              obtain ⟨v, hv⟩ := hv
              obtain ⟨e1, e2⟩ := cell_lt (c5 0 v hv)
              obtain ⟨b, off, spot⟩ := a
              have : spot = none := by simpa [Addr.add] using e1
              subst this
              rw [addr_add, addr_add] at e2
              exact ⟨b, off, rfl, e2⟩
            obtain ⟨b, off, rfl, hb⟩ := hfirst
            have hrl : ∀ r ∈ rows, r.length = tsz P e := by
              intro r hr
              obtain ⟨i, hi⟩ := List.getElem?_of_mem hr
              exact (r2 i r hi).1
            have hrep : Rep w (Inside w) [] (.l true rows.flatten b off) [] := rows_l rows off fun i c hc => by
              obtain ⟨q1, q2, _, cv, q4, q5⟩ := r2 i c hc
              refine ⟨q1, rep_new q4 (fun _ => q2) fun j v hj => ?_⟩
              have := q5 j v hj
              rw [addr_add, addr_add] at this
              exact this
            subst r1
            refine ⟨[.s false (tsz P e) rows], .vcons (f1 := []) (f2 := []) (.imm hb hlc hrl hrep) .vnil, hlen, rfl, .slice hk ?_ hrl ?_⟩
            · intro r hr
              obtain ⟨i, hi⟩ := List.getElem?_of_mem hr
              exact (r2 i r hi).2.2.1
            · have : maxLen = maxStr := rfl
              omega
      · rename_i n e hk
        rw [Bool.and_eq_true, beq_iff_eq] at hp
        obtain ⟨hz, hpe⟩ := hp
        have hel := trod_arr (tk_arr hk) h
        have key : ∀ i, i < n → ∃ c : List C, c.length = tsz P e ∧ c.all C.dat = true ∧ Ty P e c ∧ Rep w (Inside w) [] (.vs c ((vs.drop (i * tsz P e)).take (tsz P e))) [] := by
          intro i hi
          obtain ⟨y, hy⟩ := hel i hi
          have hle : (i + 1) * tsz P e ≤ n * tsz P e := Nat.mul_le_mul_right _ hi
          rw [Nat.succ_mul] at hle
          obtain ⟨c, q1, q2, q3, q4⟩ := ih pf e _ y hy hpe (by rw [List.length_take, List.length_drop, hlen, hz]; exact Nat.min_eq_left (by unfold tsz at *; omega))
          exact ⟨c, q2, q3, q4, q1⟩
        obtain ⟨rows, r1, r2⟩ := choose_list n key
        have hrep := rows_vs rows vs (fun i c hc => (r2 i c hc).2.2.2) (by rw [hlen, hz, r1])
        refine ⟨rows.flatten, hrep, by rw [vs_len hrep, hlen], ?_, .arr hk r1 ?_⟩
        · rw [List.all_eq_true]
          intro c hc
          obtain ⟨r, h1, h2⟩ := List.mem_flatten.1 hc
          obtain ⟨i, hi⟩ := List.getElem?_of_mem h1
          exact List.all_eq_true.1 (r2 i r hi).2.1 c h2
        · intro r hr
          obtain ⟨i, hi⟩ := List.getElem?_of_mem hr
          exact (r2 i r hi).2.2.1
      · rename_i fs hk
        rw [Bool.and_eq_true, beq_iff_eq, List.all_eq_true] at hp
        obtain ⟨hz, hpe⟩ := hp
        obtain ⟨d, hu, hd⟩ := tk_some hk
        cases d <;> simp only [TK.of, reduceCtorEq, TK.st.injEq] at hd
        rename_i fs'
        have hel := trod_st hu h
        have hel' : ∀ f ∈ fs, ∃ y, DataW.trod enc P w 0 sp held fuel f.1 ((vs.drop f.2).take (tsz P f.1)) = some y := by
          intro f hf
          rw [← hd] at hf
          obtain ⟨f', k1, rfl⟩ := List.mem_map.1 hf
          exact hel f' k1
        have go : ∀ (l : List (TypeId × Nat)) (off tot : Nat), contig P off l = some tot → tot ≤ vs.length → (∀ f ∈ l, f ∈ fs) →
            ∃ css : List (List C), TyL P l css ∧ Rep w (Inside w) [] (.vs css.flatten ((vs.drop off).take (tot - off))) [] ∧ css.flatten.all C.dat = true ∧ off ≤ tot := by
          intro l
          induction l with
          | nil =>
            intro off tot hc _ _
            cases hc
            exact ⟨[], .nil, by simp only [Nat.sub_self, List.take_zero]; exact .vnil, rfl, Nat.le_refl _⟩
          | cons f l ihl =>
            intro off tot hc ht hm
            obtain ⟨ft, fo⟩ := f
            simp only [contig] at hc
            split at hc
            · rename_i ho
              subst ho
              obtain ⟨css, q1, q2, q3, q4⟩ := ihl _ tot hc ht fun f hf => hm f (List.mem_cons_of_mem _ hf)
              obtain ⟨y, hy⟩ := hel' _ (hm _ (List.mem_cons_self ..))
              obtain ⟨c, k1, k2, k3, k4⟩ := ih pf ft _ y hy (hpe _ (hm _ (List.mem_cons_self ..))) (by show ((vs.drop fo).take (tsz P ft)).length = tsz P ft; rw [List.length_take, List.length_drop]; exact Nat.min_eq_left (by omega))
              refine ⟨c :: css, .cons k4 q1, ?_, by rw [List.flatten_cons, List.all_append, k3, q3]; rfl, by omega⟩
              have := vs_join k1 q2
              have hsplit : (vs.drop fo).take (tot - fo) = (vs.drop fo).take (tsz P ft) ++ (vs.drop (fo + tsz P ft)).take (tot - (fo + tsz P ft)) := by
                rw [show tot - fo = tsz P ft + (tot - (fo + tsz P ft)) by omega, List.take_add, List.drop_drop]
              rw [hsplit]
              exact this
            · cases hc
        obtain ⟨css, q1, q2, q3, _⟩ := go fs 0 (tsz P t) hz (by omega) (fun f hf => hf)
        rw [List.drop_zero, Nat.sub_zero, ← hlen, List.take_length] at q2
        exact ⟨css.flatten, q2, by rw [vs_len q2, hlen], q3, .st hk q1⟩
      · cases hp

end
end Go.Dl
