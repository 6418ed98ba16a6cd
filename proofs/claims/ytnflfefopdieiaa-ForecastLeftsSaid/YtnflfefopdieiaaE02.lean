/- 'Dl', part H: slice expressions, equality; what quiet operations come to; 'Dl', part I: one operation, a region in the text's order; 'Dl', part J: the relation when the world changes: a new root; 'Dl', part K: a root changes, a root goes; stores; 'Dl', part L: operations that write or make memory: store, alloc, box. -/
import Derived.Test.YtnflfefopdieiaaE01
set_option linter.all false
namespace Go.Dl
open Go.RowKit
section
variable {P : Program} {g : G} {S : Nat → Prop} {E : Env} {F : List (List Nat)} {A : St} {a : Act} {w : World}
theorem flatten_sub {w : World} {S : Nat → Prop} {E : Env} {dat : Bool} {es b off : Nat} {rows : List (List C)} {fp : List Nat} (hl : ∀ r ∈ rows, r.length = es)
    (h : Rep w S E (.l dat rows.flatten b off) fp) (l n : Nat) (hln : l + n ≤ rows.length) : ∃ f1 f2 f3, fp = f1 ++ (f2 ++ f3) ∧ Rep w S E (.l dat ((rows.drop l).take n).flatten b (off + l * es)) f2 := by
  have e : rows.flatten = (rows.take l).flatten ++ (((rows.drop l).take n).flatten ++ ((rows.drop l).drop n).flatten) := by
    rw [← List.flatten_append, List.take_append_drop, ← List.flatten_append, List.take_append_drop]
  rw [e] at h
  obtain ⟨f1, f23, rfl, _, h2⟩ := h.append
  obtain ⟨f2, f3, rfl, h3, _⟩ := h2.append
  refine ⟨f1, f2, f3, rfl, ?_⟩
  rw [flatten_len (es := es) (fun r hr => hl r (List.mem_of_mem_take hr)), List.length_take, Nat.min_eq_left (by omega)] at h3
  exact h3
theorem qslice_sound (hr : Rel g S E F A a w) {t : TypeId} {lo hi : Option (Option D)} {vlo vhi : Option Value} {d d' : D} {v : Value} (hd : RepD w S E d v)
    (hlo : ∀ d, lo = some (some d) → ∃ v, vlo = some v ∧ RepD w S E d v) (hlo0 : lo = none → vlo = none)
    (hhi : ∀ d, hi = some (some d) → ∃ v, vhi = some v ∧ RepD w S E d v) (hhi0 : hi = none → vhi = none) (h : qslice P A.H t lo hi d = some d') :
    ∃ v', (Instr.slice t v vlo vhi none).run P w = .ok v' w ∧ RepD w S E d' v' ∧ (∀ n e, P.underlying t ≠ some (.array n e)) := by
  unfold qslice at h
  split at h
  · rename_i s
    split at h
    · rename_i hk
      obtain ⟨rfl, hs⟩ := str_inv hd
      cases hb : qbounds s.size lo hi with
      | none => rw [hb] at h; cases h
      | some lh =>
        obtain ⟨l, h'⟩ := lh
        rw [hb] at h; cases h
        obtain ⟨b1, b2, b3⟩ := qbounds_sound (P := P) (isS := false) (Nat.le_refl s.size) hlo hlo0 hhi hhi0 hb
        refine ⟨.string (s.extract l h'), ?_, .c (.v ?_), fun n e => by rw [tk_str hk]; simp⟩
        · simp [Instr.slice, run_und (tk_str hk), b3]
        · show (s.extract l h').size ≤ maxStr
          rw [ByteArray.size_extract]; omega
    · cases h
  · rename_i es rows
    split at h
    · rename_i e hk
      split at h
      · rename_i hc
        obtain ⟨c1, c2⟩ := hc
        cases hb : qbounds rows.length lo hi with
        | none => rw [hb] at h; cases h
        | some lh =>
          obtain ⟨l, h'⟩ := lh
          rw [hb] at h; cases h
          have hz : tsz P e ≠ 0 := by omega
          have hund : ∀ n e, P.underlying t ≠ some (.array n e) := fun n e => by rw [tk_slice hk]; simp
          have hrep : ∃ ad cap, v = .slice ad rows.length cap ∧ rows.length ≤ cap ∧ (rows = [] ∨ ∃ b off, ad = some ⟨b, off, none⟩ ∧ S b ∧ (∀ r ∈ rows, r.length = es) ∧ Rep w S E (.l true rows.flatten b off) []) := by
            cases hd with
            | c h => cases h with
              | nilI => exact ⟨_, _, rfl, Nat.zero_le _, .inl rfl⟩
              | imm hS hcap hl hrep => exact ⟨_, _, rfl, hcap, .inr ⟨_, _, rfl, hS, hl, hrep⟩⟩
          obtain ⟨ad, cap, rfl, hcap, hor⟩ := hrep
          obtain ⟨b1, b2, b3⟩ := qbounds_sound (P := P) (isS := true) hcap hlo hlo0 hhi hhi0 hb
          refine ⟨_, by simp [Instr.slice, run_und (tk_slice hk), b3, run_tsz' hz]; rfl, .c ?_, hund⟩
          have hlen : ((rows.drop l).take (h' - l)).length = h' - l := by rw [List.length_take, List.length_drop]; omega
          by_cases hn : h' - l = 0
          · have : (rows.drop l).take (h' - l) = [] := List.eq_nil_of_length_eq_zero (by omega)
            rw [this, hn]
            exact .nilI
          · rcases hor with rfl | ⟨b, off, rfl, hS, hl, hrep⟩
            · simp at b2; omega
            · have hne : cap ≠ l := by omega
              rw [if_neg hne]
              obtain ⟨f1, f2, f3, hff, hr2⟩ := flatten_sub hl hrep l (h' - l) (by omega)
              obtain ⟨rfl, hff⟩ := List.append_eq_nil_iff.1 hff.symm
              obtain ⟨rfl, rfl⟩ := List.append_eq_nil_iff.1 (by simpa using hff)
              simp only [Z4, addr_add, c1]
              have := Rep.imm (dat := false) (cap := cap - l) hS (by omega) (fun r hr => hl r (List.mem_of_mem_drop (List.mem_of_mem_take hr))) hr2
              rw [hlen] at this
              exact this
      · cases h
    · cases h
  · rename_i r l0 len
    split at h
    · rename_i e hk
      split at h
      · rename_i R hR
        split at h
        · rename_i hc
          obtain ⟨c1, c2⟩ := hc
          cases hb : qbounds len lo hi with
          | none => rw [hb] at h; cases h
          | some lh =>
            obtain ⟨l, h'⟩ := lh
            rw [hb] at h; cases h
            have hz : tsz P e ≠ 0 := by omega
            have hund : ∀ n e, P.underlying t ≠ some (.array n e) := fun n e => by rw [tk_slice hk]; simp
            obtain ⟨p, f, h1, h2, h3, h4⟩ := handle_live hr hR hd
            obtain ⟨g1, g2, g3, g4, g5⟩ := h3
            obtain ⟨k1, k2⟩ := h4
            cases hat : p.at? with
            | none =>
              rw [hat] at k2 g5
              obtain ⟨ad, rfl⟩ := k2
              obtain ⟨e1, _, e3⟩ := g5
              have hlen : len = 0 := by rw [e1] at g2; simp at g2; omega
              subst hlen
              obtain ⟨b1, b2, b3⟩ := qbounds_sound (P := P) (isS := true) (Nat.le_refl 0) hlo hlo0 hhi hhi0 hb
              have : l = 0 := by omega
              have : h' = 0 := by omega
              subst_vars
              refine ⟨.slice ad 0 0, by simp [Instr.slice, run_und (tk_slice hk), b3, run_tsz' hz], .c (.h (lt_len h1) fun pl hpl => ?_), hund⟩
              rw [h1] at hpl; cases hpl
              exact ⟨by omega, by rw [hat]; exact ⟨ad, rfl⟩⟩
            | some bo =>
              obtain ⟨b, off⟩ := bo
              rw [hat] at k2
              obtain ⟨ad, cap, rfl, e2, e3, e4⟩ := k2
              obtain ⟨b1, b2, b3⟩ := qbounds_sound (P := P) (isS := true) e2 hlo hlo0 hhi hhi0 hb
              refine ⟨_, by simp [Instr.slice, run_und (tk_slice hk), b3, run_tsz' hz]; rfl, .c (.h (lt_len h1) fun pl hpl => ?_), hund⟩
              rw [h1] at hpl; cases hpl
              refine ⟨by omega, ?_⟩
              rw [hat]
              by_cases hn : cap = l
              · rw [if_pos hn]
                exact ⟨ad, _, rfl, by omega, by omega, .inl (by omega)⟩
              · rw [if_neg hn]
                refine ⟨ad.add (l * tsz P e), _, rfl, by omega, by omega, .inr ?_⟩
                have : ad = ⟨b, off + l0 * p.es, none⟩ := by
                  rcases e4 with e4 | e4
                  · omega
                  · exact e4
                rw [this, addr_add, c1, g1, Nat.add_mul, Nat.add_assoc]
        · cases h
      · cases h
    · cases h
  · cases h
theorem qslice3_sound (hr : Rel g S E F A a w) {t : TypeId} {lo hi mx : Option D} {vlo vhi vmx : Value} {d d' : D} {v : Value} (hd : RepD w S E d v)
    (hlo : ∀ d, lo = some d → RepD w S E d vlo) (hhi : ∀ d, hi = some d → RepD w S E d vhi) (hmx : ∀ d, mx = some d → RepD w S E d vmx)
    (h : qslice3 P A.H t lo hi mx d = some d') : ∃ v', (Instr.slice t v (some vlo) (some vhi) (some vmx)).run P w = .ok v' w ∧ RepD w S E d' v' ∧ (∀ n e, P.underlying t ≠ some (.array n e)) := by
  unfold qslice3 at h
  split at h
  · rename_i e hk
    split at h
    · rename_i hc
      obtain ⟨c1, c2, c3, c4⟩ := hc
      have hund : ∀ n e, P.underlying t ≠ some (.array n e) := fun n e => by rw [tk_slice hk]; simp
      cases lo with
      | none => cases c2
      | some dl =>
        cases hi with
        | none => cases c3
        | some dh =>
          cases mx with
          | none => cases c4
          | some dm =>
            obtain ⟨k1, rfl, _⟩ := int_inv (hlo _ rfl) c2
            obtain ⟨k2, rfl, _⟩ := int_inv (hhi _ rfl) c3
            obtain ⟨k3, rfl, _⟩ := int_inv (hmx _ rfl) c4
            have key : ∀ (ad : Option Addr) (len cap : Nat), (Instr.slice t (.slice ad len cap) (some (.int k1 0)) (some (.int k2 0)) (some (.int k3 0))).run P w = .ok (.slice ad 0 0) w := by
              intro ad len cap
              simp [Instr.slice, run_und (tk_slice hk), Instr.sliceBounds, Instr.sliceBound, asIntOf, run_tsz' c1]
            split at h
            · cases h
              have : ∃ ad len cap, v = .slice ad len cap := by
                cases hd with
                | c h => cases h <;> exact ⟨_, _, _, rfl⟩
              obtain ⟨ad, len, cap, rfl⟩ := this
              exact ⟨_, key ad len cap, .c .nilO, hund⟩
            · split at h
              · rename_i hl
                cases h
                obtain ⟨R, _, _, hR, _⟩ := live_root hr hl
                obtain ⟨p, f, h1, h2, h3, h4⟩ := handle_live hr hR hd
                obtain ⟨g1, g2, g3, g4, g5⟩ := h3
                obtain ⟨q1, q2⟩ := h4
                have : ∃ ad len cap, v = .slice ad len cap := by
                  cases hat : p.at? with
                  | none => rw [hat] at q2; obtain ⟨ad, rfl⟩ := q2; exact ⟨_, _, _, rfl⟩
                  | some bo => rw [hat] at q2; obtain ⟨ad, cap, rfl, _⟩ := q2; exact ⟨_, _, _, rfl⟩
                obtain ⟨ad, len, cap, rfl⟩ := this
                exact ⟨_, key ad len cap, .c .nilO, hund⟩
              · cases h
            · cases h
    · cases h
  · cases h
/-- Values at which the test ahead of '==' lets by. -/
theorem run_eqGuard {op : BinOp} {t : TypeId} {x y : Operand} {u v : Value} (h1 : ¬ (u = .nilIface ∧ v = .nilIface)) (h2 : ¬ (∃ xs ys, u = .agg xs ∧ v = .agg ys)) :
    (eqGuard op t x y u v).run P w = .ok () w := by
  unfold eqGuard
  cases u <;> cases v <;> first
    | (exfalso; exact h1 ⟨rfl, rfl⟩)
    | (exfalso; exact h2 ⟨_, _, rfl, rfl⟩)
    | (simp only; split <;> simp)
section
variable {t e k : TypeId} {d : Nat}
theorem eqIn_bool {x y : Bool} (hk : P.underlying t = some .bool) : (Op.equalIn (d + 1) t (.bool x) (.bool y)).run P w = .ok (x == y) w := by
  simp [Op.equalIn, run_und hk]
theorem eqIn_ptr {x : Option Addr} (hk : P.underlying t = some (.pointer e)) : (Op.equalIn (d + 1) t (.pointer none) (.pointer x)).run P w = .ok x.isNone w := by
  simp [Op.equalIn, run_und hk]
theorem eqIn_ptr' {x : Option Addr} (hk : P.underlying t = some (.pointer e)) : (Op.equalIn (d + 1) t (.pointer x) (.pointer none)).run P w = .ok x.isNone w := by
  cases x <;> simp [Op.equalIn, run_und hk]
theorem eqIn_ptrs {x : Addr} (hk : P.underlying t = some (.pointer e)) (hz : tsz P e ≠ 0) : (Op.equalIn (d + 1) t (.pointer (some x)) (.pointer (some x))).run P w = .ok true w := by
  simp [Op.equalIn, run_und hk, run_tsz' hz, hz, sameAddr]
theorem eqIn_func {ps rs : Array TypeId} {vr : Bool} {fn : Fn} {x y : Array Value} (hk : P.underlying t = some (.func ps rs vr)) : (Op.equalIn (d + 1) t (.func fn x y) .nilFunc).run P w = .ok false w := by
  simp [Op.equalIn, run_und hk]
theorem eqIn_func0 {ps rs : Array TypeId} {vr : Bool} (hk : P.underlying t = some (.func ps rs vr)) : (Op.equalIn (d + 1) t .nilFunc .nilFunc).run P w = .ok true w := by
  simp [Op.equalIn, run_und hk]
theorem eqIn_map0 (hk : P.underlying t = some (.map k e)) : (Op.equalIn (d + 1) t (.map none) (.map none)).run P w = .ok true w := by
  simp [Op.equalIn, run_und hk]
theorem eqIn_map1 {b : Nat} (hk : P.underlying t = some (.map k e)) : (Op.equalIn (d + 1) t (.map (some b)) (.map none)).run P w = .ok false w := by
  simp [Op.equalIn, run_und hk]
theorem eqIn_map2 {b : Nat} (hk : P.underlying t = some (.map k e)) : (Op.equalIn (d + 1) t (.map none) (.map (some b))).run P w = .ok false w := by
  simp [Op.equalIn, run_und hk]
end
theorem equal_succ (t : TypeId) (x y : Value) : Op.equal t x y = Op.equalIn (9999 + 1) t x y := rfl
/-- Neither a number, a text, an aggregate. -/
def plainEq (va vb : Value) : Prop :=
  ¬ (va = .nilIface ∧ vb = .nilIface) ∧ ¬ (∃ xs ys, va = .agg xs ∧ vb = .agg ys) ∧
      (∀ k x, va ≠ .int k x) ∧ (∀ k x, va ≠ .float k x) ∧ (∀ k x y, va ≠ .complex k x y) ∧ (∀ x, va ≠ .string x)
theorem qeq_sound (hr : Rel g S E F A a w) {t : TypeId} {da db : D} {va vb : Value} {r : Bool} (ha : RepD w S E da va) (hb : RepD w S E db vb) (h : qeq P A.H t da db = some r) :
    (Op.equal t va vb).run P w = .ok r w ∧ plainEq va vb := by
  rw [equal_succ]
  unfold qeq at h
  split at h
  · rename_i hk
    split at h
    · cases h
      obtain rfl := bool_inv ha
      obtain rfl := bool_inv hb
      exact ⟨eqIn_bool (tk_bool hk), by simp [plainEq]⟩
    · cases h
  · rename_i e hk
    split at h
    · cases h
      obtain ⟨rfl, _⟩ := v_inv ha
      obtain ⟨rfl, _⟩ := v_inv hb
      exact ⟨eqIn_ptr (tk_ptr hk), by simp [plainEq]⟩
    · split at h
      · rename_i hl
        cases h
        obtain ⟨R, p, f, b, off, h1, h2, h3, h4, h5, rfl⟩ := ptr_live hr hl ha
        obtain ⟨rfl, _⟩ := v_inv hb
        exact ⟨eqIn_ptr' (tk_ptr hk), by simp [plainEq]⟩
      · cases h
    · split at h
      · rename_i hl
        cases h
        obtain ⟨R, p, f, b, off, h1, h2, h3, h4, h5, rfl⟩ := ptr_live hr hl hb
        obtain ⟨rfl, _⟩ := v_inv ha
        exact ⟨eqIn_ptr (tk_ptr hk), by simp [plainEq]⟩
      · cases h
    · cases h
      obtain ⟨rfl, _⟩ := v_inv hb
      cases ha with
      | q _ _ => exact ⟨eqIn_ptr' (tk_ptr hk), by simp [plainEq]⟩
    · cases h
      obtain ⟨rfl, _⟩ := v_inv ha
      cases hb with
      | q _ _ => exact ⟨eqIn_ptr (tk_ptr hk), by simp [plainEq]⟩
    · split at h
      · rename_i hc
        obtain ⟨rfl, rfl, rfl, hz, hl⟩ := hc
        cases h
        obtain ⟨R, p, f, b, off, h1, h2, h3, h4, h5, rfl⟩ := ptr_live hr hl ha
        obtain ⟨R2, p2, f2, b2, off2, k1, k2, k3, k4, k5, rfl⟩ := ptr_live hr hl hb
        rw [h2] at k2; cases k2
        rw [h5] at k5; cases k5
        exact ⟨eqIn_ptrs (tk_ptr hk) hz, by simp [plainEq]⟩
      · cases h
    · cases h
  · rename_i hk
    obtain ⟨ps, rs, vr, hu⟩ := tk_func hk
    split at h
    · cases h
      obtain ⟨rfl, _⟩ := v_inv hb
      cases ha with
      | c h => cases h with
        | f _ _ => exact ⟨eqIn_func hu, by simp [plainEq]⟩
    · cases h
      obtain ⟨rfl, _⟩ := v_inv ha
      obtain ⟨rfl, _⟩ := v_inv hb
      exact ⟨eqIn_func0 hu, by simp [plainEq]⟩
    · cases h
  · rename_i k e hk
    split at h
    · cases h
      obtain ⟨rfl, _⟩ := v_inv ha
      obtain ⟨rfl, _⟩ := v_inv hb
      exact ⟨eqIn_map0 (tk_map hk), by simp [plainEq]⟩
    · cases h
      obtain ⟨rfl, _⟩ := v_inv hb
      cases ha with
      | c h => cases h with
        | m => exact ⟨eqIn_map1 (tk_map hk), by simp [plainEq]⟩
    · cases h
      obtain ⟨rfl, _⟩ := v_inv ha
      cases hb with
      | c h => cases h with
        | m => exact ⟨eqIn_map2 (tk_map hk), by simp [plainEq]⟩
    · cases h
  · cases h
theorem run_binOp_eql {t : TypeId} {u v : Value} {r : Bool} (h : plainEq u v) (he : (Op.equal t u v).run P w = .ok r w) : (binOp .eql t u v).run P w = .ok (.bool r) w := by
  obtain ⟨_, _, h1, h2, h3, h4⟩ := h
  cases u <;> first
    | exact absurd rfl (h1 _ _)
    | exact absurd rfl (h2 _ _)
    | exact absurd rfl (h3 _ _ _)
    | exact absurd rfl (h4 _)
    | (cases v <;> simp [binOp, he])
theorem run_binOp_neq {t : TypeId} {u v : Value} {r : Bool} (h : plainEq u v) (he : (Op.equal t u v).run P w = .ok r w) : (binOp .neq t u v).run P w = .ok (.bool !r) w := by
  obtain ⟨_, _, h1, h2, h3, h4⟩ := h
  cases u <;> first
    | exact absurd rfl (h1 _ _)
    | exact absurd rfl (h2 _ _)
    | exact absurd rfl (h3 _ _ _)
    | exact absurd rfl (h4 _)
    | (cases v <;> simp [binOp, he])
theorem eqFs_sound {n : Nat} {cs ds : List C} {xs ys : Array Value} (hc : Rep w S E (.vs cs xs.toList) []) (hd : Rep w S E (.vs ds ys.toList) []) : ∀ (fs : List Field) (i : Nat) (ks : List TK) (r : Bool),
    flatTs P i fs = some ks → eqCs ks (cs.drop i) (ds.drop i) = some r → (Op.eqFields (n + 1) xs ys fs).run P w = .ok r w
  | [], i, ks, r, hf, he => by
    cases hf
    cases hcs : cs.drop i with
    | cons c cs' => rw [hcs] at he; simp [eqCs] at he
    | nil =>
      cases hds : ds.drop i with
      | cons d ds' => rw [hcs, hds] at he; simp [eqCs] at he
      | nil =>
        rw [hcs, hds] at he
        cases he
        simp only [Op.eqFields, Sem.run_pure]
  | f :: fs, i, ks, r, hf, he => by
    simp only [flatTs] at hf
    split at hf
    · rename_i hcond
      obtain ⟨hname, hoff⟩ := hcond
      split at hf
      · rename_i k ks' hk hks
        cases hf
        cases hcs : cs.drop i with
        | nil => rw [hcs] at he; simp [eqCs] at he
        | cons c cs' =>
          cases hds : ds.drop i with
          | nil => rw [hcs, hds] at he; simp [eqCs] at he
          | cons d ds' =>
            rw [hcs, hds] at he
            simp only [eqCs] at he
            split at he
            · rename_i a b h1 h2
              cases he
              have gc : cs[i]? = some c := by have := congrArg (·[0]?) hcs; simpa using this
              have gd : ds[i]? = some d := by have := congrArg (·[0]?) hds; simpa using this
              have tc : cs.drop (i + 1) = cs' := by rw [← List.drop_drop, hcs]; rfl
              have td : ds.drop (i + 1) = ds' := by rw [← List.drop_drop, hds]; rfl
              have hag : k.agg = false := by unfold eqC at h1; split at h1 <;> first | rfl | cases h1
              have pc : qpart P f.type i cs = some (.c c) := by unfold qpart; rw [hk]; simp only [hag, gc]; rfl
              have pd : qpart P f.type i ds = some (.c d) := by unfold qpart; rw [hk]; simp only [hag, gd]; rfl
              obtain ⟨vc, rc, rc'⟩ := qpart_sound hc pc
              obtain ⟨vd, rd, rd'⟩ := qpart_sound hd pd
              have heq : (Op.equalIn (n + 1) f.type vc vd).run P w = .ok a w := by
                unfold eqC at h1
                split at h1
                · rename_i k0 k1 x k2 y
                  split at h1
                  · rename_i hkk
                    subst hkk
                    cases h1
                    obtain ⟨rfl, _⟩ := v_inv rc'
                    obtain ⟨rfl, _⟩ := v_inv rd'
                    rw [run_equalIn_int w n f.type k1 k0 x y (tk_int hk)]
                    by_cases hxy : x = y
                    · subst hxy; simp
                    · simp [hxy]
                  · cases h1
                · cases h1
                  obtain ⟨rfl, _⟩ := v_inv rc'
                  obtain ⟨rfl, _⟩ := v_inv rd'
                  rw [run_equalIn_bool' w n f.type _ _ (tk_bool hk)]
                · cases h1
                  obtain ⟨rfl, _⟩ := v_inv rc'
                  obtain ⟨rfl, _⟩ := v_inv rd'
                  rw [run_equalIn_string w n f.type _ _ (tk_str hk)]; rfl
                · cases h1
              simp only [Op.eqFields, if_pos hname, hoff, Sem.run_bind, rc, rd, heq, Result.andThen_ok, Sem.run_ite]
              cases a with
              | false => simp only [Bool.not_false, if_true, Sem.run_pure, Bool.false_and]
              | true =>
                simp only [Bool.not_true, Z7, if_false, Bool.true_and]
                exact eqFs_sound hc hd fs (i + 1) ks' b hks (by rw [tc, td]; exact h2)
            · cases he
      · cases hf
    · cases hf
theorem eqCs_app : ∀ (ks ks2 : List TK) (cs ds : List C) (r : Bool), eqCs (ks ++ ks2) cs ds = some r → ∃ a b, eqCs ks (cs.take ks.length) (ds.take ks.length) = some a ∧ eqCs ks2 (cs.drop ks.length) (ds.drop ks.length) = some b ∧ r = (a && b)
  | [], ks2, cs, ds, r, h => ⟨true, r, rfl, h, rfl⟩
  | k :: ks, ks2, [], ds, r, h => by simp [eqCs] at h
  | k :: ks, ks2, c :: cs, [], r, h => by simp [eqCs] at h
  | k :: ks, ks2, c :: cs, d :: ds, r, h => by
    rw [List.cons_append, eqCs] at h
    split at h
    · rename_i a b h1 h2
      cases h
      obtain ⟨a', b', e1, e2, rfl⟩ := eqCs_app ks ks2 cs ds b h2
      refine ⟨a && a', b', ?_, e2, by rw [Bool.and_assoc]⟩
      show eqCs (k :: ks) (c :: cs.take ks.length) (d :: ds.take ks.length) = _
      rw [eqCs, h1, e1]
    · cases h
theorem eqC_scalar {n : Nat} {k : TK} {t : TypeId} {c d : C} {vc vd : Value} {a : Bool} (hk : tk P t = some k) (h1 : eqC k c d = some a) (rc' : RepD w S E (.c c) vc) (rd' : RepD w S E (.c d) vd) : (Op.equalIn (n + 1) t vc vd).run P w = .ok a w := by
  unfold eqC at h1
  split at h1
  · rename_i k0 k1 x k2 y
    split at h1
    · rename_i hkk
      subst hkk
      cases h1
      obtain ⟨rfl, _⟩ := v_inv rc'
      obtain ⟨rfl, _⟩ := v_inv rd'
      rw [run_equalIn_int w n t k1 k0 x y (tk_int hk)]
      by_cases hxy : x = y
      · subst hxy; simp
      · simp [hxy]
    · cases h1
  · cases h1
    obtain ⟨rfl, _⟩ := v_inv rc'
    obtain ⟨rfl, _⟩ := v_inv rd'
    rw [run_equalIn_bool' w n t _ _ (tk_bool hk)]
  · cases h1
    obtain ⟨rfl, _⟩ := v_inv rc'
    obtain ⟨rfl, _⟩ := v_inv rd'
    rw [run_equalIn_string w n t _ _ (tk_str hk)]; rfl
  · cases h1
theorem eqNs_sound {n : Nat} {cs ds : List C} {xs ys : Array Value} (hc : Rep w S E (.vs cs xs.toList) []) (hd : Rep w S E (.vs ds ys.toList) []) : ∀ (fs : List Field) (i : Nat) (ks : List TK) (r : Bool),
    flatNs P i fs = some ks → eqCs ks (cs.drop i) (ds.drop i) = some r → (Op.eqFields (n + 2) xs ys fs).run P w = .ok r w
  | [], i, ks, r, hf, he => by
    cases hf
    cases hcs : cs.drop i with
    | cons c cs' => rw [hcs] at he; simp [eqCs] at he
    | nil =>
      cases hds : ds.drop i with
      | cons d ds' => rw [hcs, hds] at he; simp [eqCs] at he
      | nil =>
        rw [hcs, hds] at he
        cases he
        simp only [Op.eqFields, Sem.run_pure]
  | f :: fs, i, ks, r, hf, he => by
    simp only [flatNs] at hf
    split at hf
    · rename_i hcond
      obtain ⟨hname, hoff⟩ := hcond
      split at hf
      · rename_i k hk
        split at hf
        · rename_i hag
          split at hf
          · rename_i ks1 hk1
            split at hf
            · rename_i hsz
              obtain ⟨hsz, hsz0⟩ := hsz
              split at hf
              · rename_i r1 hr1
                cases hf
                obtain ⟨a, b, e1, e2, rfl⟩ := eqCs_app ks1 r1 _ _ r he
                rw [List.drop_drop] at e2
                rw [List.drop_drop] at e2
                have pc : qpart P f.type i cs = some (.agg ((cs.drop i).take ks1.length)) := by unfold qpart; rw [hk]; simp only [hag, if_true, hsz]; rw [if_neg hsz0]
                have pd : qpart P f.type i ds = some (.agg ((ds.drop i).take ks1.length)) := by unfold qpart; rw [hk]; simp only [hag, if_true, hsz]; rw [if_neg hsz0]
                obtain ⟨vc, rc, rc'⟩ := qpart_sound hc pc
                obtain ⟨vd, rd, rd'⟩ := qpart_sound hd pd
                obtain ⟨xa, rfl, hx⟩ := agg_inv rc'
                obtain ⟨ya, rfl, hy⟩ := agg_inv rd'
                unfold flatSt at hk1
                split at hk1
                · rename_i gs hu
                  split at hk1
                  · rename_i hst
                    have hfo : P.fieldsOf f.type = gs := by unfold Program.fieldsOf; rw [hu]
                    have heq : (Op.equalIn (n + 2) f.type (.agg xa) (.agg ya)).run P w = .ok a w := by
                      have h0 := run_equalIn_struct (P := P) w (n + 1) f.type xa ya (by rw [hfo]; exact hu) hst
                      rw [hfo] at h0
                      exact h0.trans (eqFs_sound (n := n) hx hy gs.toList 0 ks1 a hk1 (by simpa using e1))
                    simp only [Op.eqFields, if_pos hname, hoff, Sem.run_bind, rc, rd, heq, Result.andThen_ok, Sem.run_ite]
                    cases a with
                    | false => simp only [Bool.not_false, if_true, Sem.run_pure, Bool.false_and]
                    | true =>
                      simp only [Bool.not_true, Z7, if_false, Bool.true_and]
                      exact eqNs_sound hc hd fs (i + ks1.length) r1 b hr1 e2
                  · cases hk1
                · cases hk1
              · cases hf
            · cases hf
          · cases hf
        · rename_i hag
          split at hf
          · rename_i ks' hks
            cases hf
            cases hcs : cs.drop i with
            | nil => rw [hcs] at he; simp [eqCs] at he
            | cons c cs' =>
              cases hds : ds.drop i with
              | nil => rw [hcs, hds] at he; simp [eqCs] at he
              | cons d ds' =>
                rw [hcs, hds] at he
                simp only [eqCs] at he
                split at he
                · rename_i a b h1 h2
                  cases he
                  have gc : cs[i]? = some c := by have := congrArg (·[0]?) hcs; simpa using this
                  have gd : ds[i]? = some d := by have := congrArg (·[0]?) hds; simpa using this
                  have tc : cs.drop (i + 1) = cs' := by rw [← List.drop_drop, hcs]; rfl
                  have td : ds.drop (i + 1) = ds' := by rw [← List.drop_drop, hds]; rfl
                  have hag2 : k.agg = false := by cases h : k.agg <;> simp_all
                  have pc : qpart P f.type i cs = some (.c c) := by unfold qpart; rw [hk]; simp only [hag2, gc]; rfl
                  have pd : qpart P f.type i ds = some (.c d) := by unfold qpart; rw [hk]; simp only [hag2, gd]; rfl
                  obtain ⟨vc, rc, rc'⟩ := qpart_sound hc pc
                  obtain ⟨vd, rd, rd'⟩ := qpart_sound hd pd
                  have heq : (Op.equalIn (n + 2) f.type vc vd).run P w = .ok a w := eqC_scalar (n := n + 1) hk h1 rc' rd'
                  simp only [Op.eqFields, if_pos hname, hoff, Sem.run_bind, rc, rd, heq, Result.andThen_ok, Sem.run_ite]
                  cases a with
                  | false => simp only [Bool.not_false, if_true, Sem.run_pure, Bool.false_and]
                  | true =>
                    simp only [Bool.not_true, Z7, if_false, Bool.true_and]
                    exact eqNs_sound hc hd fs (i + 1) ks' b hks (by rw [tc, td]; exact h2)
                · cases he
          · cases hf
      · cases hf
    · cases hf
theorem qbin_sound (hr : Rel g S E F A a w) {op : BinOp} {t : TypeId} {x y : Operand} {da db d' : D} {va vb : Value} (ha : RepD w S E da va) (hb : RepD w S E db vb) (h : qbin P A.H op t da db = some d') :
    ∃ v', (eqGuard op t x y va vb).run P w = .ok () w ∧ (binOp op t va vb).run P w = .ok v' w ∧ RepD w S E d' v' := by
  unfold qbin at h
  split at h
  · rename_i xs ys
    obtain ⟨xa, rfl, hx⟩ := agg_inv ha
    obtain ⟨ya, rfl, hy⟩ := agg_inv hb
    split at h
    · rename_i e ks he hks
      cases hq : eqCs ks xs ys with
      | none => rw [hq] at h; cases h
      | some r =>
        rw [hq] at h; cases h
        unfold flatT at hks
        split at hks
        · rename_i fs hu
          split at hks
          · rename_i hc
            obtain ⟨c1, c2⟩ := hc
            have hfo : P.fieldsOf t = fs := by unfold Program.fieldsOf; rw [hu]
            have h1 : (Op.equalIn 10000 t (.agg xa) (.agg ya)).run P w = .ok r w := by
              have h0 := run_equalIn_struct (P := P) w 9999 t xa ya (by rw [hfo]; exact hu) c1
              rw [hfo] at h0
              refine h0.trans ?_
              split at hks
              · rename_i ks2 hks2
                split at hks
                · exact eqNs_sound (n := 9997) hx hy fs.toList 0 ks r hks (by simpa using hq)
                · cases hks
                  exact eqFs_sound (n := 9998) hx hy fs.toList 0 ks r hks2 (by simpa using hq)
              · cases hks
            have hg := run_eqGuard_agg (P := P) w op t x y xa ya c2
            cases op <;> simp [isEq] at he
            · subst he; exact ⟨.bool r, hg, by rw [run_eql_struct, h1]; rfl, .c (.v trivial)⟩
            · subst he; exact ⟨.bool (!r), hg, by rw [run_neq_struct, h1]; rfl, .c (.v trivial)⟩
          · cases hks
        · cases hks
    · cases h
  · rename_i k x k' y
    obtain ⟨rfl, hx⟩ := v_inv ha
    obtain ⟨rfl, hy⟩ := v_inv hb
    split at h
    · rename_i hs
      cases hq : Yc op k x y with
      | none => rw [hq] at h; cases h
      | some c =>
        rw [hq] at h; cases h
        obtain ⟨v', rfl, h1, h2⟩ := qshift_sound (P := P) (w := w) (t := t) (k' := k') hx hq
        exact ⟨v', run_eqGuard (by simp) (by simp), h1, .c (.v h2)⟩
    · rename_i hs
      split at h
      · rename_i hkk
        subst hkk
        cases hq : qint op k x y with
        | none => rw [hq] at h; cases h
        | some c =>
          rw [hq] at h; cases h
          obtain ⟨v', rfl, h1, h2⟩ := qint_sound (P := P) (w := w) (t := t) hx hy (by simpa using hs) hq
          exact ⟨v', run_eqGuard (by simp) (by simp), h1, .c (.v h2)⟩
      · cases h
  · rename_i x y
    obtain ⟨rfl, hx⟩ := v_inv ha
    obtain ⟨rfl, hy⟩ := v_inv hb
    cases hq : qstr op x y with
    | none => rw [hq] at h; cases h
    | some c =>
      rw [hq] at h; cases h
      obtain ⟨v', rfl, h1, h2⟩ := qstr_sound (P := P) (w := w) (t := t) hq
      exact ⟨v', run_eqGuard (by simp) (by simp), h1, .c (.v h2)⟩
  · split at h
    · rename_i e he
      cases hq : qeq P A.H t da db with
      | none => rw [hq] at h; cases h
      | some r =>
        rw [hq] at h; cases h
        obtain ⟨h1, h2⟩ := qeq_sound hr ha hb hq
        cases op <;> simp [isEq] at he
        · subst he; exact ⟨.bool r, run_eqGuard h2.1 h2.2.1, run_binOp_eql h2 h1, .c (.v trivial)⟩
        · subst he; exact ⟨.bool (!r), run_eqGuard h2.1 h2.2.1, run_binOp_neq h2 h1, .c (.v trivial)⟩
    · cases h
theorem qbuiltin_sound (hr : Rel g S E F A a w) {c : Call} {ty : TypeId} {d : D} (hev : ∀ {x : Operand} {d : D}, x ∈ (Op.operands (.call c)).toList → A.ev x = some d → RepD w S E d (a.eval x))
    (h : qbuiltin P A.ev A.H c = some d) : ∃ v, (do let d ← resolve a.eval c ty; invoke d.target d.args : Sem Next).run P w = .ok (.value v) w ∧ RepD w S E d v := by
  unfold qbuiltin at h
  split at h
  · rename_i hc
    split at h
    · rename_i x t hargs htys
      cases hx : A.ev x with
      | none => rw [hx] at h; cases h
      | some d0 =>
        rw [hx] at h
        have ha : c.args = #[x] := by apply Array.toList_inj.1; simpa using hargs
        have ht : c.argTypes = #[t] := by apply Array.toList_inj.1; simpa using htys
        obtain ⟨v', h1, h2⟩ := qlen_sound (P := P) (ty := ty) hr (hev (by simp [Op.operands, Call.operands, hc, ha]) hx) h
        exact ⟨v', by simp [resolve, invoke, builtin, hc, ha, ht, h1], h2⟩
    · cases h
  · rename_i hc
    split at h
    · rename_i x y hargs
      have ha : c.args = #[x, y] := by apply Array.toList_inj.1; simpa using hargs
      split at h
      · rename_i da db h1 h2
        have r1 := hev (x := x) (by simp [Op.operands, Call.operands, hc, ha]) h1
        have r2 := hev (x := y) (by simp [Op.operands, Call.operands, hc, ha]) h2
        unfold q2 at h
        split at h
        · rename_i k x' k' y'
          split at h
          · rename_i hk
            subst hk
            cases h
            obtain ⟨e1, s1⟩ := v_inv r1
            obtain ⟨e2, s2⟩ := v_inv r2
            refine ⟨.int k (if x' < y' then y' else x'), ?_, ?_⟩
            · simp [resolve, invoke, builtin, hc, ha, Builtin.max_, Builtin.max2, e1, e2]
            · simp only [if_true]
              refine .c (.v ?_)
              split
              · exact s2
              · exact s1
          · cases h
        · cases h
      · cases h
    · cases h
  · rename_i hc
    split at h
    · rename_i x y hargs
      have ha : c.args = #[x, y] := by apply Array.toList_inj.1; simpa using hargs
      split at h
      · rename_i da db h1 h2
        have r1 := hev (x := x) (by simp [Op.operands, Call.operands, hc, ha]) h1
        have r2 := hev (x := y) (by simp [Op.operands, Call.operands, hc, ha]) h2
        unfold q2 at h
        split at h
        · rename_i k x' k' y'
          split at h
          · rename_i hk
            subst hk
            cases h
            obtain ⟨e1, s1⟩ := v_inv r1
            obtain ⟨e2, s2⟩ := v_inv r2
            refine ⟨.int k (if y' < x' then y' else x'), ?_, ?_⟩
            · simp [resolve, invoke, builtin, hc, ha, Builtin.min_, Builtin.min2, e1, e2]
            · simp only [Z7, if_false]
              refine .c (.v ?_)
              split
              · exact s2
              · exact s1
          · cases h
        · cases h
      · cases h
    · cases h
  · cases h
/-- A quiet operation is what the function says. -/
theorem qev_sound (hr : Rel g S E F A a w) {o : Oper} {d : D} (hop : o.op.operands.toList.all opdOK = true) (h : qev P A.ev A.H o.op = some d) :
    ∃ v, (execOp a.eval o).run P w = .ok (.value v) w ∧ RepD w S E d v := by
  have hev : ∀ {x : Operand} {d : D}, x ∈ o.op.operands.toList → A.ev x = some d → RepD w S E d (a.eval x) :=
    fun hx he => ev_rep hr (List.all_eq_true.1 hop _ hx) he
  unfold qev at h
  split at h
  · rename_i x ho
    exact ⟨a.eval x, by simp [execOp, ho], hev (by simp [ho, Op.operands]) h⟩
  · rename_i x ho
    exact ⟨a.eval x, by simp [execOp, ho], hev (by simp [ho, Op.operands]) h⟩
  · rename_i c x y ho
    split at h
    · rename_i dc da db h1 h2 h3
      obtain ⟨b, hb, hd⟩ := qpick_sound (hev (by simp [ho, Op.operands]) h1) (hev (by simp [ho, Op.operands]) h2) (hev (by simp [ho, Op.operands]) h3) h
      exact ⟨if b then a.eval x else a.eval y, by simp [execOp, ho, hb, asBool], hd⟩
    · cases h
  · rename_i t x ho
    cases hx : A.ev x with
    | none => rw [hx] at h; cases h
    | some d0 =>
      rw [hx] at h
      obtain ⟨v', h1, h2⟩ := qload_sound hr (hev (by simp [ho, Op.operands]) hx) h
      exact ⟨v', by simp [execOp, ho, h1], h2⟩
  · rename_i x ho
    cases hx : A.ev x with
    | none => rw [hx] at h; cases h
    | some d0 =>
      rw [hx] at h
      exact ⟨_, qnil_sound hr rfl ho (hev (by simp [ho, Op.operands]) hx) h⟩
  · rename_i op t x y ty ho
    split at h
    · rename_i da db h1 h2
      obtain ⟨v', k1, k2, k3⟩ := qbin_sound (x := x) (y := y) hr (hev (by simp [ho, Op.operands]) h1) (hev (by simp [ho, Op.operands]) h2) h
      exact ⟨v', by simp [execOp, ho, k1, k2], k3⟩
    · cases h
  · rename_i op ty x ho
    cases hx : A.ev x with
    | none => rw [hx] at h; cases h
    | some d0 =>
      rw [hx] at h
      obtain ⟨v', h1, h2⟩ := qun_sound (P := P) (hev (by simp [ho, Op.operands]) hx) h
      exact ⟨v', by simp [execOp, ho, h1], h2⟩
  · rename_i s t x ho
    cases hx : A.ev x with
    | none => rw [hx] at h; cases h
    | some d0 =>
      rw [hx] at h
      obtain ⟨v', h1, h2⟩ := qconv_sound (hev (by simp [ho, Op.operands]) hx) h
      exact ⟨v', by simp [execOp, ho, h1], h2⟩
  · rename_i t x i ho
    cases hx : A.ev x with
    | none => rw [hx] at h; cases h
    | some d0 =>
      rw [hx] at h
      obtain ⟨v', h1, h2⟩ := qfieldAddr_sound hr (hev (by simp [ho, Op.operands]) hx) h
      exact ⟨v', by simp [execOp, ho, h1], h2⟩
  · rename_i t x i ho
    cases hx : A.ev x with
    | none => rw [hx] at h; cases h
    | some d0 =>
      rw [hx] at h
      obtain ⟨v', h1, h2⟩ := qfield_sound (hev (by simp [ho, Op.operands]) hx) h
      exact ⟨v', by simp [execOp, ho, h1], h2⟩
  · rename_i t x i ho
    split at h
    · rename_i d0 n h1 h2
      cases hi : A.ev i with
      | none => rw [hi] at h2; cases h2
      | some di =>
        rw [hi] at h2
        obtain ⟨k, hk, _⟩ := int_inv (hev (x := i) (by simp [ho, Op.operands]) hi) h2
        obtain ⟨v', k1, k2⟩ := qindexAddr_sound (k := k) hr (hev (by simp [ho, Op.operands]) h1) h
        exact ⟨v', by simp [execOp, ho, hk, k1], k2⟩
    · cases h
  · rename_i t x i ho
    split at h
    · rename_i d0 n h1 h2
      cases hi : A.ev i with
      | none => rw [hi] at h2; cases h2
      | some di =>
        rw [hi] at h2
        obtain ⟨k, hk, _⟩ := int_inv (hev (x := i) (by simp [ho, Op.operands]) hi) h2
        obtain ⟨v', k1, k2⟩ := qindex_sound (k := k) (hev (by simp [ho, Op.operands]) h1) h
        exact ⟨v', by simp [execOp, ho, hk, k1], k2⟩
    · cases h
  · rename_i t x lo hi ho
    cases hx : A.ev x with
    | none => rw [hx] at h; cases h
    | some d0 =>
      rw [hx] at h
      obtain ⟨v', k1, k2, k3⟩ := qslice_sound (vlo := lo.map a.eval) (vhi := hi.map a.eval) hr (hev (by simp [ho, Op.operands]) hx)
        (fun d hd => by
          cases lo with
          | none => cases hd
          | some l => simp only [omap, Z3] at hd; exact ⟨_, rfl, hev (by simp [ho, Op.operands]) hd⟩)
        (fun hd => by cases lo with | none => rfl | some l => cases hd)
        (fun d hd => by
          cases hi with
          | none => cases hd
          | some l => simp only [omap, Z3] at hd; exact ⟨_, rfl, hev (by simp [ho, Op.operands]) hd⟩)
        (fun hd => by cases hi with | none => rfl | some l => cases hd) h
      refine ⟨v', ?_, k2⟩
      have hs : (Instr.sliceAt t (a.eval x) (lo.map a.eval) (hi.map a.eval) none).run P w = .ok v' w := by
        unfold Instr.sliceAt
        rw [Sem.run_bind]
        cases hu : P.underlying t with
        | none => simp [Instr.slice, underlying, program, Sem.run, hu, stuck] at k1
        | some ud =>
          rw [run_und hu, Result.andThen_ok]
          split
          · rename_i n e; exact absurd hu (k3 n e)
          · exact k1
      simp [execOp, ho, hs]
  · rename_i t x lo hi mx ho
    cases hx : A.ev x with
    | none => rw [hx] at h; cases h
    | some d0 =>
      rw [hx] at h
      obtain ⟨v', k1, k2, k3⟩ := qslice3_sound (vlo := a.eval lo) (vhi := a.eval hi) (vmx := a.eval mx) hr (hev (by simp [ho, Op.operands]) hx)
        (fun d hd => hev (by simp [ho, Op.operands]) hd) (fun d hd => hev (by simp [ho, Op.operands]) hd) (fun d hd => hev (by simp [ho, Op.operands]) hd) h
      refine ⟨v', ?_, k2⟩
      have hs : (Instr.sliceAt t (a.eval x) (some (a.eval lo)) (some (a.eval hi)) (some (a.eval mx))).run P w = .ok v' w := by
        unfold Instr.sliceAt
        rw [Sem.run_bind]
        cases hu : P.underlying t with
        | none => simp [Instr.slice, underlying, program, Sem.run, hu, stuck] at k1
        | some ud =>
          rw [run_und hu, Result.andThen_ok]
          split
          · rename_i n e; exact absurd hu (k3 n e)
          · exact k1
      simp [execOp, ho, hs]
  · rename_i x i ho
    cases hx : A.ev x with
    | none => rw [hx] at h; cases h
    | some d0 =>
      rw [hx] at h
      obtain ⟨v', h1, h2⟩ := qext_sound (P := P) (hev (by simp [ho, Op.operands]) hx) h
      exact ⟨v', by simp [execOp, ho, h1], h2⟩
  · rename_i c ho
    obtain ⟨v', h1, h2⟩ := qbuiltin_sound (ty := o.type) hr (fun hx he => hev (by rw [ho]; exact hx) he) h
    exact ⟨v', by simp [execOp, ho, h1], h2⟩
  · cases h
end
end Go.Dl

namespace Go.Dl
open Go.RowKit
section
variable {P : Program}
theorem getD_set (arr : Array Value) (t i : Nat) (v : Value) : (arr.setIfInBounds t v).getD i undef = if t = i ∧ t < arr.size then v else arr.getD i undef := by
  simp only [Array.getD_eq_getD_getElem?, Array.getElem?_setIfInBounds]
  split
  · rename_i h; subst h
    split
    · rename_i h; simp [h]
    · rename_i h; simp [h]
  · rename_i h; simp [h]
theorem Rel.put {g : G} {S : Nat → Prop} {E : Env} {F : List (List Nat)} {A : St} {a : Act} {w : World} (hr : Rel g S E F A a w) {dst : Option Tmp} {d : D} {v : Value}
    (hd : RepD w S E d v) : Rel g S E F (A.put dst d) (a.put dst v) w := by
  cases dst with
  | none => exact hr
  | some t =>
    refine { hr with len := ?_, sl := ?_, defers := hr.defers }
    · simp [St.put, Act.put, hr.len]
    · intro i d' h
      simp only [St.put] at h
      simp only [Act.put, getD_set]
      rw [List.getElem?_set] at h
      split at h
      · rename_i hti
        subst hti
        split at h
        · rename_i hlt
          cases h
          rw [if_pos ⟨rfl, by rw [← hr.len]; exact hlt⟩]; exact hd
        · cases h
      · rename_i hti
        rw [if_neg (fun h => hti h.1)]
        exact hr.sl i d' h
/-- One operation, from a state. -/
def Step (P : Program) (o : Oper) (A : St) (R : St → Prop) : Prop :=
  ∀ g a w, Sat g A a w → ∀ (next : Act → World → Prop) (Q : Exit → Act → World → Prop), (∀ A' a' w', R A' → Sat g A' a' w' → next a' w') → o.wp P a w next Q
theorem step_quiet {o : Oper} {A : St} {d : D} {R : St → Prop} (hop : o.op.operands.toList.all opdOK = true) (h : qev P A.ev A.H o.op = some d) (hR : R (A.put o.dst d)) : Step P o A R := by
  intro g a w ⟨S, E, F, hr⟩ next Q hn
  obtain ⟨v, h1, h2⟩ := qev_sound hr hop h
  unfold Oper.wp
  rw [h1]
  exact hn _ _ _ hR ⟨S, E, F, hr.put h2⟩
theorem yielded_of {ops : Array Oper} {a : Act} {j t : Nat} {b : Bool} (hj : (ops[j]?).bind (·.dst) = some t) (ht : a.tmps.getD t undef = .bool b) : yielded ops a.tmps j = some b := by
  unfold yielded
  rw [hj, Option.bind_some]
  rw [Array.getD_eq_getD_getElem?] at ht
  cases hx : a.tmps[t]? with
  | none => rw [hx] at ht; simp [undef] at ht
  | some v => rw [hx] at ht; simp at ht; subst ht; rfl
end
end Go.Dl

namespace Go.Dl
open Go.RowKit
section
variable {P : Program} {g : G} {S : Nat → Prop} {E : Env} {F : List (List Nat)} {A : St} {a : Act} {w : World}
theorem Rep.todat {w : World} {S : Nat → Prop} {E : Env} {c : C} {v : Value} {fp : List Nat} (h : Rep w S E (.k false c v) fp) (hd : c.dat = true) (dat : Bool) : Rep w S E (.k dat c v) fp := by
  cases h with
  | v h => exact .v h
  | nilI => exact .nilI
  | nilO => exact .nilO
  | imm hS hc hl hr => exact .imm hS hc hl hr
  | own hz hb hc hl hr => exact .own hz hb hc hl hr
  | optr hb hr => exact .optr hb hr
  | x => cases hd
  | m => exact .m
  | un => exact .un
  | uo h0 hg hc hm hz ht => exact .uo h0 hg hc hm hz ht
  | h _ _ => cases hd
  | p _ _ => cases hd
  | f hc hr => exact .f (.inr (by simpa [C.dat] using hd)) hr
/-- Values of one cell: what is stored in a cell. -/
theorem Rep.one {w : World} {S : Nat → Prop} {E : Env} {dat : Bool} {c : C} {v : Value} {fp : List Nat} (h : Rep w S E (.k dat c v) fp) (hx : c ≠ .x) (hh : ∀ r lo len, c = .h r lo len → ∃ p, E[r]? = some (some p))
    (hp : ∀ r e k, c = .p r e k → ∃ p, E[r]? = some (some p)) : v.oneCell' = true := by
  cases h with
  | v h => cases v <;> first | rfl | (simp [Sc] at h)
  | nilI => rfl
  | nilO => rfl
  | imm _ _ _ _ => rfl
  | own _ _ _ _ _ => rfl
  | optr _ _ => rfl
  | x => exact absurd rfl hx
  | m => rfl
  | un => rfl
  | uo _ _ _ _ _ _ => rfl
  | h hr hh' =>
    obtain ⟨p, hp⟩ := hh _ _ _ rfl
    obtain ⟨_, h2⟩ := hh' p hp
    cases hat : p.at? with
    | none => rw [hat] at h2; obtain ⟨ad, rfl⟩ := h2; rfl
    | some bo => rw [hat] at h2; obtain ⟨ad, cap, rfl, _⟩ := h2; rfl
  | p hr hh' =>
    obtain ⟨p, hp⟩ := hp _ _ _ rfl
    obtain ⟨b, off, _, rfl⟩ := hh' p hp
    rfl
  | f _ _ => rfl
theorem flat_get {F : List (List Nat)} {r : Nat} {f : List Nat} (h : F[r]? = some f) : ∀ b ∈ f, b ∈ F.flatten := by
  intro b hb
  exact List.mem_flatten.2 ⟨f, List.mem_of_getElem? h, hb⟩
theorem RootAt.mono {w w' : World} {S S' : Nat → Prop} {E E' : Env} {R : Root} {p : Pl} {f : List Nat} (h : RootAt w S E R p f) (hS : ∀ b, S b → S' b)
    (hE : EnvLe E E' (fun r => R.dat || C.nos r R.rows.flatten)) (hb : ∀ b, S b ∨ b ∈ f → w'.heap[b]? = w.heap[b]?) : RootAt w' S' E' R p f := by
  obtain ⟨h1, h2, h3, h4, h5⟩ := h
  refine ⟨h1, h2, h3, h4, ?_⟩
  cases hat : p.at? with
  | none => rw [hat] at h5; exact h5
  | some bo =>
    obtain ⟨b, off⟩ := bo
    rw [hat] at h5
    obtain ⟨fr, e1, e2, e3⟩ := h5
    subst e1
    refine ⟨fr, rfl, e2.keep (hb b (.inr (List.mem_cons_self ..))), e3.mono hS hE ?_⟩
    intro b' hb'
    rcases hb' with h | h | h
    · exact hb b' (.inl h)
    · exact hb b' (.inr (List.mem_cons_of_mem _ h))
    · simp only [It.base, List.mem_singleton] at h; subst h; exact hb _ (.inr (List.mem_cons_self ..))
/-- The world has grown or changed elsewhere. -/
theorem Rel.world {w' : World} (hr : Rel g S E F A a w) (hb : ∀ b, S b ∨ b ∈ F.flatten → w'.heap[b]? = w.heap[b]?) (hp : ∀ b, b < g.w0.heap.size → b ∉ g.own → w'.heap[b]? = w.heap[b]?)
    (hz : w.heap.size ≤ w'.heap.size) (ho : w'.os = w.os) (ht : w'.tape = w.tape) (hu : OutLe w w') : Rel g S E F A a w' where
  len := hr.len
  sl t d h := (hr.sl t d h).mono (fun _ h => h) (.refl _ _) (fun b h => hb b (.inl h))
  defers := hr.defers
  lE := hr.lE
  lF := hr.lF
  root r R h := by
    obtain ⟨p, f, h1, h2, h3⟩ := hr.root r R h
    exact ⟨p, f, h1, h2, h3.mono (fun _ h => h) (.refl _ _) (fun b hb' => hb b (hb'.imp id (flat_get h2 b)))⟩
  dead := hr.dead
  nodup := hr.nodup
  fS := hr.fS
  fsz b h := ⟨Nat.lt_of_lt_of_le (hr.fsz b h).1 hz, (hr.fsz b h).2⟩
  Ssz b h := ⟨Nat.lt_of_lt_of_le (hr.Ssz b h).1 hz, (hr.Ssz b h).2⟩
  S0 := hr.S0
  prot b h1 h2 := (hp b h1 h2).trans (hr.prot b h1 h2)
  size := Nat.le_trans hr.size hz
  os := ho.trans hr.os
  tape := ht.trans hr.tape
  output := hu.trans hr.output
  fix := hr.fix
theorem Rel.drawn (hr : Rel g S E F A a w) (n : Nat) (hn : w.drawn ≤ n) : Rel g S E F A a { w with drawn := n } :=
  hr.world (fun _ _ => rfl) (fun _ _ _ => rfl) (Nat.le_refl _) rfl rfl ⟨rfl, hn⟩
theorem envLe_append (E : Env) (x : Option Pl) (ok : Nat → Bool) : EnvLe E (E ++ [x]) ok := by
  refine ⟨by simp, fun r hr _ q hq => ⟨q, ?_, q.le_refl⟩⟩
  rwa [List.getElem?_append_left hr] at hq
theorem heap_alloc_lt (w : World) (o : Obj) {b : Nat} (h : b < w.heap.size) : (w.alloc o).heap[b]? = w.heap[b]? := Below.heap_alloc w o b h
theorem rep_new {w : World} {S : Nat → Prop} {E : Env} {dat : Bool} {b : Nat} : ∀ {cs : List C} {vs : List Value} {off : Nat}, Rep w S E (.vs cs vs) [] → (dat = true → cs.all C.dat = true) →
    (∀ (j : Nat) (v : Value), vs[j]? = some v → w.cell? ⟨b, off + j, none⟩ = some v) → Rep w S E (.l dat cs b off) [] := by
  intro cs
  induction cs with
  | nil => intro vs off _ _ _; exact .lnil
  | cons c cs ih =>
    intro vs off h hd hc
    generalize hfp : ([] : List Nat) = fp at h
    cases h with
    | vcons h1 h2 =>
      obtain ⟨rfl, rfl⟩ := List.append_eq_nil_iff.1 hfp.symm
      refine .lcons (f1 := []) (f2 := []) (hc 0 _ rfl) ?_ (ih h2 (fun h => ?_) ?_)
      · cases dat with
        | false => exact h1
        | true => exact h1.todat (by have := hd rfl; simp at this; exact this.1) true
      · have := hd h; simp at this ⊢; exact this.2
      · intro j v hj
        rw [show off + 1 + j = off + (j + 1) by omega]
        exact hc (j + 1) v (by simpa using hj)
/-- A new root in a new block. -/
theorem Rel.newRoot' (hr : Rel g S E F A a w) {w' : World} {R : Root} {vs extra : List Value} {el : TypeId} {z : Nat × Nat} {m : Nat} (hrep : Rep w S E (.vs R.rows.flatten vs) []) (hdat : R.dat = true → R.rows.flatten.all C.dat = true)
    (hl : ∀ r ∈ R.rows, r.length = R.es) (hm : m * R.es ≤ vs.length + extra.length) (hn : R.rows.length ≤ m)
    (hold : ∀ b, b < w.heap.size → w'.heap[b]? = w.heap[b]?) (hnew : w'.heap[w.heap.size]? = some (.cells (vs ++ extra).toArray el z)) (hfz : ∀ o, o < (vs ++ extra).toArray.size → w'.frozen? ⟨w.heap.size, o, none⟩ = false)
    (hsz : w'.heap.size = w.heap.size + 1) (ho : w'.os = w.os) (ht : w'.tape = w.tape) (hu : OutLe w w') :
    Rel g S (E ++ [some ⟨some (w.heap.size, 0), R.es, R.rows.length, m⟩]) (F ++ [[w.heap.size]]) { A with H := A.H ++ [some R] } a w' := by
  have hSlt : ∀ b, S b → b < w.heap.size := fun b h => (hr.Ssz b h).1
  have hFlt : ∀ b, b ∈ F.flatten → b < w.heap.size := fun b h => (hr.fsz b h).1
  have hcell : ∀ (j : Nat) (v : Value), vs[j]? = some v → w'.cell? ⟨w.heap.size, 0 + j, none⟩ = some v := by
    intro j v hj
    rw [Nat.zero_add]
    simp only [World.cell?, hnew]
    simp [List.getElem?_append_left (lt_len hj), hj]
  refine { len := hr.len, sl := ?_, defers := hr.defers, lE := by simp [hr.lE], lF := by simp [hr.lF], root := ?_, dead := ?_, nodup := ?_, fS := ?_, fsz := ?_, Ssz := ?_, S0 := hr.S0, prot := ?_, size := ?_, os := ho.trans hr.os, tape := ht.trans hr.tape, output := hu.trans hr.output, fix := ?_ }
  · intro t d h
    exact (hr.sl t d h).mono (fun _ h => h) (envLe_append _ _ _) (fun b h => hold b (hSlt b h))
  · intro r R' h
    by_cases hlt : r < A.H.length
    · rw [List.getElem?_append_left hlt] at h
      obtain ⟨p, f, h1, h2, h3⟩ := hr.root r R' h
      refine ⟨p, f, ?_, ?_, h3.mono (fun _ h => h) (envLe_append _ _ _) (fun b hb => hold b (hb.elim (hSlt b) (fun h => hFlt b (flat_get h2 b h))))⟩
      · rw [List.getElem?_append_left (lt_len h1)]; exact h1
      · rw [List.getElem?_append_left (lt_len h2)]; exact h2
    · have hreq : r = A.H.length := by
        have := lt_len h
        simp at this; omega
      subst hreq
      rw [List.getElem?_append_right (Nat.le_refl _)] at h
      simp at h
      subst h
      refine ⟨⟨some (w.heap.size, 0), R.es, R.rows.length, m⟩, [w.heap.size], by rw [List.getElem?_append_right (by rw [hr.lE]; exact Nat.le_refl _), hr.lE]; simp, by rw [List.getElem?_append_right (by rw [hr.lF]; exact Nat.le_refl _), hr.lF]; simp, rfl, rfl, hn, hl, [], rfl, ?_, ?_⟩
      · exact ⟨_, el, z, hnew, by simp; omega, hfz⟩
      · refine (rep_new (w := w') (vs := vs) ?_ hdat hcell)
        exact hrep.mono (fun _ h => h) (envLe_append _ _ _) (fun b hb => by
          rcases hb with h | h | h
          · exact hold b (hSlt b h)
          · cases h
          · cases h)
  · intro r h
    by_cases hlt : r < A.H.length
    · rw [List.getElem?_append_left hlt] at h
      obtain ⟨h1, h2⟩ := hr.dead r h
      exact ⟨by rw [List.getElem?_append_left (lt_len h1)]; exact h1, by rw [List.getElem?_append_left (lt_len h2)]; exact h2⟩
    · have hreq : r = A.H.length := by
        have := lt_len h
        simp at this; omega
      subst hreq
      rw [List.getElem?_append_right (Nat.le_refl _)] at h
      simp at h
  · rw [List.flatten_append, List.nodup_append]
    refine ⟨hr.nodup, by simp, ?_⟩
    intro x hx y hy hxy
    simp at hy
    have := hFlt x hx
    omega
  · intro b hb
    rw [List.flatten_append, List.mem_append] at hb
    rcases hb with h | h
    · exact hr.fS b h
    · simp at h; subst h; intro hS; exact Nat.lt_irrefl _ (hSlt _ hS)
  · intro b hb
    rw [List.flatten_append, List.mem_append] at hb
    rw [hsz]
    rcases hb with h | h
    · exact ⟨Nat.lt_succ_of_lt (hr.fsz b h).1, (hr.fsz b h).2⟩
    · simp at h; subst h; exact ⟨Nat.lt_succ_self _, .inr hr.size⟩
  · intro b hb
    rw [hsz]
    exact ⟨Nat.lt_succ_of_lt (hr.Ssz b hb).1, (hr.Ssz b hb).2⟩
  · intro b h1 h2
    rw [hold b (Nat.lt_of_lt_of_le h1 hr.size)]
    exact hr.prot b h1 h2
  · rw [hsz]; exact Nat.le_succ_of_le hr.size
  · intro r q hq
    obtain ⟨h1, h2⟩ := hr.fix r q hq
    refine ⟨by simp; omega, fun R' hR' => ?_⟩
    rw [List.getElem?_append_left h1] at hR'
    obtain ⟨k1, k2⟩ := h2 R' hR'
    refine ⟨k1, fun p hp => k2 p ?_⟩
    rwa [List.getElem?_append_left (by rw [hr.lE]; exact h1)] at hp
theorem Rel.newRoot (hr : Rel g S E F A a w) {R : Root} {vs extra : List Value} {el : TypeId} {m : Nat} (hrep : Rep w S E (.vs R.rows.flatten vs) []) (hdat : R.dat = true → R.rows.flatten.all C.dat = true)
    (hl : ∀ r ∈ R.rows, r.length = R.es) (hm : m * R.es ≤ vs.length + extra.length) (hn : R.rows.length ≤ m) :
    Rel g S (E ++ [some ⟨some (w.heap.size, 0), R.es, R.rows.length, m⟩]) (F ++ [[w.heap.size]]) { A with H := A.H ++ [some R] } a (w.alloc (.cells (vs ++ extra).toArray el)) := by
  have hnew : (w.alloc (.cells (vs ++ extra).toArray el)).heap[w.heap.size]? = some (.cells (vs ++ extra).toArray el) := heap_alloc_new w _
  refine hr.newRoot' hrep hdat hl hm hn (fun b hb => heap_alloc_lt w _ hb) hnew (fun o ho => ?_) (by simp) rfl rfl (.rf _)
  simp only [World.frozen?, hnew]
  simp
end
end Go.Dl

namespace Go.Dl
open Go.RowKit
section
variable {P : Program} {g : G} {S : Nat → Prop} {E : Env} {F : List (List Nat)} {A : St} {a : Act} {w : World}
theorem flatten_set {F : List (List Nat)} {r : Nat} {f f' : List Nat} (h : F[r]? = some f) : ∃ xs ys, F.flatten = xs ++ (f ++ ys) ∧ (F.set r f').flatten = xs ++ (f' ++ ys) := by
  refine ⟨(F.take r).flatten, (F.drop (r + 1)).flatten, ?_, ?_⟩
  · conv => lhs; rw [← List.take_append_drop r F]
    rw [List.flatten_append]
    congr 1
    rw [List.drop_eq_getElem_cons (lt_len h), List.flatten_cons]
    congr 1
    rw [List.getElem?_eq_getElem (lt_len h)] at h
    exact Option.some.inj h
  · rw [List.set_eq_take_append_cons_drop, if_pos (lt_len h), List.flatten_append, List.flatten_cons]
theorem envLe_set {r : Nat} {p p' : Pl} {ok : Nat → Bool} (h : E[r]? = some (some p)) (hp : ok r = true ∨ p.le p') : EnvLe E (E.set r (some p')) ok := by
  refine ⟨by simp, fun i hi hok q hq => ?_⟩
  rw [List.getElem?_set] at hq
  split at hq
  · rename_i hri
    subst hri
    rw [if_pos hi] at hq
    cases hq
    rcases hp with hp | hp
    · rw [hp] at hok; cases hok
    · exact ⟨p, h, hp⟩
  · exact ⟨q, hq, q.le_refl⟩
theorem envLe_drop {r : Nat} {ok : Nat → Bool} : EnvLe E (E.set r none) ok := by
  refine ⟨by simp, fun i hi hok q hq => ?_⟩
  rw [List.getElem?_set] at hq
  split at hq
  · split at hq <;> cases hq
  · exact ⟨q, hq, q.le_refl⟩
/-- No slot and no other root speaks of a root. -/
def Free (A : St) (r : Nat) : Prop :=
  (∀ (t : Nat) (d : D), A.sl[t]? = some d → D.no r d = true) ∧ ∀ (i : Nat) (R : Root), i ≠ r → A.H[i]? = some (some R) → (R.dat || C.nos r R.rows.flatten) = true
theorem Rel.setRoot {w' : World} (hr : Rel g S E F A a w) {r : Nat} {R R' : Root} {p p' : Pl} {f f' : List Nat} (hR : A.H[r]? = some (some R)) (hE : E[r]? = some (some p)) (hF : F[r]? = some f)
    (hS : ∀ b, S b → w'.heap[b]? = w.heap[b]?) (hO : ∀ b, b ∈ F.flatten → b ∉ f → w'.heap[b]? = w.heap[b]?) (hP : ∀ b, b < g.w0.heap.size → b ∉ g.own → w'.heap[b]? = w.heap[b]?)
    (hz : w.heap.size ≤ w'.heap.size) (ho : w'.os = w.os) (ht : w'.tape = w.tape) (hu : OutLe w w')
    (hR' : RootAt w' S (E.set r (some p')) R' p' f') (hf1 : f'.Nodup) (hf2 : ∀ b ∈ f', (b ∈ f ∨ w.heap.size ≤ b) ∧ b < w'.heap.size) (hfree : p.le p' ∨ Free A r) (hdd : R'.dat = R.dat) (hle : R.dat = false → p.le p') :
    Rel g S (E.set r (some p')) (F.set r f') { A with H := A.H.set r (some R') } a w' := by
  have hSlt : ∀ b, S b → b < w.heap.size := fun b h => (hr.Ssz b h).1
  have hFlt : ∀ b, b ∈ F.flatten → b < w.heap.size := fun b h => (hr.fsz b h).1
  obtain ⟨xs, ys, e1, e2⟩ := flatten_set (f' := f') hF
  have hnd := hr.nodup
  rw [e1] at hnd
  have hnd2 := List.nodup_append.1 hnd
  have hnd3 := List.nodup_append.1 hnd2.2.1
  have hmem : ∀ b, b ∈ (F.set r f').flatten → (b ∈ F.flatten ∧ b ∉ f) ∨ b ∈ f' := by
    intro b hb
    rw [e2, List.mem_append, List.mem_append] at hb
    rcases hb with h | h | h
    · exact .inl ⟨by rw [e1]; exact List.mem_append_left _ h, fun hf => hnd2.2.2 b h b (List.mem_append_left _ hf) rfl⟩
    · exact .inr h
    · exact .inl ⟨by rw [e1]; exact List.mem_append_right _ (List.mem_append_right _ h), fun hf => hnd3.2.2 b hf b h rfl⟩
  refine { len := hr.len, sl := ?_, defers := hr.defers, lE := by simp [hr.lE], lF := by simp [hr.lF], root := ?_, dead := ?_, nodup := ?_, fS := ?_, fsz := ?_, Ssz := ?_, S0 := hr.S0, prot := ?_, size := Nat.le_trans hr.size hz, os := ho.trans hr.os, tape := ht.trans hr.tape, output := hu.trans hr.output, fix := ?_ }
  · intro t d h
    refine (hr.sl t d h).mono (fun _ h => h) (envLe_set hE ?_) hS
    exact hfree.elim .inr fun h' => .inl (h'.1 t d h)
  · intro i R0 h
    rw [List.getElem?_set] at h
    split at h
    · rename_i hri
      subst hri
      rw [if_pos (lt_len hR)] at h
      cases h
      exact ⟨p', f', by rw [List.getElem?_set_self (lt_len hE)], by rw [List.getElem?_set_self (lt_len hF)], hR'⟩
    · rename_i hri
      obtain ⟨q, fq, h1, h2, h3⟩ := hr.root i R0 h
      refine ⟨q, fq, by rw [List.getElem?_set_ne hri]; exact h1, by rw [List.getElem?_set_ne hri]; exact h2, h3.mono (fun _ h => h) (envLe_set hE ?_) ?_⟩
      · exact hfree.elim .inr fun h' => .inl (h'.2 i R0 (Ne.symm hri) h)
      · intro b hb
        rcases hb with hb | hb
        · exact hS b hb
        · refine hO b (flat_get h2 b hb) fun hbf => ?_
          obtain ⟨xs', ys', e1', e2'⟩ := flatten_set (f' := []) hF
          have hi : (F.set r [])[i]? = some fq := by rw [List.getElem?_set_ne hri]; exact h2
          have hb' := flat_get hi b hb
          rw [e2'] at hb'
          have hn := hr.nodup
          rw [e1'] at hn
          have n2 := List.nodup_append.1 hn
          have n3 := List.nodup_append.1 n2.2.1
          rw [List.mem_append] at hb'
          rcases hb' with hb' | hb'
          · exact n2.2.2 b hb' b (List.mem_append_left _ hbf) rfl
          · exact n3.2.2 b hbf b (by simpa using hb') rfl
  · intro i h
    rw [List.getElem?_set] at h
    split at h
    · rename_i hri
      split at h <;> cases h
    · rename_i hri
      obtain ⟨h1, h2⟩ := hr.dead i h
      exact ⟨by rw [List.getElem?_set_ne hri]; exact h1, by rw [List.getElem?_set_ne hri]; exact h2⟩
  · rw [e2, List.nodup_append]
    refine ⟨hnd2.1, List.nodup_append.2 ⟨hf1, hnd3.2.1, ?_⟩, ?_⟩
    · intro x hx y hy hxy
      subst hxy
      rcases (hf2 x hx).1 with h | h
      · exact hnd3.2.2 x h x hy rfl
      · have := hFlt x (by rw [e1]; exact List.mem_append_right _ (List.mem_append_right _ hy)); omega
    · intro x hx y hy hxy
      subst hxy
      rw [List.mem_append] at hy
      rcases hy with hy | hy
      · rcases (hf2 x hy).1 with h | h
        · exact hnd2.2.2 x hx x (List.mem_append_left _ h) rfl
        · have := hFlt x (by rw [e1]; exact List.mem_append_left _ hx); omega
      · exact hnd2.2.2 x hx x (List.mem_append_right _ hy) rfl
  · intro b hb
    rcases hmem b hb with h | h
    · exact hr.fS b h.1
    · rcases (hf2 b h).1 with h | h
      · exact hr.fS b (flat_get hF b h)
      · intro hs; have := hSlt b hs; omega
  · intro b hb
    rcases hmem b hb with h | h
    · exact ⟨Nat.lt_of_lt_of_le (hr.fsz b h.1).1 hz, (hr.fsz b h.1).2⟩
    · refine ⟨(hf2 b h).2, ?_⟩
      rcases (hf2 b h).1 with h | h
      · exact (hr.fsz b (flat_get hF b h)).2
      · exact .inr (Nat.le_trans hr.size h)
  · intro b hb
    exact ⟨Nat.lt_of_lt_of_le (hr.Ssz b hb).1 hz, (hr.Ssz b hb).2⟩
  · intro b h1 h2
    exact (hP b h1 h2).trans (hr.prot b h1 h2)
  · intro i q hq
    obtain ⟨h1, h2⟩ := hr.fix i q hq
    refine ⟨by simpa using h1, fun R0 h => ?_⟩
    rw [List.getElem?_set] at h
    split at h
    · rename_i hri
      subst hri
      rw [if_pos (lt_len hR)] at h
      cases h
      obtain ⟨k1, k2⟩ := h2 R hR
      refine ⟨hdd.trans k1, fun p1 hp1 => ?_⟩
      rw [List.getElem?_set_self (lt_len hE)] at hp1
      cases hp1
      exact (k2 p hE).trans (hle k1)
    · rename_i hri
      obtain ⟨k1, k2⟩ := h2 R0 h
      exact ⟨k1, fun p1 hp1 => k2 p1 (by rwa [List.getElem?_set_ne hri] at hp1)⟩
/-- A root goes out of sight. -/
theorem Rel.dropRoot (hr : Rel g S E F A a w) (r : Nat) : Rel g S (E.set r none) (F.set r []) { A with H := A.H.set r none } a w := by
  have hsub : ∀ b, b ∈ (F.set r []).flatten → b ∈ F.flatten := by
    intro b hb
    obtain ⟨f, h1, h2⟩ := List.mem_flatten.1 hb
    rcases List.mem_or_eq_of_mem_set h1 with h | h
    · exact List.mem_flatten.2 ⟨f, h, h2⟩
    · subst h; cases h2
  refine { len := hr.len, sl := ?_, defers := hr.defers, lE := by simp [hr.lE], lF := by simp [hr.lF], root := ?_, dead := ?_, nodup := ?_, fS := fun b h => hr.fS b (hsub b h), fsz := fun b h => hr.fsz b (hsub b h), Ssz := hr.Ssz, S0 := hr.S0, prot := hr.prot, size := hr.size, os := hr.os, tape := hr.tape, output := hr.output, fix := ?_ }
  · intro t d h
    exact (hr.sl t d h).mono (fun _ h => h) envLe_drop (fun _ _ => rfl)
  · intro i R0 h
    rw [List.getElem?_set] at h
    split at h
    · split at h <;> cases h
    · rename_i hri
      obtain ⟨q, fq, h1, h2, h3⟩ := hr.root i R0 h
      exact ⟨q, fq, by rw [List.getElem?_set_ne hri]; exact h1, by rw [List.getElem?_set_ne hri]; exact h2, h3.mono (fun _ h => h) envLe_drop (fun _ _ => rfl)⟩
  · intro i h
    rw [List.getElem?_set] at h
    split at h
    · rename_i hri
      subst hri
      split at h
      · rename_i hlt
        exact ⟨by rw [List.getElem?_set_self (by rw [hr.lE]; exact hlt)], by rw [List.getElem?_set_self (by rw [hr.lF]; exact hlt)]⟩
      · cases h
    · rename_i hri
      obtain ⟨h1, h2⟩ := hr.dead i h
      exact ⟨by rw [List.getElem?_set_ne hri]; exact h1, by rw [List.getElem?_set_ne hri]; exact h2⟩
  · by_cases hlt : r < F.length
    · obtain ⟨xs, ys, e1, e2⟩ := flatten_set (f' := []) (List.getElem?_eq_getElem hlt)
      have hn := hr.nodup
      rw [e1] at hn
      rw [e2, List.nil_append]
      have n2 := List.nodup_append.1 hn
      have n3 := List.nodup_append.1 n2.2.1
      exact List.nodup_append.2 ⟨n2.1, n3.2.1, fun x hx y hy => n2.2.2 x hx y (List.mem_append_right _ hy)⟩
    · rw [List.set_eq_of_length_le (by omega)]; exact hr.nodup
  · intro i q hq
    obtain ⟨h1, h2⟩ := hr.fix i q hq
    refine ⟨by simpa using h1, fun R0 h => ?_⟩
    rw [List.getElem?_set] at h
    split at h
    · split at h <;> cases h
    · rename_i hri
      obtain ⟨k1, k2⟩ := h2 R0 h
      exact ⟨k1, fun p1 hp1 => k2 p1 (by rwa [List.getElem?_set_ne hri] at hp1)⟩
theorem Rep.congr {w w' : World} {S : Nat → Prop} {E : Env} {dat : Bool} {b : Nat} (hsh : ∀ arr T z, w.heap[b]? = some (.cells arr T z) → ∃ arr', w'.heap[b]? = some (.cells arr' T z) ∧ arr'.size = arr.size) : ∀ {cs : List C} {off : Nat} {fp : List Nat}, Rep w S E (.l dat cs b off) fp →
    (∀ j, j < cs.length → w'.cell? ⟨b, off + j, none⟩ = w.cell? ⟨b, off + j, none⟩) → (∀ b', S b' ∨ b' ∈ fp → w'.heap[b']? = w.heap[b']?) → Rep w' S E (.l dat cs b off) fp := by
  intro cs
  induction cs with
  | nil => intro off fp h _ _; cases h; exact .lnil
  | cons c cs ih =>
    intro off fp h hc hb
    cases h with
    | lcons hv h1 h2 =>
      refine .lcons ?_ (h1.mono (fun _ h => h) (.refl _ _) ?_) (ih h2 ?_ ?_)
      · rw [show off = off + 0 from rfl, hc 0 (by simp)]; exact hv
      · intro b' hb'
        rcases hb' with h | h | h
        · exact hb b' (.inl h)
        · exact hb b' (.inr (List.mem_append_left _ h))
        · cases h
      · intro j hj
        rw [show off + 1 + j = off + (j + 1) by omega]
        exact hc (j + 1) (by simp; omega)
      · intro b' hb'
        exact hb b' (hb'.imp id fun h => List.mem_append_right _ h)
    | lb hv hz h0 h1 h2 =>
      rename_i T v arr
      obtain ⟨arr', k1, k2⟩ := hsh _ _ _ hv
      have k3 := hc 0 (by simp)
      rw [show w.cell? ⟨b, 0 + 0, none⟩ = some v by simp [World.cell?, hv, h0]] at k3
      refine .lb k1 (k2.trans hz) (by simpa [World.cell?, k1] using k3) h1 (ih h2 ?_ ?_)
      · intro j hj
        rw [show 1 + j = 0 + (j + 1) by omega]
        exact hc (j + 1) (by simp; omega)
      · exact hb
end
end Go.Dl

namespace Go.Dl
open Go.RowKit
def D.cells : D → Option (List C)
  | .c y => some [y]
  | .agg xs => some xs
  | _ => none
/-- Cells that may be stored. -/
def C.st (H : List (Option Root)) : C → Bool
  | .x => false
  | .h r _ _ => liveR H r
  | .p r _ _ => liveR H r
  | _ => true
def putCells (row : List C) (c : Nat) (cells : List C) : List C := row.take c ++ (cells ++ row.drop (c + cells.length))
/-- A store at a place of a root. -/
def storeA (H : List (Option Root)) (cells : List C) : D → Option (List (Option Root))
  | .c (.p r e c) => match H[r]? with
    | some (some R) => match R.rows[e]? with
      | some row => if c + cells.length ≤ row.length ∧ (R.dat = true → cells.all C.dat = true) ∧ cells.all (C.st H) = true
          then some (H.set r (some { R with rows := R.rows.set e (putCells row c cells) })) else none
      | none => none
    | _ => none
  | _ => none
section
variable {P : Program} {g : G} {S : Nat → Prop} {E : Env} {F : List (List Nat)} {A : St} {a : Act} {w : World}
theorem set_same {α : Type} {l : List α} {i : Nat} {x : α} (h : l[i]? = some x) : l.set i x = l := by
  apply List.ext_getElem?
  intro j
  rw [List.getElem?_set]
  split
  · rename_i hij; subst hij; rw [if_pos (lt_len h), h]
  · rfl
theorem heap_setCells (b : Nat) : ∀ (vs : List Value) (o : Nat) (w : World) (k : Nat), k ≠ b → (w.setCells b o vs).heap[k]? = w.heap[k]?
  | [], _, _, _, _ => rfl
  | v :: r, o, w, k, h => by
    rw [World.setCells, heap_setCells b r (o + 1) _ k h]
    exact Below.heap_setCell _ _ _ _ h
theorem size_setCells (b : Nat) : ∀ (vs : List Value) (o : Nat) (w : World), (w.setCells b o vs).heap.size = w.heap.size ∧ (w.setCells b o vs).os = w.os ∧ (w.setCells b o vs).tape = w.tape ∧ OutLe w (w.setCells b o vs)
  | [], _, _ => ⟨rfl, rfl, rfl, .rf _⟩
  | v :: r, o, w => by
    rw [World.setCells]
    obtain ⟨h1, h2, h3, h4⟩ := size_setCells b r (o + 1) (w.setCell ⟨b, o, none⟩ v)
    exact ⟨by rw [h1]; simp, h2, h3, h4.trans ⟨rfl, Nat.le_refl _⟩⟩
theorem own_setCell {w : World} {b n : Nat} {a : Addr} {v : Value} (h : OwnBlock w b n) : OwnBlock (w.setCell a v) b n := by
  obtain ⟨arr, el, z, h1, h2, h3⟩ := h
  by_cases hb : b = a.block
  · subst hb
    have hlt : a.block < w.heap.size := by
      rcases Nat.lt_or_ge a.block w.heap.size with h | h
      · exact h
      · rw [Array.getElem?_eq_none h] at h1; cases h1
    refine ⟨if a.spot.isSome then arr else arr.setIfInBounds a.off v, el, z, ?_, ?_, ?_⟩
    · have h' : w.heap[a.block] = .cells arr el z := by simpa [Array.getElem?_eq_getElem hlt] using h1
      show (w.heap.modify a.block _)[a.block]? = _
      rw [Array.getElem?_eq_getElem (by simpa using hlt), Array.getElem_modify_self, h']
    · split
      · exact h2
      · simpa using h2
    · intro o ho
      rw [World.frozen?_setCell]
      exact h3 o (by split at ho <;> simpa using ho)
  · exact ⟨arr, el, z, by rw [Below.heap_setCell _ _ _ _ hb]; exact h1, h2, fun o ho => by rw [World.frozen?_setCell]; exact h3 o ho⟩
theorem own_setCells (b' : Nat) : ∀ (vs : List Value) (o : Nat) (w : World) {b n : Nat}, OwnBlock w b n → OwnBlock (w.setCells b' o vs) b n
  | [], _, _, _, _, h => h
  | _ :: r, o, _, _, _, h => own_setCells b' r (o + 1) _ (own_setCell h)
theorem shape_setCell {w : World} {b : Nat} {a : Addr} {v : Value} {arr : Array Value} {T : TypeId} {z : Nat × Nat} (h : w.heap[b]? = some (.cells arr T z)) :
    ∃ arr', (w.setCell a v).heap[b]? = some (.cells arr' T z) ∧ arr'.size = arr.size := by
  by_cases hb : b = a.block
  · subst hb
    have hlt : a.block < w.heap.size := by
      rcases Nat.lt_or_ge a.block w.heap.size with h' | h'
      · exact h'
      · rw [Array.getElem?_eq_none h'] at h; cases h
    refine ⟨if a.spot.isSome then arr else arr.setIfInBounds a.off v, ?_, ?_⟩
    · have h' : w.heap[a.block] = .cells arr T z := by simpa [Array.getElem?_eq_getElem hlt] using h
      show (w.heap.modify a.block _)[a.block]? = _
      rw [Array.getElem?_eq_getElem (by simpa using hlt), Array.getElem_modify_self, h']
    · split
      · rfl
      · simp
  · exact ⟨arr, by rw [Below.heap_setCell _ _ _ _ hb]; exact h, rfl⟩
theorem shape_setCells (b' : Nat) : ∀ (vs : List Value) (o : Nat) (w : World) {b : Nat} {arr : Array Value} {T : TypeId} {z : Nat × Nat}, w.heap[b]? = some (.cells arr T z) →
    ∃ arr', (w.setCells b' o vs).heap[b]? = some (.cells arr' T z) ∧ arr'.size = arr.size
  | [], _, _, _, _, _, _, h => ⟨_, h, rfl⟩
  | v :: r, o, w, b, arr, T, z, h => by
    obtain ⟨a1, h1, h2⟩ := shape_setCell (a := ⟨b', o, none⟩) (v := v) h
    obtain ⟨a2, h3, h4⟩ := shape_setCells b' r (o + 1) _ h1
    exact ⟨a2, h3, h4.trans h2⟩
theorem vs_one {cs : List C} {vs : List Value} (h : Rep w S E (.vs cs vs) []) (hs : cs.all (C.st A.H) = true) (hr : Rel g S E F A a w) : ∀ v ∈ vs, v.oneCell' = true := by
  induction cs generalizing vs with
  | nil => cases h; simp
  | cons c cs ih =>
    generalize hfp : ([] : List Nat) = fp at h
    cases h with
    | vcons h1 h2 =>
      obtain ⟨rfl, rfl⟩ := List.append_eq_nil_iff.1 hfp.symm
      simp only [Z16, Bool.and_eq_true] at hs
      intro v hv
      rcases List.mem_cons.1 hv with rfl | hv
      · refine h1.one ?_ ?_ ?_
        · rintro rfl; simp [C.st] at hs
        · rintro r lo len rfl
          obtain ⟨R, p, f, _, h3, _⟩ := live_root hr hs.1
          exact ⟨p, h3⟩
        · rintro r e k rfl
          obtain ⟨R, p, f, _, h3, _⟩ := live_root hr hs.1
          exact ⟨p, h3⟩
      · exact ih h2 hs.2 v hv
theorem putCells_len {row cells : List C} {c : Nat} (h : c + cells.length ≤ row.length) : (putCells row c cells).length = row.length := by
  simp [putCells]; omega
theorem vs_len {cs : List C} {vs : List Value} (h : Rep w S E (.vs cs vs) []) : cs.length = vs.length := (vs_get h).1
/-- Cells in memory, some of them written. -/
theorem Rep.write {dat : Bool} {b off : Nat} {xs old ys cells : List C} {vs : List Value} {fp : List Nat} (h : Rep w S E (.l dat (xs ++ (old ++ ys)) b off) fp) (hlen : cells.length = old.length)
    (hv : Rep w S E (.vs cells vs) []) (hd : dat = true → cells.all C.dat = true) (hb : ∀ b', S b' ∨ b' ∈ fp → b' ≠ b) (hc : ∀ j, j < old.length → (w.cell? ⟨b, off + xs.length + j, none⟩).isSome = true) :
    ∃ f1 f2 f3, fp = f1 ++ (f2 ++ f3) ∧ Rep (w.setCells b (off + xs.length) vs) S E (.l dat (xs ++ (cells ++ ys)) b off) (f1 ++ f3) := by
  obtain ⟨f1, f23, rfl, h1, h2⟩ := h.append
  obtain ⟨f2, f3, rfl, h3, h4⟩ := h2.append
  have hvl := vs_len hv
  refine ⟨f1, f2, f3, rfl, ?_⟩
  have hheap : ∀ b', b' ≠ b → (w.setCells b (off + xs.length) vs).heap[b']? = w.heap[b']? := fun b' h => heap_setCells b vs _ w b' h
  have hsh : ∀ arr T z, w.heap[b]? = some (.cells arr T z) → ∃ arr', (w.setCells b (off + xs.length) vs).heap[b]? = some (.cells arr' T z) ∧ arr'.size = arr.size := fun _ _ _ h => shape_setCells b vs _ w h
  refine Rep.join (h1.congr hsh ?_ ?_) ?_
  · intro j hj
    exact World.cell?_setCells_out b vs _ w _ (fun _ _ => .inl (show off + j < off + xs.length by omega))
  · intro b' hb'
    exact hheap b' (hb b' (hb'.imp id fun h => List.mem_append_left _ h))
  · rw [show f3 = [] ++ f3 from rfl]
    refine Rep.join ?_ ?_
    · refine rep_new (hv.mono (fun _ h => h) (.refl _ _) ?_) hd ?_
      · intro b' hb'
        rcases hb' with h | h | h
        · exact hheap b' (hb b' (.inl h))
        · cases h
        · cases h
      · intro j v hj
        have := World.cell?_setCells_in b vs (off + xs.length) w (fun j hj => hc j (by omega)) j (lt_len hj)
        rw [this]
        rw [List.getElem?_eq_getElem (lt_len hj)] at hj
        exact hj
    · rw [hlen]
      refine h4.congr hsh ?_ ?_
      · intro j hj
        exact World.cell?_setCells_out b vs _ w _ (fun _ _ => .inr (show off + xs.length + vs.length ≤ off + xs.length + old.length + j by omega))
      · intro b' hb'
        exact hheap b' (hb b' (hb'.imp id fun h => List.mem_append_right _ (List.mem_append_right _ h)))
theorem cells_rep {d : D} {v : Value} {cells : List C} (hd : RepD w S E d v) (h : d.cells = some cells) (hx : cells.all (C.st A.H) = true) (hr : Rel g S E F A a w) :
    Rep w S E (.vs cells v.cells.toList) [] := by
  cases hd with
  | top => cases h
  | c h1 =>
    cases h
    have h2 : Rep w S E (.vs [_] [v]) [] := .vcons (f1 := []) (f2 := []) h1 .vnil
    have := vs_one h2 hx hr v (by simp)
    have e : v.cells = #[v] := by cases v <;> first | rfl | simp [Value.oneCell'] at this
    rw [e]; exact h2
  | agg h1 => cases h; exact h1
  | q _ _ => cases h
  | t _ _ => cases h
theorem rep_some {dat : Bool} {b off : Nat} {cs : List C} {fp : List Nat} (h : Rep w S E (.l dat cs b off) fp) : ∀ j, j < cs.length → (w.cell? ⟨b, off + j, none⟩).isSome = true := by
  intro j hj
  obtain ⟨v, fp', h1, _, _⟩ := h.at j cs[j] (List.getElem?_eq_getElem hj)
  rw [h1]; rfl
theorem storeA_sound (hr : Rel g S E F A a w) {t : TypeId} {d dx : D} {v x : Value} {cells : List C} {H' : List (Option Root)} (hd : RepD w S E d v) (hx : RepD w S E dx x)
    (hc : dx.cells = some cells) (hz : tsz P t = cells.length) (hz0 : tsz P t ≠ 0) (h : storeA A.H cells d = some H') :
    ∃ w', (Instr.storeAt t v x).run P w = .ok () w' ∧ ∃ F', Rel g S E F' { A with H := H' } a w' := by
  unfold storeA at h
  split at h
  · rename_i r e c
    split at h
    · rename_i R hR
      split at h
      · rename_i row hrow
        split at h
        · rename_i hcond
          obtain ⟨c1, c2, c3⟩ := hcond
          cases h
          obtain ⟨R', p, f, b, off, h1, h2, h3, h4, h5, rfl⟩ := ptr_live hr (by simp [liveR, hR]) hd
          rw [hR] at h1
          obtain rfl : R = R' := by simpa using h1
          obtain ⟨g1, g2, g3, g4, g5⟩ := h4
          rw [h5] at g5
          obtain ⟨fr, rfl, hown, hrep⟩ := g5
          have hcr := cells_rep hx hc c3 hr
          have hvl := vs_len hcr
          have hone := vs_one hcr c3 hr
          obtain ⟨xs, ys, e1, e2, e3, e4⟩ := flatten_split g4 e row hrow
          have hbS : ¬ S b := hr.fS b (flat_get h3 b (List.mem_cons_self ..))
          have hnd : (b :: fr).Nodup := by
            obtain ⟨xs', ys', q1, _⟩ := flatten_set (f' := []) h3
            have := hr.nodup
            rw [q1] at this
            exact (List.nodup_append.1 (List.nodup_append.1 this).2.1).1
          have hbfr : b ∉ fr := (List.nodup_cons.1 hnd).1
          have hrep' := hrep
          have hsplit : R.rows.flatten = (xs ++ row.take c) ++ ((row.drop c).take cells.length ++ (row.drop (c + cells.length) ++ ys)) := by
            rw [e1, List.append_assoc]
            congr 1
            rw [← List.append_assoc, ← List.append_assoc]
            congr 1
            rw [List.append_assoc, show row.drop (c + cells.length) = (row.drop c).drop cells.length by rw [List.drop_drop], List.take_append_drop, List.take_append_drop]
          rw [hsplit] at hrep'
          have hlo : ((row.drop c).take cells.length).length = cells.length := by rw [List.length_take, List.length_drop]; omega
          have hxl : (xs ++ row.take c).length = e * p.es + c := by rw [List.length_append, e2, List.length_take, Nat.min_eq_left (by omega), g1]
          have hcs : ∀ j, j < ((row.drop c).take cells.length).length → (w.cell? ⟨b, off + (xs ++ row.take c).length + j, none⟩).isSome = true := by
            obtain ⟨_, _, _, _, k2⟩ := hrep'.append
            obtain ⟨_, _, _, k3, _⟩ := k2.append
            exact rep_some k3
          obtain ⟨f1, f2, f3, q1, q2⟩ := hrep'.write (cells := cells) (vs := x.cells.toList) hlo.symm hcr c2 (by
            intro b' hb' heq
            subst heq
            exact hb'.elim hbS hbfr) hcs
          have hsz : (sizeOf t).run P w = .ok (tsz P t) w := run_tsz' hz0 w
          have hfz : ∀ j, j < x.cells.toList.length → w.frozen? ⟨b, off + e * p.es + c + 0 + j, none⟩ = false := by
            intro j hj
            obtain ⟨arr, el, z, k1, k2, k3⟩ := hown
            have hs := hcs j (by omega)
            rw [hxl] at hs
            rw [Option.isSome_iff_exists] at hs
            obtain ⟨u, hu⟩ := hs
            simp only [World.cell?, k1] at hu
            have hlt : off + (e * p.es + c) + j < arr.size := by
              rcases Nat.lt_or_ge (off + (e * p.es + c) + j) arr.size with h | h
              · exact h
              · simp [Array.getElem?_eq_none h] at hu
            have := k3 _ hlt
            rwa [show off + e * p.es + c + 0 + j = off + (e * p.es + c) + j by omega]
          have hrun : (Instr.storeAt t (.pointer (some ⟨b, off + e * p.es + c, none⟩)) x).run P w = .ok () (w.setCells b (off + e * p.es + c) x.cells.toList) := by
            have hst := run_storeCells_cells (P := P) b (off + e * p.es + c) x.cells.toList 0 w
              (fun j hj => by
                have := hcs j (by omega)
                rw [hxl] at this
                rwa [show off + e * p.es + c + 0 + j = off + (e * p.es + c) + j by omega]) hfz hone
            rw [Nat.add_zero] at hst
            have hsize : x.cells.size = tsz P t := by rw [hz, hvl]; simp
            simp only [Instr.storeAt, Instr.sureAddr, storeVar, Sem.run_bind, Sem.run_pure, Result.andThen_ok, hsz, hsize, ne_eq, not_true_eq_false, if_false, hst]
          refine ⟨_, hrun, ?_⟩
          have hE' : E.set r (some p) = E := set_same h2
          obtain ⟨z1, z2, z3, z4⟩ := size_setCells b x.cells.toList (off + e * p.es + c) w
          have hres := hr.setRoot (w' := w.setCells b (off + e * p.es + c) x.cells.toList) (R' := { R with rows := R.rows.set e (putCells row c cells) }) (p' := p) (f' := b :: (f1 ++ f3)) hR h2 h3
            (fun b' hb' => heap_setCells b _ _ w b' (fun h => by subst h; exact hbS hb'))
            (fun b' _ hb' => heap_setCells b _ _ w b' (fun h => by subst h; exact hb' (List.mem_cons_self ..)))
            (fun b' hb1 hb2 => heap_setCells b _ _ w b' (fun h => by
              subst h
              rcases (hr.fsz b' (flat_get h3 b' (List.mem_cons_self ..))).2 with h | h
              · exact hb2 h
              · omega))
            (by rw [z1]; exact Nat.le_refl _) z2 z3 z4 ?_ ?_ ?_ (.inl p.le_refl) rfl (fun _ => p.le_refl)
          · rw [hE'] at hres
            exact ⟨_, hres⟩
          · rw [hE']
            refine ⟨g1, by simp [g2], g3, ?_, ?_⟩
            · intro r' hr'
              rcases List.mem_or_eq_of_mem_set hr' with h | h
              · exact g4 r' h
              · subst h; rw [putCells_len c1]; exact g4 row (List.mem_of_getElem? hrow)
            · rw [h5]
              refine ⟨f1 ++ f3, rfl, own_setCells b _ _ w hown, ?_⟩
              have : (R.rows.set e (putCells row c cells)).flatten = (xs ++ row.take c) ++ (cells ++ (row.drop (c + cells.length) ++ ys)) := by
                rw [List.set_eq_take_append_cons_drop, if_pos (lt_len hrow), List.flatten_append, List.flatten_cons, ← e3, ← e4]
                simp [putCells]
              rw [hxl, show off + (e * p.es + c) = off + e * p.es + c by omega] at q2
              show Rep _ S E (.l R.dat (R.rows.set e (putCells row c cells)).flatten b off) (f1 ++ f3)
              rw [this]
              exact q2
          · rw [q1] at hnd
            have n1 := List.nodup_cons.1 hnd
            have n2 := List.nodup_append.1 n1.2
            have n3 := List.nodup_append.1 n2.2.1
            refine List.nodup_cons.2 ⟨fun h => n1.1 ?_, List.nodup_append.2 ⟨n2.1, n3.2.1, fun x hx y hy => n2.2.2 x hx y (List.mem_append_right _ hy)⟩⟩
            rcases List.mem_append.1 h with h | h
            · exact List.mem_append_left _ h
            · exact List.mem_append_right _ (List.mem_append_right _ h)
          · intro b' hb'
            have hmem : b' ∈ b :: fr := by
              rcases List.mem_cons.1 hb' with h | h
              · rw [h]; exact List.mem_cons_self ..
              · rw [q1]
                refine List.mem_cons_of_mem _ ?_
                rcases List.mem_append.1 h with h | h
                · exact List.mem_append_left _ h
                · exact List.mem_append_right _ (List.mem_append_right _ h)
            exact ⟨.inl hmem, by rw [z1]; exact (hr.fsz b' (flat_get h3 b' hmem)).1⟩
        · cases h
      · cases h
    · cases h
  · cases h
end
end Go.Dl
