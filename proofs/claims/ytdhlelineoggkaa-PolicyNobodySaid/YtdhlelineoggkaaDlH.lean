/- 'Dl', part H: slice expressions, equality; what quiet operations come to. -/
import Derived.Test.YtdhlelineoggkaaDlG
namespace Go.Dl
open Go.RowKit

section
variable {P : Program} {g : G} {S : Nat → Prop} {E : Env} {F : List (List Nat)} {A : St} {a : Act} {w : World}

theorem flatten_sub {w : World} {S : Nat → Prop} {E : Env} {dat : Bool} {es b off : Nat} {rows : List (List C)} {fp : List Nat} (hl : ∀ r ∈ rows, r.length = es)
    (h : Rep w S E (.l dat rows.flatten b off) fp) (l n : Nat) (hln : l + n ≤ rows.length) : ∃ f1 f2 f3, fp = f1 ++ (f2 ++ f3) ∧ Rep w S E (.l dat ((rows.drop l).take n).flatten b (off + l * es)) f2 := by
  have e : rows.flatten = (rows.take l).flatten ++ (((rows.drop l).take n).flatten ++ ((rows.drop l).drop n).flatten) := by
    rw [← List.flatten_append, List.take_append_drop, ← List.flatten_append, List.take_append_drop]
  rw [e] at h
  obtain ⟨f1, f23, rfl, _, h2⟩ := h.append
  obtain ⟨f2, f3, rfl, h3, _⟩ := h2.append
  refine ⟨f1, f2, f3, rfl, ?_⟩
  rw [flatten_len (es := es) (fun r hr => hl r (List.mem_of_mem_take hr)), List.length_take, Nat.min_eq_left (by omega)] at h3
  exact h3

theorem qslice_sound (hr : Rel g S E F A a w) {t : TypeId} {lo hi : Option (Option D)} {vlo vhi : Option Value} {d d' : D} {v : Value} (hd : RepD w S E d v)
    (hlo : ∀ d, lo = some (some d) → ∃ v, vlo = some v ∧ RepD w S E d v) (hlo0 : lo = none → vlo = none)
    (hhi : ∀ d, hi = some (some d) → ∃ v, vhi = some v ∧ RepD w S E d v) (hhi0 : hi = none → vhi = none) (h : qslice P A.H t lo hi d = some d') :
    ∃ v', (Instr.slice t v vlo vhi none).run P w = .ok v' w ∧ RepD w S E d' v' ∧ (∀ n e, P.underlying t ≠ some (.array n e)) := by
  unfold qslice at h
  split at h
  · rename_i s
    split at h
    · rename_i hk
      obtain ⟨rfl, hs⟩ := str_inv hd
      cases hb : qbounds s.size lo hi with
      | none => rw [hb] at h; cases h
      | some lh =>
        obtain ⟨l, h'⟩ := lh
        rw [hb] at h; cases h
        obtain ⟨b1, b2, b3⟩ := qbounds_sound (P := P) (isS := false) (Nat.le_refl s.size) hlo hlo0 hhi hhi0 hb
        refine ⟨.string (s.extract l h'), ?_, .c (.v ?_), fun n e => by rw [tk_str hk]; simp⟩
        · simp [Instr.slice, run_und (tk_str hk), b3]
        · show (s.extract l h').size ≤ maxStr
          rw [ByteArray.size_extract]; omega
    · cases h
  · rename_i es rows
    split at h
    · rename_i e hk
      split at h
      · rename_i hc
        obtain ⟨c1, c2⟩ := hc
        cases hb : qbounds rows.length lo hi with
        | none => rw [hb] at h; cases h
        | some lh =>
          obtain ⟨l, h'⟩ := lh
          rw [hb] at h; cases h
          have hz : tsz P e ≠ 0 := by omega
          have hund : ∀ n e, P.underlying t ≠ some (.array n e) := fun n e => by rw [tk_slice hk]; simp
          have hrep : ∃ ad cap, v = .slice ad rows.length cap ∧ rows.length ≤ cap ∧ (rows = [] ∨ ∃ b off, ad = some ⟨b, off, none⟩ ∧ S b ∧ (∀ r ∈ rows, r.length = es) ∧ Rep w S E (.l true rows.flatten b off) []) := by
            cases hd with
            | c h => cases h with
              | nilI => exact ⟨_, _, rfl, Nat.zero_le _, .inl rfl⟩
              | imm hS hcap hl hrep => exact ⟨_, _, rfl, hcap, .inr ⟨_, _, rfl, hS, hl, hrep⟩⟩
          obtain ⟨ad, cap, rfl, hcap, hor⟩ := hrep
          obtain ⟨b1, b2, b3⟩ := qbounds_sound (P := P) (isS := true) hcap hlo hlo0 hhi hhi0 hb
          refine ⟨_, by simp [Instr.slice, run_und (tk_slice hk), b3, run_tsz' hz]; rfl, .c ?_, hund⟩
          have hlen : ((rows.drop l).take (h' - l)).length = h' - l := by rw [List.length_take, List.length_drop]; omega
          by_cases hn : h' - l = 0
          · have : (rows.drop l).take (h' - l) = [] := List.eq_nil_of_length_eq_zero (by omega)
            rw [this, hn]
            exact .nilI
          · rcases hor with rfl | ⟨b, off, rfl, hS, hl, hrep⟩
            · simp at b2; omega
            · have hne : cap ≠ l := by omega
              rw [if_neg hne]
              obtain ⟨f1, f2, f3, hff, hr2⟩ := flatten_sub hl hrep l (h' - l) (by omega)
              obtain ⟨rfl, hff⟩ := List.append_eq_nil_iff.1 hff.symm
              obtain ⟨rfl, rfl⟩ := List.append_eq_nil_iff.1 (by simpa using hff)
              simp only [Option.map_some, addr_add, c1]
              have := Rep.imm (dat := false) (cap := cap - l) hS (by omega) (fun r hr => hl r (List.mem_of_mem_drop (List.mem_of_mem_take hr))) hr2
              rw [hlen] at this
              exact this
      · cases h
    · cases h
  · rename_i r l0 len
    split at h
    · rename_i e hk
      split at h
      · rename_i R hR
        split at h
        · rename_i hc
          obtain ⟨c1, c2⟩ := hc
          cases hb : qbounds len lo hi with
          | none => rw [hb] at h; cases h
          | some lh =>
            obtain ⟨l, h'⟩ := lh
            rw [hb] at h; cases h
            have hz : tsz P e ≠ 0 := by omega
            have hund : ∀ n e, P.underlying t ≠ some (.array n e) := fun n e => by rw [tk_slice hk]; simp
            obtain ⟨p, f, h1, h2, h3, h4⟩ := handle_live hr hR hd
            obtain ⟨g1, g2, g3, g4, g5⟩ := h3
            obtain ⟨k1, k2⟩ := h4
            cases hat : p.at? with
            | none =>
              rw [hat] at k2 g5
              obtain ⟨ad, rfl⟩ := k2
              obtain ⟨e1, _, e3⟩ := g5
              have hlen : len = 0 := by rw [e1] at g2; simp at g2; omega
              subst hlen
              obtain ⟨b1, b2, b3⟩ := qbounds_sound (P := P) (isS := true) (Nat.le_refl 0) hlo hlo0 hhi hhi0 hb
              have : l = 0 := by omega
              have : h' = 0 := by omega
              subst_vars
              refine ⟨.slice ad 0 0, by simp [Instr.slice, run_und (tk_slice hk), b3, run_tsz' hz], .c (.h (lt_len h1) fun pl hpl => ?_), hund⟩
              rw [h1] at hpl; cases hpl
              exact ⟨by omega, by rw [hat]; exact ⟨ad, rfl⟩⟩
            | some bo =>
              obtain ⟨b, off⟩ := bo
              rw [hat] at k2
              obtain ⟨ad, cap, rfl, e2, e3, e4⟩ := k2
              obtain ⟨b1, b2, b3⟩ := qbounds_sound (P := P) (isS := true) e2 hlo hlo0 hhi hhi0 hb
              refine ⟨_, by simp [Instr.slice, run_und (tk_slice hk), b3, run_tsz' hz]; rfl, .c (.h (lt_len h1) fun pl hpl => ?_), hund⟩
              rw [h1] at hpl; cases hpl
              refine ⟨by omega, ?_⟩
              rw [hat]
              by_cases hn : cap = l
              · rw [if_pos hn]
                exact ⟨ad, _, rfl, by omega, by omega, .inl (by omega)⟩
              · rw [if_neg hn]
                refine ⟨ad.add (l * tsz P e), _, rfl, by omega, by omega, .inr ?_⟩
                have : ad = ⟨b, off + l0 * p.es, none⟩ := by
                  rcases e4 with e4 | e4
                  · omega
                  · exact e4
                rw [this, addr_add, c1, g1, Nat.add_mul, Nat.add_assoc]
        · cases h
      · cases h
    · cases h
  · cases h

theorem qslice3_sound (hr : Rel g S E F A a w) {t : TypeId} {lo hi mx : Option D} {vlo vhi vmx : Value} {d d' : D} {v : Value} (hd : RepD w S E d v)
    (hlo : ∀ d, lo = some d → RepD w S E d vlo) (hhi : ∀ d, hi = some d → RepD w S E d vhi) (hmx : ∀ d, mx = some d → RepD w S E d vmx)
    (h : qslice3 P A.H t lo hi mx d = some d') : ∃ v', (Instr.slice t v (some vlo) (some vhi) (some vmx)).run P w = .ok v' w ∧ RepD w S E d' v' ∧ (∀ n e, P.underlying t ≠ some (.array n e)) := by
  unfold qslice3 at h
  split at h
  · rename_i e hk
    split at h
    · rename_i hc
      obtain ⟨c1, c2, c3, c4⟩ := hc
      have hund : ∀ n e, P.underlying t ≠ some (.array n e) := fun n e => by rw [tk_slice hk]; simp
      cases lo with
      | none => cases c2
      | some dl =>
        cases hi with
        | none => cases c3
        | some dh =>
          cases mx with
          | none => cases c4
          | some dm =>
            obtain ⟨k1, rfl, _⟩ := int_inv (hlo _ rfl) c2
            obtain ⟨k2, rfl, _⟩ := int_inv (hhi _ rfl) c3
            obtain ⟨k3, rfl, _⟩ := int_inv (hmx _ rfl) c4
            have key : ∀ (ad : Option Addr) (len cap : Nat), (Instr.slice t (.slice ad len cap) (some (.int k1 0)) (some (.int k2 0)) (some (.int k3 0))).run P w = .ok (.slice ad 0 0) w := by
              intro ad len cap
              simp [Instr.slice, run_und (tk_slice hk), Instr.sliceBounds, Instr.sliceBound, asIntOf, run_tsz' c1]
            split at h
            · cases h
              have : ∃ ad len cap, v = .slice ad len cap := by
                cases hd with
                | c h => cases h <;> exact ⟨_, _, _, rfl⟩
              obtain ⟨ad, len, cap, rfl⟩ := this
              exact ⟨_, key ad len cap, .c .nilO, hund⟩
            · split at h
              · rename_i hl
                cases h
                obtain ⟨R, _, _, hR, _⟩ := live_root hr hl
                obtain ⟨p, f, h1, h2, h3, h4⟩ := handle_live hr hR hd
                obtain ⟨g1, g2, g3, g4, g5⟩ := h3
                obtain ⟨q1, q2⟩ := h4
                have : ∃ ad len cap, v = .slice ad len cap := by
                  cases hat : p.at? with
                  | none => rw [hat] at q2; obtain ⟨ad, rfl⟩ := q2; exact ⟨_, _, _, rfl⟩
                  | some bo => rw [hat] at q2; obtain ⟨ad, cap, rfl, _⟩ := q2; exact ⟨_, _, _, rfl⟩
                obtain ⟨ad, len, cap, rfl⟩ := this
                exact ⟨_, key ad len cap, .c .nilO, hund⟩
              · cases h
            · cases h
    · cases h
  · cases h

/-- Values at which the test ahead of '==' lets by. -/
theorem run_eqGuard {op : BinOp} {t : TypeId} {x y : Operand} {u v : Value} (h1 : ¬ (u = .nilIface ∧ v = .nilIface)) (h2 : ¬ (∃ xs ys, u = .agg xs ∧ v = .agg ys)) :
    (eqGuard op t x y u v).run P w = .ok () w := by
  unfold eqGuard
  cases u <;> cases v <;> first
    | (exfalso; exact h1 ⟨rfl, rfl⟩)
    | (exfalso; exact h2 ⟨_, _, rfl, rfl⟩)
    | (simp only; split <;> simp)

section
variable {t e k : TypeId} {d : Nat}
theorem eqIn_bool {x y : Bool} (hk : P.underlying t = some .bool) : (Op.equalIn (d + 1) t (.bool x) (.bool y)).run P w = .ok (x == y) w := by
  simp [Op.equalIn, run_und hk]
theorem eqIn_ptr {x : Option Addr} (hk : P.underlying t = some (.pointer e)) : (Op.equalIn (d + 1) t (.pointer none) (.pointer x)).run P w = .ok x.isNone w := by
  simp [Op.equalIn, run_und hk]
theorem eqIn_ptr' {x : Option Addr} (hk : P.underlying t = some (.pointer e)) : (Op.equalIn (d + 1) t (.pointer x) (.pointer none)).run P w = .ok x.isNone w := by
  cases x <;> simp [Op.equalIn, run_und hk]
theorem eqIn_func {ps rs : Array TypeId} {vr : Bool} {fn : Fn} {x y : Array Value} (hk : P.underlying t = some (.func ps rs vr)) : (Op.equalIn (d + 1) t (.func fn x y) .nilFunc).run P w = .ok false w := by
  simp [Op.equalIn, run_und hk]
theorem eqIn_func0 {ps rs : Array TypeId} {vr : Bool} (hk : P.underlying t = some (.func ps rs vr)) : (Op.equalIn (d + 1) t .nilFunc .nilFunc).run P w = .ok true w := by
  simp [Op.equalIn, run_und hk]
theorem eqIn_map0 (hk : P.underlying t = some (.map k e)) : (Op.equalIn (d + 1) t (.map none) (.map none)).run P w = .ok true w := by
  simp [Op.equalIn, run_und hk]
theorem eqIn_map1 {b : Nat} (hk : P.underlying t = some (.map k e)) : (Op.equalIn (d + 1) t (.map (some b)) (.map none)).run P w = .ok false w := by
  simp [Op.equalIn, run_und hk]
theorem eqIn_map2 {b : Nat} (hk : P.underlying t = some (.map k e)) : (Op.equalIn (d + 1) t (.map none) (.map (some b))).run P w = .ok false w := by
  simp [Op.equalIn, run_und hk]
end

theorem equal_succ (t : TypeId) (x y : Value) : Op.equal t x y = Op.equalIn (9999 + 1) t x y := rfl

/-- Neither a number, a text, an aggregate. -/
def plainEq (va vb : Value) : Prop :=
  ¬ (va = .nilIface ∧ vb = .nilIface) ∧ ¬ (∃ xs ys, va = .agg xs ∧ vb = .agg ys) ∧
      (∀ k x, va ≠ .int k x) ∧ (∀ k x, va ≠ .float k x) ∧ (∀ k x y, va ≠ .complex k x y) ∧ (∀ x, va ≠ .string x)

theorem qeq_sound (hr : Rel g S E F A a w) {t : TypeId} {da db : D} {va vb : Value} {r : Bool} (ha : RepD w S E da va) (hb : RepD w S E db vb) (h : qeq P A.H t da db = some r) :
    (Op.equal t va vb).run P w = .ok r w ∧ plainEq va vb := by
  rw [equal_succ]
  unfold qeq at h
  split at h
  · rename_i hk
    split at h
    · cases h
      obtain rfl := bool_inv ha
      obtain rfl := bool_inv hb
      exact ⟨eqIn_bool (tk_bool hk), by simp [plainEq]⟩
    · cases h
  · rename_i e hk
    split at h
    · cases h
      obtain ⟨rfl, _⟩ := v_inv ha
      obtain ⟨rfl, _⟩ := v_inv hb
      exact ⟨eqIn_ptr (tk_ptr hk), by simp [plainEq]⟩
    · split at h
      · rename_i hl
        cases h
        obtain ⟨R, p, f, b, off, h1, h2, h3, h4, h5, rfl⟩ := ptr_live hr hl ha
        obtain ⟨rfl, _⟩ := v_inv hb
        exact ⟨eqIn_ptr' (tk_ptr hk), by simp [plainEq]⟩
      · cases h
    · split at h
      · rename_i hl
        cases h
        obtain ⟨R, p, f, b, off, h1, h2, h3, h4, h5, rfl⟩ := ptr_live hr hl hb
        obtain ⟨rfl, _⟩ := v_inv ha
        exact ⟨eqIn_ptr (tk_ptr hk), by simp [plainEq]⟩
      · cases h
    · cases h
      obtain ⟨rfl, _⟩ := v_inv hb
      cases ha with
      | q _ _ => exact ⟨eqIn_ptr' (tk_ptr hk), by simp [plainEq]⟩
    · cases h
      obtain ⟨rfl, _⟩ := v_inv ha
      cases hb with
      | q _ _ => exact ⟨eqIn_ptr (tk_ptr hk), by simp [plainEq]⟩
    · cases h
  · rename_i hk
    obtain ⟨ps, rs, vr, hu⟩ := tk_func hk
    split at h
    · cases h
      obtain ⟨rfl, _⟩ := v_inv hb
      cases ha with
      | c h => cases h with
        | f _ _ => exact ⟨eqIn_func hu, by simp [plainEq]⟩
    · cases h
      obtain ⟨rfl, _⟩ := v_inv ha
      obtain ⟨rfl, _⟩ := v_inv hb
      exact ⟨eqIn_func0 hu, by simp [plainEq]⟩
    · cases h
  · rename_i k e hk
    split at h
    · cases h
      obtain ⟨rfl, _⟩ := v_inv ha
      obtain ⟨rfl, _⟩ := v_inv hb
      exact ⟨eqIn_map0 (tk_map hk), by simp [plainEq]⟩
    · cases h
      obtain ⟨rfl, _⟩ := v_inv hb
      cases ha with
      | c h => cases h with
        | m => exact ⟨eqIn_map1 (tk_map hk), by simp [plainEq]⟩
    · cases h
      obtain ⟨rfl, _⟩ := v_inv ha
      cases hb with
      | c h => cases h with
        | m => exact ⟨eqIn_map2 (tk_map hk), by simp [plainEq]⟩
    · cases h
  · cases h

theorem run_binOp_eql {t : TypeId} {u v : Value} {r : Bool} (h : plainEq u v) (he : (Op.equal t u v).run P w = .ok r w) : (binOp .eql t u v).run P w = .ok (.bool r) w := by
  obtain ⟨_, _, h1, h2, h3, h4⟩ := h
  cases u <;> first
    | exact absurd rfl (h1 _ _)
    | exact absurd rfl (h2 _ _)
    | exact absurd rfl (h3 _ _ _)
    | exact absurd rfl (h4 _)
    | (cases v <;> simp [binOp, he])

theorem run_binOp_neq {t : TypeId} {u v : Value} {r : Bool} (h : plainEq u v) (he : (Op.equal t u v).run P w = .ok r w) : (binOp .neq t u v).run P w = .ok (.bool !r) w := by
  obtain ⟨_, _, h1, h2, h3, h4⟩ := h
  cases u <;> first
    | exact absurd rfl (h1 _ _)
    | exact absurd rfl (h2 _ _)
    | exact absurd rfl (h3 _ _ _)
    | exact absurd rfl (h4 _)
    | (cases v <;> simp [binOp, he])

theorem eqFs_sound {n : Nat} {cs ds : List C} {xs ys : Array Value} (hc : Rep w S E (.vs cs xs.toList) []) (hd : Rep w S E (.vs ds ys.toList) []) : ∀ (fs : List Field) (i : Nat) (ks : List TK) (r : Bool),
    flatTs P i fs = some ks → eqCs ks (cs.drop i) (ds.drop i) = some r → (Op.eqFields (n + 1) xs ys fs).run P w = .ok r w
  | [], i, ks, r, hf, he => by
    cases hf
    cases hcs : cs.drop i with
    | cons c cs' => rw [hcs] at he; simp [eqCs] at he
    | nil =>
      cases hds : ds.drop i with
      | cons d ds' => rw [hcs, hds] at he; simp [eqCs] at he
      | nil =>
        rw [hcs, hds] at he
        cases he
        simp only [Op.eqFields, Sem.run_pure]
  | f :: fs, i, ks, r, hf, he => by
    simp only [flatTs] at hf
    split at hf
    · rename_i hcond
      obtain ⟨hname, hoff⟩ := hcond
      split at hf
      · rename_i k ks' hk hks
        cases hf
        cases hcs : cs.drop i with
        | nil => rw [hcs] at he; simp [eqCs] at he
        | cons c cs' =>
          cases hds : ds.drop i with
          | nil => rw [hcs, hds] at he; simp [eqCs] at he
          | cons d ds' =>
            rw [hcs, hds] at he
            simp only [eqCs] at he
            split at he
            · rename_i a b h1 h2
              cases he
              have gc : cs[i]? = some c := by have := congrArg (·[0]?) hcs; simpa using this
              have gd : ds[i]? = some d := by have := congrArg (·[0]?) hds; simpa using this
              have tc : cs.drop (i + 1) = cs' := by rw [← List.drop_drop, hcs]; rfl
              have td : ds.drop (i + 1) = ds' := by rw [← List.drop_drop, hds]; rfl
              have hag : k.agg = false := by unfold eqC at h1; split at h1 <;> first | rfl | cases h1
              have pc : qpart P f.type i cs = some (.c c) := by unfold qpart; rw [hk]; simp only [hag, gc]; rfl
              have pd : qpart P f.type i ds = some (.c d) := by unfold qpart; rw [hk]; simp only [hag, gd]; rfl
              obtain ⟨vc, rc, rc'⟩ := qpart_sound hc pc
              obtain ⟨vd, rd, rd'⟩ := qpart_sound hd pd
              have heq : (Op.equalIn (n + 1) f.type vc vd).run P w = .ok a w := by
                unfold eqC at h1
                split at h1
                · rename_i k0 k1 x k2 y
                  split at h1
                  · rename_i hkk
                    subst hkk
                    cases h1
                    obtain ⟨rfl, _⟩ := v_inv rc'
                    obtain ⟨rfl, _⟩ := v_inv rd'
                    rw [run_equalIn_int w n f.type k1 k0 x y (tk_int hk)]
                    by_cases hxy : x = y
                    · subst hxy; simp
                    · simp [hxy]
                  · cases h1
                · cases h1
                  obtain ⟨rfl, _⟩ := v_inv rc'
                  obtain ⟨rfl, _⟩ := v_inv rd'
                  rw [run_equalIn_bool' w n f.type _ _ (tk_bool hk)]
                · cases h1
                  obtain ⟨rfl, _⟩ := v_inv rc'
                  obtain ⟨rfl, _⟩ := v_inv rd'
                  rw [run_equalIn_string w n f.type _ _ (tk_str hk)]; rfl
                · cases h1
              simp only [Op.eqFields, if_pos hname, hoff, Sem.run_bind, rc, rd, heq, Result.andThen_ok, Sem.run_ite]
              cases a with
              | false => simp only [Bool.not_false, if_true, Sem.run_pure, Bool.false_and]
              | true =>
                simp only [Bool.not_true, Bool.false_eq_true, if_false, Bool.true_and]
                exact eqFs_sound hc hd fs (i + 1) ks' b hks (by rw [tc, td]; exact h2)
            · cases he
      · cases hf
    · cases hf

theorem qbin_sound (hr : Rel g S E F A a w) {op : BinOp} {t : TypeId} {x y : Operand} {da db d' : D} {va vb : Value} (ha : RepD w S E da va) (hb : RepD w S E db vb) (h : qbin P A.H op t da db = some d') :
    ∃ v', (eqGuard op t x y va vb).run P w = .ok () w ∧ (binOp op t va vb).run P w = .ok v' w ∧ RepD w S E d' v' := by
  unfold qbin at h
  split at h
  · rename_i xs ys
    obtain ⟨xa, rfl, hx⟩ := agg_inv ha
    obtain ⟨ya, rfl, hy⟩ := agg_inv hb
    split at h
    · rename_i e ks he hks
      cases hq : eqCs ks xs ys with
      | none => rw [hq] at h; cases h
      | some r =>
        rw [hq] at h; cases h
        unfold flatT at hks
        split at hks
        · rename_i fs hu
          split at hks
          · rename_i hc
            obtain ⟨c1, c2⟩ := hc
            have hfo : P.fieldsOf t = fs := by unfold Program.fieldsOf; rw [hu]
            have h1 : (Op.equalIn 10000 t (.agg xa) (.agg ya)).run P w = .ok r w := by
              have h0 := run_equalIn_struct (P := P) w 9999 t xa ya (by rw [hfo]; exact hu) c1
              rw [hfo] at h0
              exact h0.trans (eqFs_sound (n := 9998) hx hy fs.toList 0 ks r hks (by simpa using hq))
            have hg := run_eqGuard_agg (P := P) w op t x y xa ya c2
            cases op <;> simp [isEq] at he
            · subst he; exact ⟨.bool r, hg, by rw [run_eql_struct, h1]; rfl, .c (.v trivial)⟩
            · subst he; exact ⟨.bool (!r), hg, by rw [run_neq_struct, h1]; rfl, .c (.v trivial)⟩
          · cases hks
        · cases hks
    · cases h
  · rename_i k x k' y
    obtain ⟨rfl, hx⟩ := v_inv ha
    obtain ⟨rfl, hy⟩ := v_inv hb
    split at h
    · rename_i hs
      cases hq : qshift op k x y with
      | none => rw [hq] at h; cases h
      | some c =>
        rw [hq] at h; cases h
        obtain ⟨v', rfl, h1, h2⟩ := qshift_sound (P := P) (w := w) (t := t) (k' := k') hx hq
        exact ⟨v', run_eqGuard (by simp) (by simp), h1, .c (.v h2)⟩
    · rename_i hs
      split at h
      · rename_i hkk
        subst hkk
        cases hq : qint op k x y with
        | none => rw [hq] at h; cases h
        | some c =>
          rw [hq] at h; cases h
          obtain ⟨v', rfl, h1, h2⟩ := qint_sound (P := P) (w := w) (t := t) hx hy (by simpa using hs) hq
          exact ⟨v', run_eqGuard (by simp) (by simp), h1, .c (.v h2)⟩
      · cases h
  · rename_i x y
    obtain ⟨rfl, hx⟩ := v_inv ha
    obtain ⟨rfl, hy⟩ := v_inv hb
    cases hq : qstr op x y with
    | none => rw [hq] at h; cases h
    | some c =>
      rw [hq] at h; cases h
      obtain ⟨v', rfl, h1, h2⟩ := qstr_sound (P := P) (w := w) (t := t) hq
      exact ⟨v', run_eqGuard (by simp) (by simp), h1, .c (.v h2)⟩
  · split at h
    · rename_i e he
      cases hq : qeq P A.H t da db with
      | none => rw [hq] at h; cases h
      | some r =>
        rw [hq] at h; cases h
        obtain ⟨h1, h2⟩ := qeq_sound hr ha hb hq
        cases op <;> simp [isEq] at he
        · subst he; exact ⟨.bool r, run_eqGuard h2.1 h2.2.1, run_binOp_eql h2 h1, .c (.v trivial)⟩
        · subst he; exact ⟨.bool (!r), run_eqGuard h2.1 h2.2.1, run_binOp_neq h2 h1, .c (.v trivial)⟩
    · cases h

theorem qbuiltin_sound (hr : Rel g S E F A a w) {c : Call} {ty : TypeId} {d : D} (hev : ∀ {x : Operand} {d : D}, x ∈ (Op.operands (.call c)).toList → A.ev x = some d → RepD w S E d (a.eval x))
    (h : qbuiltin P A.ev A.H c = some d) : ∃ v, (do let d ← resolve a.eval c ty; invoke d.target d.args : Sem Next).run P w = .ok (.value v) w ∧ RepD w S E d v := by
  unfold qbuiltin at h
  split at h
  · rename_i hc
    split at h
    · rename_i x t hargs htys
      cases hx : A.ev x with
      | none => rw [hx] at h; cases h
      | some d0 =>
        rw [hx] at h
        have ha : c.args = #[x] := by apply Array.toList_inj.1; simpa using hargs
        have ht : c.argTypes = #[t] := by apply Array.toList_inj.1; simpa using htys
        obtain ⟨v', h1, h2⟩ := qlen_sound (P := P) (ty := ty) hr (hev (by simp [Op.operands, Call.operands, hc, ha]) hx) h
        exact ⟨v', by simp [resolve, invoke, builtin, hc, ha, ht, h1], h2⟩
    · cases h
  · rename_i hc
    split at h
    · rename_i x y hargs
      have ha : c.args = #[x, y] := by apply Array.toList_inj.1; simpa using hargs
      split at h
      · rename_i da db h1 h2
        have r1 := hev (x := x) (by simp [Op.operands, Call.operands, hc, ha]) h1
        have r2 := hev (x := y) (by simp [Op.operands, Call.operands, hc, ha]) h2
        unfold q2 at h
        split at h
        · rename_i k x' k' y'
          split at h
          · rename_i hk
            subst hk
            cases h
            obtain ⟨e1, s1⟩ := v_inv r1
            obtain ⟨e2, s2⟩ := v_inv r2
            refine ⟨.int k (if x' < y' then y' else x'), ?_, ?_⟩
            · simp [resolve, invoke, builtin, hc, ha, Builtin.max_, Builtin.max2, e1, e2]
            · simp only [if_true]
              refine .c (.v ?_)
              split
              · exact s2
              · exact s1
          · cases h
        · cases h
      · cases h
    · cases h
  · rename_i hc
    split at h
    · rename_i x y hargs
      have ha : c.args = #[x, y] := by apply Array.toList_inj.1; simpa using hargs
      split at h
      · rename_i da db h1 h2
        have r1 := hev (x := x) (by simp [Op.operands, Call.operands, hc, ha]) h1
        have r2 := hev (x := y) (by simp [Op.operands, Call.operands, hc, ha]) h2
        unfold q2 at h
        split at h
        · rename_i k x' k' y'
          split at h
          · rename_i hk
            subst hk
            cases h
            obtain ⟨e1, s1⟩ := v_inv r1
            obtain ⟨e2, s2⟩ := v_inv r2
            refine ⟨.int k (if y' < x' then y' else x'), ?_, ?_⟩
            · simp [resolve, invoke, builtin, hc, ha, Builtin.min_, Builtin.min2, e1, e2]
            · simp only [Bool.false_eq_true, if_false]
              refine .c (.v ?_)
              split
              · exact s2
              · exact s1
          · cases h
        · cases h
      · cases h
    · cases h
  · cases h

/-- A quiet operation is what the function says. -/
theorem qev_sound (hr : Rel g S E F A a w) {o : Oper} {d : D} (hop : o.op.operands.toList.all opdOK = true) (h : qev P A.ev A.H o.op = some d) :
    ∃ v, (execOp a.eval o).run P w = .ok (.value v) w ∧ RepD w S E d v := by
  have hev : ∀ {x : Operand} {d : D}, x ∈ o.op.operands.toList → A.ev x = some d → RepD w S E d (a.eval x) :=
    fun hx he => ev_rep hr (List.all_eq_true.1 hop _ hx) he
  unfold qev at h
  split at h
  · rename_i x ho
    exact ⟨a.eval x, by simp [execOp, ho], hev (by simp [ho, Op.operands]) h⟩
  · rename_i x ho
    exact ⟨a.eval x, by simp [execOp, ho], hev (by simp [ho, Op.operands]) h⟩
  · rename_i c x y ho
    split at h
    · rename_i dc da db h1 h2 h3
      obtain ⟨b, hb, hd⟩ := qpick_sound (hev (by simp [ho, Op.operands]) h1) (hev (by simp [ho, Op.operands]) h2) (hev (by simp [ho, Op.operands]) h3) h
      exact ⟨if b then a.eval x else a.eval y, by simp [execOp, ho, hb, asBool], hd⟩
    · cases h
  · rename_i t x ho
    cases hx : A.ev x with
    | none => rw [hx] at h; cases h
    | some d0 =>
      rw [hx] at h
      obtain ⟨v', h1, h2⟩ := qload_sound hr (hev (by simp [ho, Op.operands]) hx) h
      exact ⟨v', by simp [execOp, ho, h1], h2⟩
  · rename_i x ho
    cases hx : A.ev x with
    | none => rw [hx] at h; cases h
    | some d0 =>
      rw [hx] at h
      exact ⟨_, qnil_sound hr rfl ho (hev (by simp [ho, Op.operands]) hx) h⟩
  · rename_i op t x y ty ho
    split at h
    · rename_i da db h1 h2
      obtain ⟨v', k1, k2, k3⟩ := qbin_sound (x := x) (y := y) hr (hev (by simp [ho, Op.operands]) h1) (hev (by simp [ho, Op.operands]) h2) h
      exact ⟨v', by simp [execOp, ho, k1, k2], k3⟩
    · cases h
  · rename_i op ty x ho
    cases hx : A.ev x with
    | none => rw [hx] at h; cases h
    | some d0 =>
      rw [hx] at h
      obtain ⟨v', h1, h2⟩ := qun_sound (P := P) (hev (by simp [ho, Op.operands]) hx) h
      exact ⟨v', by simp [execOp, ho, h1], h2⟩
  · rename_i s t x ho
    cases hx : A.ev x with
    | none => rw [hx] at h; cases h
    | some d0 =>
      rw [hx] at h
      obtain ⟨v', h1, h2⟩ := qconv_sound (hev (by simp [ho, Op.operands]) hx) h
      exact ⟨v', by simp [execOp, ho, h1], h2⟩
  · rename_i t x i ho
    cases hx : A.ev x with
    | none => rw [hx] at h; cases h
    | some d0 =>
      rw [hx] at h
      obtain ⟨v', h1, h2⟩ := qfieldAddr_sound hr (hev (by simp [ho, Op.operands]) hx) h
      exact ⟨v', by simp [execOp, ho, h1], h2⟩
  · rename_i t x i ho
    cases hx : A.ev x with
    | none => rw [hx] at h; cases h
    | some d0 =>
      rw [hx] at h
      obtain ⟨v', h1, h2⟩ := qfield_sound (hev (by simp [ho, Op.operands]) hx) h
      exact ⟨v', by simp [execOp, ho, h1], h2⟩
  · rename_i t x i ho
    split at h
    · rename_i d0 n h1 h2
      cases hi : A.ev i with
      | none => rw [hi] at h2; cases h2
      | some di =>
        rw [hi] at h2
        obtain ⟨k, hk, _⟩ := int_inv (hev (x := i) (by simp [ho, Op.operands]) hi) h2
        obtain ⟨v', k1, k2⟩ := qindexAddr_sound (k := k) hr (hev (by simp [ho, Op.operands]) h1) h
        exact ⟨v', by simp [execOp, ho, hk, k1], k2⟩
    · cases h
  · rename_i t x i ho
    split at h
    · rename_i d0 n h1 h2
      cases hi : A.ev i with
      | none => rw [hi] at h2; cases h2
      | some di =>
        rw [hi] at h2
        obtain ⟨k, hk, _⟩ := int_inv (hev (x := i) (by simp [ho, Op.operands]) hi) h2
        obtain ⟨v', k1, k2⟩ := qindex_sound (k := k) (hev (by simp [ho, Op.operands]) h1) h
        exact ⟨v', by simp [execOp, ho, hk, k1], k2⟩
    · cases h
  · rename_i t x lo hi ho
    cases hx : A.ev x with
    | none => rw [hx] at h; cases h
    | some d0 =>
      rw [hx] at h
      obtain ⟨v', k1, k2, k3⟩ := qslice_sound (vlo := lo.map a.eval) (vhi := hi.map a.eval) hr (hev (by simp [ho, Op.operands]) hx)
        (fun d hd => by
          cases lo with
          | none => cases hd
          | some l => simp only [omap, Option.some.injEq] at hd; exact ⟨_, rfl, hev (by simp [ho, Op.operands]) hd⟩)
        (fun hd => by cases lo with | none => rfl | some l => cases hd)
        (fun d hd => by
          cases hi with
          | none => cases hd
          | some l => simp only [omap, Option.some.injEq] at hd; exact ⟨_, rfl, hev (by simp [ho, Op.operands]) hd⟩)
        (fun hd => by cases hi with | none => rfl | some l => cases hd) h
      refine ⟨v', ?_, k2⟩
      have hs : (Instr.sliceAt t (a.eval x) (lo.map a.eval) (hi.map a.eval) none).run P w = .ok v' w := by
        unfold Instr.sliceAt
        rw [Sem.run_bind]
        cases hu : P.underlying t with
        | none => simp [Instr.slice, underlying, program, Sem.run, hu, stuck] at k1
        | some ud =>
          rw [run_und hu, Result.andThen_ok]
          split
          · rename_i n e; exact absurd hu (k3 n e)
          · exact k1
      simp [execOp, ho, hs]
  · rename_i t x lo hi mx ho
    cases hx : A.ev x with
    | none => rw [hx] at h; cases h
    | some d0 =>
      rw [hx] at h
      obtain ⟨v', k1, k2, k3⟩ := qslice3_sound (vlo := a.eval lo) (vhi := a.eval hi) (vmx := a.eval mx) hr (hev (by simp [ho, Op.operands]) hx)
        (fun d hd => hev (by simp [ho, Op.operands]) hd) (fun d hd => hev (by simp [ho, Op.operands]) hd) (fun d hd => hev (by simp [ho, Op.operands]) hd) h
      refine ⟨v', ?_, k2⟩
      have hs : (Instr.sliceAt t (a.eval x) (some (a.eval lo)) (some (a.eval hi)) (some (a.eval mx))).run P w = .ok v' w := by
        unfold Instr.sliceAt
        rw [Sem.run_bind]
        cases hu : P.underlying t with
        | none => simp [Instr.slice, underlying, program, Sem.run, hu, stuck] at k1
        | some ud =>
          rw [run_und hu, Result.andThen_ok]
          split
          · rename_i n e; exact absurd hu (k3 n e)
          · exact k1
      simp [execOp, ho, hs]
  · rename_i x i ho
    cases hx : A.ev x with
    | none => rw [hx] at h; cases h
    | some d0 =>
      rw [hx] at h
      obtain ⟨v', h1, h2⟩ := qext_sound (P := P) (hev (by simp [ho, Op.operands]) hx) h
      exact ⟨v', by simp [execOp, ho, h1], h2⟩
  · rename_i c ho
    obtain ⟨v', h1, h2⟩ := qbuiltin_sound (ty := o.type) hr (fun hx he => hev (by rw [ho]; exact hx) he) h
    exact ⟨v', by simp [execOp, ho, h1], h2⟩
  · cases h

end
end Go.Dl
