/- 'Dl', part Zm: regions of open order that load from one root and store into another; The walks of the lexer's small functions; The walks of strings.IndexByte; The walks of the lexer's run and blanks; The walk of the lexer's blanks; The walk of the lexer's next, but for quotes; Results that stay, in tuples; the walk of Tokens; 'Dl', part Zn: a region of open order, its order looked at first; 'Dl', part Zo: contracts over a family of inputs. -/
import Derived.Test.YtbefgbljlmnfoaaE07
import Derived.Lib.Bytealg
import Derived.Laws.Externs
namespace Go.Dl
open Go.RowKit

section
variable {P : Program} {Φ : Fs}

def SwapK (P : Program) (Φ : Fs) (K : St → Prop) (ops : Array Oper) (x y : Oper) : Prop :=
  ∀ (g : G) (A A1 A2 : St), Ok g A → K A → xstep P Φ ops x A = some A1 → xstep P Φ ops y A1 = some A2 → ∃ B, xstep P Φ ops y A = some B ∧ xstep P Φ ops x B = some A2

def Keep (P : Program) (Φ : Fs) (K : St → Prop) (ops : Array Oper) : Prop := ∀ o ∈ ops.toList, ∀ A A' : St, K A → xstep P Φ ops o A = some A' → K A'

def SwapsK (P : Program) (Φ : Fs) (K : St → Prop) (ops : Array Oper) : Prop :=
  (∀ (j : Nat) (y : Oper), ops[j]? = some y → ∀ e ∈ y.after, Region.binds .any e = true → e.on < j) ∧
  ∀ (i j : Nat) (x y : Oper), i < j → ops[i]? = some x → ops[j]? = some y → reach ops ops.size j i = false → SwapK P Φ K ops x y

theorem frontK {K : St → Prop} (hΦ : FsOK P Φ) {ops : Array Oper} (hok : opsOK ops = true) (hK : Keep P Φ K ops) (hsw : SwapsK P Φ K ops) {g : G} {j : Nat} {y : Oper} (hy : ops[j]? = some y) {post : List Nat} {Af : St} :
    ∀ (pre : List Nat) (A : St), Ok g A → K A → (∀ i ∈ pre, i < j ∧ reach ops ops.size j i = false) → runI P Φ ops (pre ++ j :: post) A = some Af →
      ∃ B, xstep P Φ ops y A = some B ∧ runI P Φ ops (pre ++ post) B = some Af := by
  intro pre
  induction pre with
  | nil =>
    intro A _ _ _ h
    simp only [Z12, runI, hy] at h
    cases hx : xstep P Φ ops y A with
    | none => rw [hx] at h; cases h
    | some B => rw [hx] at h; exact ⟨B, rfl, h⟩
  | cons i pre ih =>
    intro A hA hkA hall h
    simp only [Z23, runI] at h
    cases hi : ops[i]? with
    | none => rw [hi] at h; cases h
    | some x =>
      rw [hi] at h
      simp only at h
      cases hx : xstep P Φ ops x A with
      | none => rw [hx] at h; cases h
      | some A1 =>
        rw [hx] at h
        have hin : x ∈ ops.toList := by simpa using Array.mem_of_getElem? hi
        have hA1 := xstep_ok hΦ (List.all_eq_true.1 hok x hin) hx hA
        obtain ⟨B1, h1, h2⟩ := ih A1 hA1 (hK x hin A A1 hkA hx) (fun k hk => hall k (List.mem_cons_of_mem _ hk)) h
        obtain ⟨q1, q2⟩ := hall i (List.mem_cons_self ..)
        obtain ⟨B, k1, k2⟩ := hsw.2 i j x y q1 hi hy q2 g A A1 B1 hA hkA hx h1
        refine ⟨B, k1, ?_⟩
        simp only [Z23, runI, hi, k2]
        exact h2

theorem wpAny_runK {K : St → Prop} (hΦ : FsOK P Φ) {ops : Array Oper} (hok : opsOK ops = true) (hK : Keep P Φ K ops) (hsw : SwapsK P Φ K ops) {g : G} {Q : Exit → Act → World → Prop} {Af : St} (hQ : ∀ a' w', Sat g Af a' w' → Q .normal a' w') :
    ∀ (fuel : Nat) (listed : Array Bool) (A : St) (a : Act) (w : World), listed.size = ops.size → (remI ops listed).length ≤ fuel → Closed ops listed → Sat g A a w → K A →
      runI P Φ ops (remI ops listed) A = some Af → wpAny P .any ops Q fuel listed a w := by
  have least : ∀ listed : Array Bool, listed.size = ops.size → Region.ready .any ops listed = [] → remI ops listed = [] := by
    intro listed hsz hr
    cases hrem : remI ops listed with
    | nil => rfl
    | cons k rest =>
      exfalso
      have hk := mem_remI.1 (show k ∈ remI ops listed by rw [hrem]; exact List.mem_cons_self ..)
      have hsort := remI_sorted ops listed
      rw [hrem, List.pairwise_cons] at hsort
      have : k ∈ Region.ready .any ops listed := by
        refine mem_ready.2 ⟨hk.2, ops[k]'hk.1, Array.getElem?_eq_getElem hk.1, fun e he hb => ?_⟩
        have hlt := hsw.1 k _ (Array.getElem?_eq_getElem hk.1) e he hb
        rw [← getD_both (by omega)]
        refine Classical.byContradiction fun hn => ?_
        have hm : e.on ∈ remI ops listed := mem_remI.2 ⟨by omega, by simpa using hn⟩
        rw [hrem] at hm
        rcases List.mem_cons.1 hm with h | h
        · omega
        · have := hsort.1 _ h; omega
      rw [hr] at this
      cases this
  intro fuel
  induction fuel with
  | zero =>
    intro listed A a w hsz hl hcl hs hkA h
    have : remI ops listed = [] := List.length_eq_zero_iff.1 (by omega)
    rw [this] at h
    cases h
    refine ⟨?_, hQ a w hs⟩
    cases hr : Region.ready .any ops listed with
    | nil => rfl
    | cons i l =>
      exfalso
      obtain ⟨h0, o, ho, _⟩ := mem_ready.1 (show i ∈ Region.ready .any ops listed by rw [hr]; exact List.mem_cons_self ..)
      have : i ∈ remI ops listed := mem_remI.2 ⟨(Array.getElem?_eq_some_iff.1 ho).1, h0⟩
      rw [‹remI ops listed = []›] at this
      cases this
  | succ fuel ih =>
    intro listed A a w hsz hl hcl hs hkA h
    refine ⟨fun hr => ?_, fun j hj => ?_⟩
    · rw [least listed hsz hr] at h
      cases h
      exact hQ a w hs
    · obtain ⟨h0, y, hy, hall⟩ := mem_ready.1 hj
      have hjs := (Array.getElem?_eq_some_iff.1 hy).1
      have hm : j ∈ remI ops listed := mem_remI.2 ⟨hjs, h0⟩
      obtain ⟨pre, post, hsplit⟩ := List.append_of_mem hm
      have hsort := remI_sorted ops listed
      rw [hsplit, List.pairwise_append, List.pairwise_cons] at hsort
      obtain ⟨_, ⟨s2, _⟩, s3⟩ := hsort
      rw [hsplit] at h
      obtain ⟨B, k1, k2⟩ := frontK hΦ hok hK hsw hy pre A ⟨a, w, hs⟩ hkA (fun i hi => by
        refine ⟨s3 i hi j (List.mem_cons_self ..), ?_⟩
        refine Classical.byContradiction fun hn => ?_
        have hl := reach_listed hcl ops.size j i (by simpa using hn) fun o ho => by rw [hy] at ho; cases ho; exact hall
        have hi' := mem_remI.1 (show i ∈ remI ops listed by rw [hsplit]; exact List.mem_append_left _ hi)
        rw [getD_both (by omega), hl] at hi'
        cases hi'.2) h
      have hin : y ∈ ops.toList := by simpa using Array.mem_of_getElem? hy
      refine xstep_wp hΦ hy (List.all_eq_true.1 hok y hin) k1 hs fun a' w' hs' => ?_
      have hrem : remI ops (listed.setIfInBounds j true) = pre ++ post := by
        have e1 : remI ops (listed.setIfInBounds j true) = (remI ops listed).filter (fun k => k != j) := by
          unfold remI
          rw [List.filter_filter]
          refine List.filter_congr fun k hk => ?_
          by_cases hkj : k = j
          · subst hkj
            simp [hsz ▸ hjs]
          · rw [getD_set_ne true (Ne.symm hkj)]; simp [hkj]
        rw [e1, hsplit, List.filter_append, List.filter_cons_of_neg (by simp)]
        rw [List.filter_eq_self.2 fun k hk => by have := s3 k hk j (List.mem_cons_self ..); simp; omega,
          List.filter_eq_self.2 fun k hk => by have := s2 k hk; simp; omega]
      refine ih _ B a' w' (by simp [hsz]) (by rw [hrem]; rw [hsplit] at hl; simp at hl ⊢; omega) ?_ hs' (hK y hin A B hkA k1) (by rw [hrem]; exact k2)
      intro i o ho hli e he hb
      by_cases hij : i = j
      · subst hij
        rw [hy] at ho; cases ho
        exact getD_set_true (hall e he hb)
      · rw [getD_set_ne false (Ne.symm hij)] at hli
        exact getD_set_true (hcl i o ho hli e he hb)

/-- A region that draws its order: the same, with what is known of the states between. -/
theorem tri_anyK {K : St → Prop} (hm : P.follows .mixedOrders = true) (hΦ : FsOK P Φ) {id : Nat} {ops : Array Oper} {A A' : St} {Q : Exit → St → Prop} (hok : opsOK ops = true) (hK : Keep P Φ K ops) (hsw : SwapsK P Φ K ops) (hkA : K A)
    (h : runf P Φ ops ops.toList A = some A') (hQ : Q .normal A') : Tri P (.region id ops true) A Q := by
  intro g a w hs
  refine wp_region_any hm ?_
  have h0 : remI ops (Array.replicate ops.size false) = List.range ops.size := by
    unfold remI
    refine List.filter_eq_self.2 fun i hi => ?_
    have := List.mem_range.1 hi
    simp [this]
  refine wpAny_runK hΦ hok hK hsw (Af := A') (fun a' w' hs' => ⟨A', hs', hQ⟩) ops.size _ A a _ (by simp) (by rw [h0]; simp) ?_ (hs.drawn _ (Nat.le_succ _)) hkA ?_
  · intro j o ho hl e he hb
    have hj := (Array.getElem?_eq_some_iff.1 ho).1
    simp [hj] at hl
  · rw [h0, List.range_eq_range', ← runI_range ops.size 0 A (by omega)]
    simpa using h


/-- A store leaves the other roots as they are. -/
theorem store_other {A : St} {t : TypeId} {b v : Operand} {d d' : D} {H2 : List (Option Root)} (hb : A.ev b = some d') (h : act P Φ A (.store t b v) = some (d, H2)) (r : Nat) (hr : d'.no r = true) : A.H[r]? = H2[r]? := by
  simp only [act, hb] at h
  split at h <;> try cases h
  rename_i d1 cells h1 h2
  cases h1
  split at h <;> try cases h
  cases hs : storeA A.H cells d' with
  | none => rw [hs] at h; cases h
  | some H1 =>
    rw [hs] at h; cases h
    unfold storeA at hs
    split at hs <;> try cases hs
    rename_i r' e c
    split at hs <;> try cases hs
    split at hs <;> try cases hs
    split at hs <;> try cases hs
    have hne : r' ≠ r := by simpa [D.no, C.no] using hr
    rw [List.getElem?_set_ne hne]

theorem act_store_some {A : St} {t : TypeId} {b v : Operand} {d : D} {H2 : List (Option Root)} (h : act P Φ A (.store t b v) = some (d, H2)) : ∃ d', A.ev b = some d' := by
  simp only [act] at h
  split at h
  · rename_i d1 _ h1 _; exact ⟨d1, h1⟩
  · cases h

theorem swap_ls {K : St → Prop} {ops : Array Oper} {x y : Oper} {t t' : TypeId} {a b v : Operand} (hx0 : x.guard = none) (hy0 : y.guard = none) (hx : x.op = .load t a) (hy : y.op = .store t' b v) (hap : x.apart ops y = true)
    (hab : ∀ A, K A → ∀ d d', A.ev a = some d → A.ev b = some d' → ∀ r, d.no r = false → d'.no r = true) : SwapK P Φ K ops x y := by
  intro g A A1 A2 hA hkA h1 h2
  obtain ⟨p1, p2, p3⟩ := Oper.apart_spec hap
  have hcx : cl P Φ x.op = .L := by rw [hx]; rfl
  have hcy : cl P Φ y.op = .S := by rw [hy]; rfl
  have hxN : cl P Φ x.op ≠ .N := by rw [hcx]; intro h; cases h
  have hyN : cl P Φ y.op ≠ .N := by rw [hcy]; intro h; cases h
  rw [xstep_gact hxN] at h1
  rw [xstep_gact hyN] at h2
  cases hgx : gact P Φ ops x A with
  | none => rw [hgx] at h1; cases h1
  | some rx =>
    rw [hgx] at h1; cases h1
    cases hgy : gact P Φ ops y (A.with x.dst rx) with
    | none => rw [hgy] at h2; cases h2
    | some ry =>
      rw [hgy] at h2; cases h2
      obtain ⟨d, H1⟩ := rx
      obtain ⟨e, H2⟩ := ry
      have hH1 : H1 = A.H := by
        obtain ⟨o, h1, _⟩ := gact_quiet (A := A) (A' := A) (ops := ops) (.inr hcx) (fun _ _ => rfl) (fun _ _ _ _ _ _ _ => rfl) (fun _ _ _ _ _ _ _ => rfl)
        rw [h1] at hgx
        cases o <;> simp at hgx
        exact hgx.2.symm
      subst hH1
      have hy1 : gact P Φ ops y A = some (e, H2) := by
        rw [gact_congr hyN (A' := A.with x.dst (d, A.H)) (agree_with p1) (with_H (r := (d, A.H))).symm]; exact hgy
      refine ⟨A.with y.dst (e, H2), by rw [xstep_gact hyN, hy1]; rfl, ?_⟩
      have hyact : act P Φ A (.store t' b v) = some (e, H2) := by
        have := hy1
        unfold gact at this
        rw [hy0] at this
        rw [← hy]; exact this
      obtain ⟨db, hdb⟩ := act_store_some hyact
      have hx1 : gact P Φ ops x (A.with y.dst (e, H2)) = some (d, H2) := by
        obtain ⟨o, h1, h2⟩ := gact_quiet (A := A) (A' := A.with y.dst (e, H2)) (ops := ops) (.inr hcx) (agree_with p3)
          (fun hF z hz dz hdz r hr => by rw [hcx] at hF; cases hF)
          (fun hL z hz dz hdz r hr => by
            rw [with_H]
            rw [hx] at hz
            have hz : z = a := by simpa [Op.operands] using hz
            subst hz
            exact store_other hdb hyact r (hab A hkA dz db hdz hdb r hr))
        rw [h1] at hgx
        rw [h2, with_H]
        cases o <;> simp at hgx
        rw [hgx]; rfl
      rw [xstep_gact hxN, hx1]
      simp only [Z4]
      rw [with_comm (H2 := H2) p2]

theorem swap_sl {K : St → Prop} {ops : Array Oper} {x y : Oper} {t t' : TypeId} {a b v : Operand} (hx0 : x.guard = none) (hy0 : y.guard = none) (hx : x.op = .store t' b v) (hy : y.op = .load t a) (hap : x.apart ops y = true)
    (hab : ∀ A, K A → ∀ d d', A.ev a = some d → A.ev b = some d' → ∀ r, d.no r = false → d'.no r = true) : SwapK P Φ K ops x y := by
  intro g A A1 A2 hA hkA h1 h2
  obtain ⟨p1, p2, p3⟩ := Oper.apart_spec hap
  have hcx : cl P Φ x.op = .S := by rw [hx]; rfl
  have hcy : cl P Φ y.op = .L := by rw [hy]; rfl
  have hxN : cl P Φ x.op ≠ .N := by rw [hcx]; intro h; cases h
  have hyN : cl P Φ y.op ≠ .N := by rw [hcy]; intro h; cases h
  rw [xstep_gact hxN] at h1
  rw [xstep_gact hyN] at h2
  cases hgx : gact P Φ ops x A with
  | none => rw [hgx] at h1; cases h1
  | some rx =>
    rw [hgx] at h1; cases h1
    cases hgy : gact P Φ ops y (A.with x.dst rx) with
    | none => rw [hgy] at h2; cases h2
    | some ry =>
      rw [hgy] at h2; cases h2
      obtain ⟨d, H1⟩ := rx
      obtain ⟨e, H2⟩ := ry
      have hxact : act P Φ A (.store t' b v) = some (d, H1) := by
        have := hgx
        unfold gact at this
        rw [hx0] at this
        rw [← hx]; exact this
      obtain ⟨db, hdb⟩ := act_store_some hxact
      obtain ⟨o, q1, q2⟩ := gact_quiet (A := A) (A' := A.with x.dst (d, H1)) (ops := ops) (o := y) (.inr hcy) (agree_with p1)
        (fun hF z hz dz hdz r hr => by rw [hcy] at hF; cases hF)
        (fun hL z hz dz hdz r hr => by
          rw [with_H]
          rw [hy] at hz
          have hz : z = a := by simpa [Op.operands] using hz
          subst hz
          exact store_other hdb hxact r (hab A hkA dz db hdz hdb r hr))
      rw [q2, with_H] at hgy
      cases o with
      | none => simp at hgy
      | some e0 =>
        simp only [Z4, Z3, Prod.mk.injEq] at hgy
        obtain ⟨rfl, rfl⟩ := hgy
        refine ⟨A.with y.dst (e0, A.H), by rw [xstep_gact hyN, q1]; rfl, ?_⟩
        have hx1 : gact P Φ ops x (A.with y.dst (e0, A.H)) = some (d, H1) := by
          rw [← gact_congr hxN (A := A) (agree_with p3) (with_H (r := (e0, A.H))).symm]; exact hgx
        rw [xstep_gact hxN, hx1]
        exact congrArg some (with_comm (H2 := A.H) (H3 := H1) p2).symm

/-- Slots that speak of one root at most. -/
def Tagged (tg : List (Nat × Nat)) (A : St) : Prop := ∀ t r, (t, r) ∈ tg → ∀ d, A.sl[t]? = some d → ∀ r', d.no r' = false → r' = r

def tagOp (tg : List (Nat × Nat)) (o : Oper) : Bool :=
  tg.all fun e => o.dst != some e.1 || match o.op with
    | .move (.tmp s) => tg.contains (s, e.2)
    | .nilCheck (.tmp s) => tg.contains (s, e.2)
    | .fieldAddr _ (.tmp s) _ => tg.contains (s, e.2)
    | _ => false

theorem tag_keep {tg : List (Nat × Nat)} {ops : Array Oper} (h1 : (ops.toList.all fun o => cl P Φ o.op != .N) = true) (h2 : (ops.toList.all (tagOp tg)) = true) : Keep P Φ (Tagged tg) ops := by
  intro o ho A A' hA hx
  have hN : cl P Φ o.op ≠ .N := by have := List.all_eq_true.1 h1 o ho; simpa using this
  have ht := List.all_eq_true.1 h2 o ho
  rw [xstep_gact hN] at hx
  cases hg : gact P Φ ops o A with
  | none => rw [hg] at hx; cases hx
  | some rd =>
    rw [hg] at hx; cases hx
    obtain ⟨d0, H0⟩ := rd
    intro t r htr d hd r' hr'
    by_cases hdst : o.dst = some t
    · unfold tagOp at ht
      have ht := List.all_eq_true.1 ht (t, r) htr
      simp only [hdst, bne_self_eq_false, Bool.false_or] at ht
      have hd0 : d = d0 := by
        unfold St.with St.put at hd
        rw [hdst] at hd
        simp only [List.getElem?_set] at hd
        split at hd
        · split at hd
          · cases hd; rfl
          · cases hd
        · rename_i hh; exact absurd trivial hh
      subst hd0
      have key : act P Φ A o.op = some (d, H0) ∨ d = .t [] := by
        unfold gact at hg
        split at hg
        · exact .inl hg
        · split at hg <;> try cases hg
          split at hg <;> try cases hg
          · split at hg
            · exact .inl hg
            · cases hg; exact .inr rfl
          · exact .inr rfl
      rcases key with key | rfl
      · cases hop : o.op <;> rw [hop] at ht <;> first | (simp at ht; done) | skip
        · rename_i x
          cases x <;> first | (simp at ht; done) | skip
          rename_i s
          rw [hop] at key
          simp only [act, qev, St.ev] at key
          cases hs : A.sl[s]? with
          | none => rw [hs] at key; cases key
          | some ds =>
            rw [hs] at key; cases key
            exact hA s r (by simpa using ht) d hs r' hr'
        · rename_i x
          cases x <;> first | (simp at ht; done) | skip
          rename_i s
          rw [hop] at key
          simp only [act, qev, St.ev] at key
          cases hs : A.sl[s]? with
          | none => rw [hs] at key; cases key
          | some ds =>
            rw [hs] at key
            simp only [Z8] at key
            refine hA s r (by simpa using ht) ds hs r' ?_
            unfold qnil at key
            split at key
            · split at key
              · cases key; exact hr'
              · cases key
            · cases key; exact hr'
            · cases key; exact hr'
            · cases key
        · rename_i ty x i
          cases x <;> first | (simp at ht; done) | skip
          rename_i s
          rw [hop] at key
          simp only [act, qev, St.ev] at key
          cases hs : A.sl[s]? with
          | none => rw [hs] at key; cases key
          | some ds =>
            rw [hs] at key
            simp only [Z8] at key
            refine hA s r (by simpa using ht) ds hs r' ?_
            unfold qfieldAddr at key
            split at key <;> try cases key
            split at key <;> try cases key
            split at key
            · cases key
            · split at key
              · split at key
                · cases key; simpa [D.no, C.no] using hr'
                · cases key
              · cases key
                exact absurd hr' (by simp [D.no])
              · cases key
      · simp [D.no, D.nos] at hr'
    · rw [with_sl hdst] at hd
      exact hA t r htr d hd r' hr'

def apartTag (tg : List (Nat × Nat)) (a b : Nat) : Bool := tg.any fun e => e.1 == a && tg.any fun f => f.1 == b && e.2 != f.2

theorem apartTag_spec {tg : List (Nat × Nat)} {a b : Nat} (h : apartTag tg a b = true) {A : St} (hA : Tagged tg A) {d d' : D} (h1 : A.ev (.tmp a) = some d) (h2 : A.ev (.tmp b) = some d') (r : Nat) (hr : d.no r = false) : d'.no r = true := by
  unfold apartTag at h
  rw [List.any_eq_true] at h
  obtain ⟨⟨t, r1⟩, m1, h⟩ := h
  rw [Bool.and_eq_true, beq_iff_eq, List.any_eq_true] at h
  obtain ⟨rfl, ⟨t', r2⟩, m2, h⟩ := h
  rw [Bool.and_eq_true, beq_iff_eq] at h
  obtain ⟨rfl, hne⟩ := h
  have e1 := hA _ _ m1 d h1 r hr
  cases hd : d'.no r with
  | true => rfl
  | false =>
    have e2 := hA _ _ m2 d' h2 r hd
    simp only [bne_iff_ne, ne_eq] at hne
    exact absurd (e1.symm.trans e2) hne

def lsOK (tg : List (Nat × Nat)) (x y : Oper) : Bool :=
  x.guard.isNone && y.guard.isNone && match x.op, y.op with
    | .load _ (.tmp a), .store _ (.tmp b) _ => apartTag tg a b
    | .store _ (.tmp b) _, .load _ (.tmp a) => apartTag tg a b
    | _, _ => false

theorem lsOK_swap {tg : List (Nat × Nat)} {ops : Array Oper} {x y : Oper} (h : lsOK tg x y = true) (hap : x.apart ops y = true) : SwapK P Φ (Tagged tg) ops x y := by
  unfold lsOK at h
  rw [Bool.and_eq_true, Bool.and_eq_true, Option.isNone_iff_eq_none, Option.isNone_iff_eq_none] at h
  obtain ⟨⟨h1, h2⟩, h⟩ := h
  split at h
  · rename_i hx hy
    exact swap_ls h1 h2 hx hy hap fun A hA d d' e1 e2 r hr => apartTag_spec h hA e1 e2 r hr
  · rename_i hx hy
    exact swap_sl h1 h2 hx hy hap fun A hA d d' e1 e2 r hr => apartTag_spec h hA e1 e2 r hr
  · cases h

/-- May the order be open, where slots speak of these roots? -/
def anyOKK (P : Program) (Φ : Fs) (tg : List (Nat × Nat)) (ops : Array Oper) : Bool :=
  (ops.toList.all fun o => cl P Φ o.op != .N) && ops.toList.all (tagOp tg) &&
  (List.range ops.size).all fun j => match ops[j]? with
    | none => true
    | some y => (y.after.toList.all fun e => !Region.binds .any e || decide (e.on < j)) && (List.range j).all fun i => reach ops ops.size j i || match ops[i]? with
      | some z => (okCl (cl P Φ z.op) (cl P Φ y.op) || lsOK tg z y) && z.apart ops y
      | none => true

theorem anyOKK_spec {tg : List (Nat × Nat)} {ops : Array Oper} (h : anyOKK P Φ tg ops = true) : Keep P Φ (Tagged tg) ops ∧ SwapsK P Φ (Tagged tg) ops := by
  unfold anyOKK at h
  rw [Bool.and_eq_true, Bool.and_eq_true] at h
  obtain ⟨⟨hN, hT⟩, h⟩ := h
  refine ⟨tag_keep hN hT, ?_⟩
  rw [List.all_eq_true] at h
  have h' : ∀ (j : Nat) (y : Oper), ops[j]? = some y → (y.after.toList.all fun e => !Region.binds .any e || decide (e.on < j)) = true ∧
      ((List.range j).all fun i => reach ops ops.size j i || match ops[i]? with
        | some x => (okCl (cl P Φ x.op) (cl P Φ y.op) || lsOK tg x y) && x.apart ops y
        | none => true) = true := by
    intro j y hy
    have := h j (List.mem_range.2 (Array.getElem?_eq_some_iff.1 hy).1)
    rw [hy] at this
    simpa only [Bool.and_eq_true] using this
  refine ⟨fun j y hy e he hb => ?_, fun i j x y hij hx hy hr => ?_⟩
  · have := List.all_eq_true.1 (h' j y hy).1 e (by simpa using he)
    rw [hb] at this
    simpa using this
  · have := List.all_eq_true.1 (h' j y hy).2 i (List.mem_range.2 hij)
    rw [hr, hx, Bool.false_or, Bool.and_eq_true, Bool.or_eq_true] at this
    rcases this with ⟨h1 | h1, h2⟩
    · intro g A A1 A2 hA _ k1 k2
      exact swap_ok h1 h2 g A A1 A2 hA k1 k2
    · exact lsOK_swap h1 h2

def ktag (sl : List D) (tg : List (Nat × Nat)) : Bool := tg.all fun e => match sl[e.1]? with
  | some (.c (.p r _ _)) => r == e.2
  | some .top => true
  | none => true
  | _ => false

theorem ktag_spec {A : St} {tg : List (Nat × Nat)} (h : ktag A.sl tg = true) : Tagged tg A := by
  intro t r htr d hd r' hr'
  have := List.all_eq_true.1 h (t, r) htr
  simp only [hd] at this
  split at this
  · rename_i r0 e c hh
    cases hh
    have h1 : r0 = r := by simpa using this
    have h2 : r0 = r' := by simpa [D.no, C.no] using hr'
    omega
  · rename_i hh; cases hh; simp [D.no] at hr'
  · rename_i hh; cases hh
  · cases this

theorem seq_anyK {A A' : St} {Q : Exit → St → Prop} (tg : List (Nat × Nat)) (hm : P.follows .mixedOrders = true) (hΦ : FsOK P Φ) {id : Nat} {l : List Oper} {y : Code} (hok : opsOK l.toArray = true) (hsw : anyOKK P Φ tg l.toArray = true) (hk : ktag A.sl tg = true) (h : runf P Φ l.toArray l A = some A') (hy : Tri P y A' Q) :
    Tri P (.seq (.region id l.toArray true) y) A Q :=
  tri_seq (tri_anyK hm hΦ hok (anyOKK_spec hsw).1 (anyOKK_spec hsw).2 (ktag_spec hk) (by simpa using h) hy)

theorem any_endK {A A' : St} {Q : Exit → St → Prop} (tg : List (Nat × Nat)) (hm : P.follows .mixedOrders = true) (hΦ : FsOK P Φ) {id : Nat} {l : List Oper} (hok : opsOK l.toArray = true) (hsw : anyOKK P Φ tg l.toArray = true) (hk : ktag A.sl tg = true) (h : runf P Φ l.toArray l A = some A') (hQ : Q .normal A') :
    Tri P (.region id l.toArray true) A Q :=
  tri_anyK hm hΦ hok (anyOKK_spec hsw).1 (anyOKK_spec hsw).2 (ktag_spec hk) (by simpa using h) hQ

end
end Go.Dl

namespace Go.Dl
open Go.RowKit
open Go.Proofs
set_option linter.unusedSimpArgs false
set_option linter.unusedVariables false

def isLetter (c : Int) : Bool := (decide (97 ≤ c) && decide (c ≤ 122)) || (decide (65 ≤ c) && decide (c ≤ 90)) || decide (c = 95)
def isDigit (c : Int) : Bool := decide (48 ≤ c) && decide (c ≤ 57)
def isWordC (c : Int) : Bool := isLetter c || isDigit c
def notNL (c : Int) : Bool := !decide (c = 10)

def pU8 (f : Int → Bool) : List D → Option D
  | [.c (.v (.int .u8 c))] => some (dB (f c))
  | _ => none

theorem meets53 : Meets Try.prog 53 (pureS (pU8 isLetter)) := by
  refine meets_of_tri (show Try.prog.funcs[53]? = some Try.f53 by kernel_rfl) rfl (n := 21) rfl (rs := [ResultVar.tmp 2]) rfl ?_
  rintro args objs Q ⟨rfl, d, hd, hQ⟩
  unfold pU8 at hd
  split at hd
  · rename_i c
    cases hd
    refine seq_run ok0 rfl (by repeat (first | with_reducible exact runf_nil | refine runf_cons (by simp only [xstep, stepf, stepx, qev, St.ev, St.put, constD, constC, Z5, Z6, List.replicate, Z9, Z10, Z23, Z12, Z13, Z4, Nat.reduceSub, Z3, Z14]; rfl) ?_)) ?_
    by_cases h1 : 97 ≤ c
    · by_cases h2 : c ≤ 122
      · refine seq_run ok0 rfl (by repeat (first | with_reducible exact runf_nil | refine runf_cons (by simp only [xstep, stepf, stepx, qev, St.ev, St.put, qpick, qint, qshift, isEq, qeq, isShift, qbin, constD, constC, Z1, Z2, Z5, Z6, Z8, Z4, Z11, if_true, if_false, decide_true, cond_true, Z22, Z3, reduceCtorEq, Z7, tk5, eq_true h1, eq_true h2]; rfl) ?_)) ?_
        refine tri_ret (ends_ret (by simp only [outRes, resDs, resD, outD, outC, C.dat, Z1, Z2, Z4, if_true, Z3]; rfl) rfl .nil (by simp) ?_)
        simpa [isLetter, h1, h2, dB] using hQ
      · refine seq_run ok0 rfl (by repeat (first | with_reducible exact runf_nil | refine runf_cons (by simp only [xstep, stepf, stepx, qev, St.ev, St.put, qpick, qint, qshift, isShift, qbin, constD, constC, Z1, Z2, Z5, Z6, Z8, Z4, Z11, if_true, if_false, decide_true, decide_false, cond_true, cond_false, Z22, Z3, Z7, eq_true h1, eq_false h2, show (65 ≤ c) = True from eq_true (by omega), show (c ≤ 90) = False from eq_false (by omega), show (c = 95) = False from eq_false (by omega)]; rfl) ?_)) ?_
        refine tri_ret (ends_ret (by simp only [outRes, resDs, resD, outD, outC, C.dat, Z1, Z2, Z4, if_true, Z3]; rfl) rfl .nil (by simp) ?_)
        simpa [isLetter, h1, h2, show ¬ c ≤ 90 by omega, show ¬ c = 95 by omega, dB] using hQ
    · by_cases h3 : 65 ≤ c
      · by_cases h4 : c ≤ 90
        · refine seq_run ok0 rfl (by repeat (first | with_reducible exact runf_nil | refine runf_cons (by simp only [xstep, stepf, stepx, qev, St.ev, St.put, qpick, qint, qshift, isEq, qeq, isShift, qbin, constD, constC, Z1, Z2, Z5, Z6, Z8, Z4, Z11, if_true, if_false, decide_true, decide_false, cond_true, cond_false, Z22, Z3, reduceCtorEq, Z7, tk5, eq_false h1, eq_true h3, eq_true h4]; rfl) ?_)) ?_
          refine tri_ret (ends_ret (by simp only [outRes, resDs, resD, outD, outC, C.dat, Z1, Z2, Z4, if_true, Z3]; rfl) rfl .nil (by simp) ?_)
          simpa [isLetter, h3, h4, dB] using hQ
        · refine seq_run ok0 rfl (by repeat (first | with_reducible exact runf_nil | refine runf_cons (by simp only [xstep, stepf, stepx, qev, St.ev, St.put, qpick, qint, qshift, isEq, isShift, qbin, constD, constC, Z1, Z2, Z5, Z6, Z8, Z4, Z11, if_true, if_false, decide_true, decide_false, cond_true, cond_false, Z22, Z3, Z7, eq_false h1, eq_true h3, eq_false h4]; rfl) ?_)) ?_
          refine tri_ret (ends_ret (by simp only [outRes, resDs, resD, outD, outC, C.dat, Z1, Z2, Z4, if_true, Z3]; rfl) rfl .nil (by simp) ?_)
          simpa [isLetter, h1, h4, dB] using hQ
      · refine seq_run ok0 rfl (by repeat (first | with_reducible exact runf_nil | refine runf_cons (by simp only [xstep, stepf, stepx, qev, St.ev, St.put, qpick, qint, qshift, isEq, isShift, qbin, constD, constC, Z1, Z2, Z5, Z6, Z8, Z4, Z11, if_true, if_false, decide_false, cond_false, Z22, Z3, Z7, eq_false h1, eq_false h3]; rfl) ?_)) ?_
        refine tri_ret (ends_ret (by simp only [outRes, resDs, resD, outD, outC, C.dat, Z1, Z2, Z4, if_true, Z3]; rfl) rfl .nil (by simp) ?_)
        simpa [isLetter, h1, h3, dB] using hQ
  · cases hd

theorem meets56 : Meets Try.prog 56 (pureS (pU8 isDigit)) := by
  refine meets_of_tri (show Try.prog.funcs[56]? = some Try.f56 by kernel_rfl) rfl (n := 9) rfl (rs := [ResultVar.tmp 2]) rfl ?_
  rintro args objs Q ⟨rfl, d, hd, hQ⟩
  unfold pU8 at hd
  split at hd
  · rename_i c
    cases hd
    refine seq_run ok0 rfl (by repeat (first | with_reducible exact runf_nil | refine runf_cons (by simp only [xstep, stepf, stepx, qev, St.ev, St.put, constD, constC, Z5, Z6, List.replicate, Z9, Z10, Z23, Z12, Z13, Z4, Nat.reduceSub, Z3, Z14]; rfl) ?_)) ?_
    by_cases h1 : 48 ≤ c
    · refine seq_run ok0 rfl (by repeat (first | with_reducible exact runf_nil | refine runf_cons (by simp only [xstep, stepf, stepx, qev, St.ev, St.put, qpick, qint, qshift, isShift, qbin, constD, constC, Z1, Z2, Z5, Z6, Z8, Z4, Z11, if_true, if_false, decide_true, cond_true, Z22, Z3, Z7, eq_true h1]; rfl) ?_)) ?_
      refine tri_ret (ends_ret (by simp only [outRes, resDs, resD, outD, outC, C.dat, Z1, Z2, Z4, if_true, Z3]; rfl) rfl .nil (by simp) ?_)
      simpa [isDigit, h1, dB] using hQ
    · refine seq_run ok0 rfl (by repeat (first | with_reducible exact runf_nil | refine runf_cons (by simp only [xstep, stepf, stepx, qev, St.ev, St.put, qpick, qint, qshift, isEq, isShift, qbin, constD, constC, Z1, Z2, Z5, Z6, Z8, Z4, Z11, if_true, if_false, decide_false, cond_false, Z22, Z3, Z7, eq_false h1]; rfl) ?_)) ?_
      refine tri_ret (ends_ret (by simp only [outRes, resDs, resD, outD, outC, C.dat, Z1, Z2, Z4, if_true, Z3]; rfl) rfl .nil (by simp) ?_)
      simpa [isDigit, h1, dB] using hQ
  · cases hd

def FsL1 : Fs := { Fs.none with pure := fun k => if k = 53 then some (pU8 isLetter) else if k = 56 then some (pU8 isDigit) else none }
theorem okL1 : FsOK Try.prog FsL1 := by
  refine ⟨fun k f h => ?_, fun _ _ h => (by cases h)⟩
  simp only [FsL1] at h
  split at h
  · rename_i hk; subst hk; cases h; exact ⟨by kernel_rfl, meets53⟩
  split at h
  · rename_i hk; subst hk; cases h; exact ⟨by kernel_rfl, meets56⟩
  · cases h

theorem meets55 : Meets Try.prog 55 (pureS (pU8 isWordC)) := by
  refine meets_of_tri (show Try.prog.funcs[55]? = some Try.f55 by kernel_rfl) rfl (n := 9) rfl (rs := [ResultVar.tmp 2]) rfl ?_
  rintro args objs Q ⟨rfl, d, hd, hQ⟩
  unfold pU8 at hd
  split at hd
  · rename_i c
    cases hd
    have hl : pU8 isLetter [.c (.v (.int .u8 c))] = some (dB (isLetter c)) := rfl
    have hd : pU8 isDigit [.c (.v (.int .u8 c))] = some (dB (isDigit c)) := rfl
    refine seq_run ok0 rfl (by repeat (first | with_reducible exact runf_nil | refine runf_cons (by simp only [xstep, stepf, stepx, qev, St.ev, St.put, constD, constC, Z5, Z6, List.replicate, Z9, Z10, Z23, Z12, Z13, Z4, Nat.reduceSub, Z3, Z14]; rfl) ?_)) ?_
    cases h : isLetter c with
    | true =>
      rw [h] at hl
      refine seq_run okL1 rfl (by repeat (first | with_reducible exact runf_nil | refine runf_cons (by simp only [xstep, stepf, stepx, evsA, qev, St.ev, St.put, St.with, C.cpy, qpick, C.cp, C.dat, constD, constC, Z1, Z2, Z5, Z6, Z15, Z13, Z8, Z4, Z11, Nat.reduceEqDiff, if_true, if_false, cond_true, Z22, Z3, reduceCtorEq, Z26, Bool.or_true, dB, callP, callO, Fs.none, argDs, argD, argC, D.ni, D.ni1, C.ni, settle, settle1, settleC, Z25, FsL1, hl]; rfl) ?_)) ?_
      refine tri_ret (ends_ret (by simp only [outRes, resDs, resD, outD, outC, C.dat, Z1, Z2, Z4, if_true, Z3]; rfl) rfl .nil (by simp) ?_)
      simpa [isWordC, h, dB] using hQ
    | false =>
      rw [h] at hl
      refine seq_run okL1 rfl (by repeat (first | with_reducible exact runf_nil | refine runf_cons (by simp only [xstep, stepf, stepx, evsA, qev, St.ev, St.put, St.with, C.cpy, qpick, C.cp, C.dat, constD, constC, Z1, Z2, Z5, Z6, Z15, Z13, Z8, Z4, Nat.reduceEqDiff, if_true, if_false, cond_false, Z22, Z3, Z26, Bool.or_true, dB, callP, Fs.none, argDs, argD, argC, D.ni, D.ni1, C.ni, settle, settle1, settleC, Z25, FsL1, hl, hd]; rfl) ?_)) ?_
      refine tri_ret (ends_ret (by simp only [outRes, resDs, resD, outD, outC, C.dat, Z1, Z2, Z4, if_true, Z3]; rfl) rfl .nil (by simp) ?_)
      simpa [isWordC, h, dB] using hQ
  · cases hd

theorem meets71 : Meets Try.prog 71 (pureS (pU8 notNL)) := by
  refine meets_of_tri (show Try.prog.funcs[71]? = some Try.f71 by kernel_rfl) rfl (n := 5) rfl (rs := [ResultVar.tmp 2]) rfl ?_
  rintro args objs Q ⟨rfl, d, hd, hQ⟩
  unfold pU8 at hd
  split at hd
  · rename_i c
    cases hd
    refine seq_run ok0 rfl (by repeat (first | with_reducible exact runf_nil | refine runf_cons (by simp only [xstep, stepf, stepx, qev, St.ev, St.put, constD, constC, Z5, Z6, List.replicate, Z9, Z10, Z23, Z12, Z13, Z4, Nat.reduceSub, Z3, Z14]; rfl) ?_)) ?_
    refine seq_run ok0 rfl (by repeat (first | with_reducible exact runf_nil | refine runf_cons (by simp only [xstep, stepf, stepx, qev, St.ev, St.put, qint, qshift, isShift, qbin, constD, constC, Z1, Z2, Z5, Z6, Z4, Z11, if_true, if_false, Z3, Z7]; rfl) ?_)) ?_
    refine tri_ret (ends_ret (by simp only [outRes, resDs, resD, outD, outC, C.dat, Z1, Z2, Z4, if_true, Z3]; rfl) rfl .nil (by simp) ?_)
    simpa [notNL, dB] using hQ
  · cases hd

end Go.Dl

namespace Go.Dl
open Go.RowKit
open Go.Proofs
set_option linter.unusedSimpArgs false
set_option linter.unusedVariables false

def idxB (s : ByteArray) (c : Int) : Int := Lib.indexByte s.data.toList c.toNat.toUInt8

theorem run_idx (s : ByteArray) (c : Int) (w : World) : (callFunc 83 #[.string s, .int .u8 c]).run Try.prog w = .ok (.value (.int .i64 (idxB s c))) w := by
  rw [run_callFunc_extern (fn := Try.f83) (by kernel_rfl) (by kernel_rfl) (by kernel_rfl) (by kernel_rfl) (e := Extern.BytealgIndexByte.indexByte) (by kernel_rfl), Lib.run_indexByteString]
  rfl

theorem indexByte_range : ∀ (l : List UInt8) (c : UInt8), -1 ≤ Lib.indexByte l c ∧ Lib.indexByte l c < l.length + 1
  | [], c => by simp [Lib.indexByte]
  | b :: l, c => by
    have := indexByte_range l c
    simp only [Lib.indexByte, List.length_cons]
    split
    · omega
    · split
      · omega
      · omega

theorem exec_ext2 {P : Program} {w w' : World} {o : Oper} {c : Call} {k : FuncId} {x y : Operand} {e : Operand → Value} {v u v' : Value} (ho : o.op = .call c) (hc : c.callee = .value (.func k)) (ha : c.args = #[x, y])
    (hf : e (.func k) = .func (.func k) #[] #[]) (hx : e x = v) (hy : e y = u) (h : (callFunc k #[v, u]).run P w = .ok (.value v') w') : (execOp e o).run P w = .ok (.value v') w' := by
  simp only [execOp, ho, Sem.run_bind, resolve, hc, Deferred.ofValue, hf, Sem.run_pure, Result.andThen_ok]
  have harr : (#[] ++ c.args.map e ++ #[] : Array Value) = #[v, u] := by rw [ha]; simp [hx, hy]
  simp only [invoke]
  rw [harr]
  exact h

def pIdxB : List D → Option D
  | [.c (.v (.string s)), .c (.v (.int .u8 c))] => if s.size ≤ 1000000 then some (dI (idxB s c)) else none
  | _ => none

theorem meets73 : Meets Try.prog 73 (pureS pIdxB) := by
  refine meets_of_tri (show Try.prog.funcs[73]? = some Try.f73 by kernel_rfl) rfl (n := 8) rfl (rs := [ResultVar.tmp 4]) rfl ?_
  rintro args objs Q ⟨rfl, d, hd, hQ⟩
  unfold pIdxB at hd
  split at hd
  · rename_i s c
    split at hd
    · rename_i hs
      cases hd
      refine seq_run ok0 rfl (by repeat (first | with_reducible exact runf_nil | refine runf_cons (by simp only [xstep, stepf, stepx, qev, St.ev, St.put, constD, constC, List.set_cons_zero, List.set_cons_succ, List.replicate, List.length_cons, List.length_nil, List.cons_append, List.nil_append, List.map_nil, Option.map_some, Nat.reduceAdd, Nat.reduceSub, Option.some.injEq, Nat.zero_add]; rfl) ?_)) ?_
      refine seq_runR ?_
      refine rr_det ok0 rfl (by simp only [xstep, stepf, stepx, qev, St.ev, St.put, List.getElem?_cons_zero, List.set_cons_zero, List.set_cons_succ, Option.map_some, Option.some.injEq]; rfl) ?_
      refine rr_det ok0 rfl (by simp only [xstep, stepf, stepx, qev, St.ev, St.put, List.getElem?_cons_zero, List.getElem?_cons_succ, List.set_cons_zero, List.set_cons_succ, Option.map_some, Option.some.injEq]; rfl) ?_
      refine rr_gen (T := fun v => v = .int .i64 (idxB s c)) rfl rfl ?_ ?_
      · intro e w S E he hc hf
        have h5 := sc_of (he (.tmp 5) (by simp [Op.operands, Call.operands]) _ rfl)
        have h6 := sc_of (he (.tmp 6) (by simp [Op.operands, Call.operands]) _ rfl)
        refine ⟨_, w, exec_ext2 rfl rfl rfl (hf _) h5 h6 (run_idx s c w), .inl rfl, ?_, rfl⟩
        have hr := indexByte_range s.data.toList c.toNat.toUInt8
        have hl : s.data.toList.length = s.size := B_length s
        show (decide (-9223372036854775808 ≤ Lib.indexByte s.data.toList c.toNat.toUInt8) && decide (Lib.indexByte s.data.toList c.toNat.toUInt8 ≤ 9223372036854775807)) = true
        rw [Bool.and_eq_true, decide_eq_true_eq, decide_eq_true_eq]
        omega
      rintro _ rfl
      refine rr_det ok0 rfl (by simp only [xstep, stepf, stepx, qev, St.ev, St.put, List.getElem?_cons_zero, List.getElem?_cons_succ, List.set_cons_zero, List.set_cons_succ, Option.map_some, Option.some.injEq]; rfl) (rr_nil ?_)
      refine tri_ret (ends_ret (by simp only [outRes, resDs, resD, outD, outC, C.dat, List.getElem?_cons_zero, List.getElem?_cons_succ, Option.map_some, if_true, Option.some.injEq]; rfl) rfl (by simp) (by simp) ?_)
      exact hQ
    · cases hd
  · cases hd

def FsL2 : Fs := { Fs.none with pure := fun k => if k = 73 then some pIdxB else none }
theorem okL2 : FsOK Try.prog FsL2 := by
  refine ⟨fun k f h => ?_, fun _ _ h => (by cases h)⟩
  simp only [FsL2] at h
  split at h
  · rename_i hk; subst hk; cases h; exact ⟨by kernel_rfl, meets73⟩
  · cases h

theorem meets58 : Meets Try.prog 58 (pureS pIdxB) := by
  refine meets_of_tri (show Try.prog.funcs[58]? = some Try.f58 by kernel_rfl) rfl (n := 8) rfl (rs := [ResultVar.tmp 4]) rfl ?_
  rintro args objs Q ⟨rfl, d, hd, hQ⟩
  unfold pIdxB at hd
  split at hd
  · rename_i s c
    split at hd
    · rename_i hs
      cases hd
      have hI : pIdxB [.c (.v (.string s)), .c (.v (.int .u8 c))] = some (dI (idxB s c)) := if_pos hs
      refine seq_run ok0 rfl (by repeat (first | with_reducible exact runf_nil | refine runf_cons (by simp only [xstep, stepf, stepx, qev, St.ev, St.put, constD, constC, List.set_cons_zero, List.set_cons_succ, List.replicate, List.length_cons, List.length_nil, List.cons_append, List.nil_append, List.map_nil, Option.map_some, Nat.reduceAdd, Nat.reduceSub, Option.some.injEq, Nat.zero_add]; rfl) ?_)) ?_
      refine seq_run okL2 rfl (by repeat (first | with_reducible exact runf_nil | refine runf_cons (by simp only [xstep, stepf, stepx, evsA, qev, St.ev, St.put, St.with, C.cpy, C.cp, C.dat, List.getElem?_cons_zero, List.getElem?_cons_succ, List.set_cons_zero, List.set_cons_succ, List.append_nil, List.map_nil, Option.map_some, if_true, Option.some.injEq, Bool.and_self, Bool.or_true, dI, callP, Fs.none, argDs, argD, argC, D.ni, D.ni1, C.ni, settle, settle1, settleC, List.isEmpty_nil, FsL2, hI]; rfl) ?_)) ?_
      refine tri_ret (ends_ret (by simp only [outRes, resDs, resD, outD, outC, C.dat, List.getElem?_cons_zero, List.getElem?_cons_succ, Option.map_some, if_true, Option.some.injEq]; rfl) rfl (by simp) (by simp) ?_)
      exact hQ
    · cases hd
  · cases hd

end Go.Dl

namespace Go.Dl
open Go.RowKit
open Go.Proofs
set_option linter.unusedSimpArgs false
set_option linter.unusedVariables false

/-- A text's byte. -/
def byt (s : ByteArray) (p : Nat) : Int := (((s.data.toList.getD p 0).toNat : Nat) : Int)

def lxObj (s : ByteArray) (p : Nat) : Obj := ⟨2, [[.v (.string s), .v (.int .i64 p)]]⟩

/-- How far something holds. -/
def runN (f : Int → Bool) : Nat → ByteArray → Nat → Nat
  | 0, _, p => p
  | n + 1, s, p => if p < s.size ∧ f (byt s p) = true then runN f n s (p + 1) else p
theorem runN_le (f : Int → Bool) : ∀ (n : Nat) (s : ByteArray) (p : Nat), p ≤ s.size → p ≤ runN f n s p ∧ runN f n s p ≤ s.size
  | 0, s, p, h => ⟨Nat.le_refl _, h⟩
  | n + 1, s, p, h => by
    simp only [runN]
    split
    · rename_i hc
      have := runN_le f n s (p + 1) hc.1
      omega
    · exact ⟨Nat.le_refl _, h⟩
def runF (f : Int → Bool) (s : ByteArray) (p : Nat) : Nat := runN f (s.size + 1) s p
theorem runF_le (f : Int → Bool) (s : ByteArray) (p : Nat) (h : p ≤ s.size) : p ≤ runF f s p ∧ runF f s p ≤ s.size := runN_le f _ s p h

def predK (k : Nat) : Option (Int → Bool) := if k = 55 then some isWordC else if k = 56 then some isDigit else if k = 71 then some notNL else none
def FsL3 : Fs := { Fs.none with pure := fun k => (predK k).map pU8 }
theorem okL3 : FsOK Try.prog FsL3 := by
  refine ⟨fun k f h => ?_, fun _ _ h => (by cases h)⟩
  simp only [FsL3, predK] at h
  split at h
  · rename_i hk; subst hk; cases h; exact ⟨by kernel_rfl, meets55⟩
  split at h
  · rename_i hk; subst hk; cases h; exact ⟨by kernel_rfl, meets56⟩
  split at h
  · rename_i hk; subst hk; cases h; exact ⟨by kernel_rfl, meets71⟩
  · cases h

/-- run. -/
def oRun : List D → List Obj → Option (D × List Obj)
  | [.c (.p 0 0 0), .c (.f k [])], [⟨2, [[.v (.string s), .v (.int .i64 (.ofNat p))]]⟩] => (predK k).bind fun f => if s.size ≤ 1000000 ∧ p ≤ s.size then
      some (.c (.v (.string (s.extract p (runF f s p)))), [lxObj s (runF f s p)]) else none
  | _, _ => none

theorem meets54 : Meets Try.prog 54 (detS oRun) := by
  refine meets_of_tri (show Try.prog.funcs[54]? = some Try.f54 by kernel_rfl) rfl (n := 50) rfl (rs := [ResultVar.tmp 4]) rfl ?_
  rintro args objs Q ⟨d, os, hd, hQ⟩
  unfold oRun at hd
  split at hd
  · rename_i k s p
    cases hk : predK k with
    | none => rw [hk] at hd; cases hd
    | some f =>
      rw [hk] at hd
      simp only [Z8] at hd
      split at hd
      · rename_i hc
        obtain ⟨hs, hp⟩ := hc
        cases hd
        have hFs : FsL3.pure k = some (pU8 f) := by simp only [FsL3, hk, Z4]
        obtain ⟨g1, g2⟩ := runF_le f s p hp
        generalize hr : runF f s p = r at g1 g2 hQ
        refine seq_run ok0 rfl (by repeat (first | with_reducible exact runf_nil | refine runf_cons (by simp only [xstep, stepf, stepx, qev, St.ev, St.put, constD, constC, Z5, Z6, List.replicate, Z9, Z10, Z23, Z12, Z13, Z24, Z4, Nat.reduceAdd, Nat.reduceSub, Z3, Z14]; rfl) ?_)) ?_
        refine seq_run ok0 rfl (by repeat (first | with_reducible exact runf_nil | refine runf_cons (by simp only [xstep, stepf, stepx, qev, St.ev, St.put, qload, cellsAt, qmk, C.cpy, TK.agg, qnil, qfieldAddr, liveR, C.cp, Z1, Z2, Z5, Z6, Z9, Z10, Z13, Z24, Z16, Z18, Z17, Z20, Z19, Z21, Z8, Z4, if_true, if_false, and_self, Z3, reduceCtorEq, Z7, Z14, Z26, tk3, tsz3, tk61, Int.ofNat_eq_natCast]; rfl) ?_)) ?_
        refine seq_in (tri_block ?_)
        refine tri_loop_le (fun n A => ∃ (q fu : Nat), q ≤ s.size ∧ n = s.size - q ∧ s.size - q < fu ∧ runN f fu s q = r ∧
            A = ⟨[.c (.p 0 0 0), .c (.f k []), .top, .top, .top, dI p, .top, .top, .top, .top, .top, .top, .top, .top, .top, .top, .top, .top, .top, .top, .top, .top, .top, .top, .top, .top, .top, .top, .top, .top, .top, .top, .top, .top, .top, .top, .top, .top, .top, .top, .top, .top, .top, .top, .top, .top, .top, .top, .top, .top], [some ⟨false, 2, [[.v (.string s), .v (.int .i64 q)]]⟩]⟩) (s.size - p)
          (B := ⟨[.c (.p 0 0 0), .c (.f k []), .top, .top, .top, dI p, .top, .top, .top, .top, .top, .top, .top, .top, .top, .top, .top, .top, .top, .top, .top, .top, .top, .top, .top, .top, .top, .top, .top, .top, .top, .top, .top, .top, .top, .top, .top, .top, .top, .top, .top, .top, .top, .top, .top, .top, .top, .top, .top, .top], [some ⟨false, 2, [[.v (.string s), .v (.int .i64 p)]]⟩]⟩)
          ⟨by repeat (first | exact .nil | refine .same ?_ | refine .top ?_), rfl⟩ ⟨p, s.size + 1, hp, rfl, by omega, hr, rfl⟩ ?_
        rintro n A ⟨q, fu, hq, rfl, hfu, hru, rfl⟩
        obtain ⟨fu, rfl⟩ : ∃ m, fu = m + 1 := ⟨fu - 1, by omega⟩
        simp only [runN] at hru
        by_cases hqs : q < s.size
        · have hU : pU8 f [.c (.v (.int .u8 (byt s q)))] = some (dB (f (byt s q))) := rfl
          simp only [byt] at hU
          cases hf : f (byt s q) with
          | true =>
            rw [if_pos ⟨hqs, hf⟩] at hru
            simp only [byt] at hf
            rw [hf] at hU
            refine seq_in (seq_any mixed okL3 rfl (by kernel_rfl) (by repeat (first | with_reducible exact runf_nil | refine runf_cons (by simp only [xstep, stepf, stepx, evsA, qev, St.ev, St.put, St.with, D.int, qload, cellsAt, qmk, C.cpy, TK.agg, qnil, qfieldAddr, qindex, qpick, qint, qshift, isShift, qbin, qlen, qbuiltin, liveR, C.cp, C.dat, constD, constC, Z1, Z2, Z5, Z6, Z9, Z10, Z15, Z13, Z24, Z16, Z18, Z17, Z20, Z19, Z21, Z8, Z4, Z11, if_true, if_false, and_self, decide_true, cond_true, Z22, Z3, reduceCtorEq, Z7, Nat.add_zero, Z14, Z26, Bool.true_or, dI, dB, tk3, tsz3, tk9, tsz9, tk61, Int.toNat_natCast, Int.natCast_nonneg, callP, argDs, argD, argC, settle, settle1, settleC, Z25, hFs, hU, show ((q : Int) < (s.size : Int)) = True from eq_true (by omega)]; rfl) ?_)) ?_)
            refine tri_cond rfl (fun _ => then_skip ?_) (fun h => by cases h)
            refine tri_block ?_
            refine run_end ok0 rfl (by repeat (first | with_reducible exact runf_nil | refine runf_cons (by simp only [xstep, stepf, stepx, qev, St.ev, St.put, D.cells, qload, cellsAt, qmk, C.cpy, TK.agg, qnil, qfieldAddr, qint, qshift, isShift, qbin, liveR, C.st, C.cp, C.dat, storeA, putCells, constD, constC, Z1, Z2, Z5, Z6, Z9, Z10, Z23, Z12, Z15, Z13, Z24, Z16, Z18, Z17, Z20, Z19, Z21, Z8, Z4, Z11, Nat.reduceAdd, if_true, if_false, and_self, Z3, ne_eq, not_false_eq_true, reduceCtorEq, Nat.le_refl, Z7, implies_true, Z14, Z26, tk3, tsz3, tk61, wrap_succ q s.size hqs (by unfold maxStr; omega)]; rfl) ?_)) ?_
            exact ⟨s.size - (q + 1), by omega, ⟨[.c (.p 0 0 0), .c (.f k []), .top, .top, .top, dI p, .top, .top, .top, .top, .top, .top, .top, .top, .top, .top, .top, .top, .top, .top, .top, .top, .top, .top, .top, .top, .top, .top, .top, .top, .top, .top, .top, .top, .top, .top, .top, .top, .top, .top, .top, .top, .top, .top, .top, .top, .top, .top, .top, .top], [some ⟨false, 2, [[.v (.string s), .v (.int .i64 (q + 1 : Nat))]]⟩]⟩, ⟨by repeat (first | exact .nil | refine .same ?_ | refine .top ?_), rfl⟩, q + 1, fu, hqs, rfl, by omega, hru, rfl⟩
          | false =>
            rw [if_neg (by rw [hf]; simp)] at hru
            subst hru
            simp only [byt] at hf
            rw [hf] at hU
            refine seq_in (seq_any mixed okL3 rfl (by kernel_rfl) (by repeat (first | with_reducible exact runf_nil | refine runf_cons (by simp only [xstep, stepf, stepx, evsA, qev, St.ev, St.put, St.with, D.int, qload, cellsAt, qmk, C.cpy, TK.agg, qnil, qfieldAddr, qindex, qpick, qint, qshift, isShift, qbin, qlen, qbuiltin, liveR, C.cp, C.dat, constD, constC, Z1, Z2, Z5, Z6, Z9, Z10, Z15, Z13, Z24, Z16, Z18, Z17, Z20, Z19, Z21, Z8, Z4, Z11, if_true, if_false, and_self, decide_true, cond_true, Z22, Z3, reduceCtorEq, Z7, Nat.add_zero, Z14, Z26, Bool.true_or, dI, dB, tk3, tsz3, tk9, tsz9, tk61, Int.toNat_natCast, Int.natCast_nonneg, callP, argDs, argD, argC, settle, settle1, settleC, Z25, hFs, hU, show ((q : Int) < (s.size : Int)) = True from eq_true (by omega)]; rfl) ?_)) ?_)
            refine tri_cond rfl (fun h => by cases h) (fun _ => tri_exit ?_)
            show Tri _ _ _ _
            refine seq_any mixed ok0 rfl (by kernel_rfl) (by repeat (first | with_reducible exact runf_nil | refine runf_cons (by simp only [xstep, stepf, stepx, qev, St.ev, St.put, D.int, qload, cellsAt, qmk, C.cpy, TK.agg, qnil, qfieldAddr, qbounds, qslice, omap, liveR, C.cp, Z1, Z2, Z5, Z6, Z9, Z10, Z13, Z24, Z16, Z18, Z17, Z20, Z19, Z21, Z8, Z4, if_true, if_false, and_self, Z3, reduceCtorEq, Z7, Nat.add_zero, Z14, Z26, tk3, tsz3, tk9, tsz9, tk61, qbounds, D.int, Int.toNat_natCast, Int.natCast_nonneg, show ((p : Int) ≤ (q : Int)) = True from eq_true (by omega), show ((q : Int) ≤ (s.size : Int)) = True from eq_true (by omega)]; rfl) ?_)) ?_
            refine tri_ret (ends_ret (by simp only [outRes, resDs, resD, outD, outC, C.dat, Z1, Z2, Z4, if_true, Z3]; rfl) rfl .nil (by simp) ?_)
            exact hQ
        · rw [if_neg (fun h => hqs h.1)] at hru
          subst hru
          refine seq_in (seq_any mixed okL3 rfl (by kernel_rfl) (by repeat (first | with_reducible exact runf_nil | refine runf_cons (by simp only [xstep, stepf, stepx, qev, St.ev, St.put, D.int, qload, cellsAt, qmk, C.cpy, TK.agg, qnil, qfieldAddr, qpick, qint, qshift, isShift, qbin, qlen, qbuiltin, liveR, C.cp, constD, constC, Z1, Z2, Z5, Z6, Z9, Z10, Z13, Z24, Z16, Z18, Z17, Z20, Z19, Z21, Z8, Option.bind_none, Z4, Z11, if_true, if_false, and_self, decide_false, cond_false, Z22, Z3, reduceCtorEq, Z7, Nat.add_zero, Z14, Z26, dI, tk3, tsz3, tk9, tsz9, tk61, callP, callO, show ((q : Int) < (s.size : Int)) = False from eq_false (by omega)]; rfl) ?_)) ?_)
          refine tri_cond rfl (fun h => by cases h) (fun _ => tri_exit ?_)
          show Tri _ _ _ _
          refine seq_any mixed ok0 rfl (by kernel_rfl) (by repeat (first | with_reducible exact runf_nil | refine runf_cons (by simp only [xstep, stepf, stepx, qev, St.ev, St.put, D.int, qload, cellsAt, qmk, C.cpy, TK.agg, qnil, qfieldAddr, qbounds, qslice, omap, liveR, C.cp, Z1, Z2, Z5, Z6, Z9, Z10, Z13, Z24, Z16, Z18, Z17, Z20, Z19, Z21, Z8, Z4, if_true, if_false, and_self, Z3, reduceCtorEq, Z7, Nat.add_zero, Z14, Z26, tk3, tsz3, tk9, tsz9, tk61, qbounds, D.int, Int.toNat_natCast, Int.natCast_nonneg, show ((p : Int) ≤ (q : Int)) = True from eq_true (by omega), show ((q : Int) ≤ (s.size : Int)) = True from eq_true (by omega)]; rfl) ?_)) ?_
          refine tri_ret (ends_ret (by simp only [outRes, resDs, resD, outD, outC, C.dat, Z1, Z2, Z4, if_true, Z3]; rfl) rfl .nil (by simp) ?_)
          exact hQ
      · cases hd
  · cases hd

end Go.Dl

namespace Go.Dl
open Go.RowKit
open Go.Proofs
set_option linter.unusedSimpArgs false
set_option linter.unusedVariables false

def isBlank (c : Int) : Bool := decide (c = 32) || decide (c = 10) || decide (c = 9)
def blkN : Nat → ByteArray → Nat → Nat
  | 0, _, p => p
  | n + 1, s, p => if p < s.size then (if isBlank (byt s p) = true then blkN n s (p + 1) else if byt s p = 35 then blkN n s (runF notNL s p) else p) else p
def blkF (s : ByteArray) (p : Nat) : Nat := blkN (s.size + 1) s p

theorem runF_gt {f : Int → Bool} {s : ByteArray} {p : Nat} (hp : p < s.size) (hf : f (byt s p) = true) : p < runF f s p := by
  unfold runF
  simp only [runN]
  rw [if_pos ⟨hp, hf⟩]
  exact (runN_le f s.size s (p + 1) hp).1

theorem blkN_le : ∀ (n : Nat) (s : ByteArray) (p : Nat), p ≤ s.size → p ≤ blkN n s p ∧ blkN n s p ≤ s.size
  | 0, s, p, h => ⟨Nat.le_refl _, h⟩
  | n + 1, s, p, h => by
    simp only [blkN]
    split
    · rename_i hp
      split
      · have := blkN_le n s (p + 1) hp; omega
      · split
        · have h1 := runF_le notNL s p h
          have := blkN_le n s (runF notNL s p) h1.2; omega
        · exact ⟨Nat.le_refl _, h⟩
    · exact ⟨Nat.le_refl _, h⟩
theorem blkF_le (s : ByteArray) (p : Nat) (h : p ≤ s.size) : p ≤ blkF s p ∧ blkF s p ≤ s.size := blkN_le _ s p h

def oBlk : List D → List Obj → Option (D × List Obj)
  | [.c (.p 0 0 0)], [⟨2, [[.v (.string s), .v (.int .i64 (.ofNat p))]]⟩] => if s.size ≤ 1000000 ∧ p ≤ s.size then some (.t [], [lxObj s (blkF s p)]) else none
  | _, _ => none

def FsL4 : Fs := { Fs.none with objs := fun k => if k = 54 then some oRun else none }
theorem okL4 : FsOK Try.prog FsL4 := by
  refine ⟨fun _ _ h => (by cases h), fun k f h => ?_⟩
  simp only [FsL4] at h
  split at h
  · rename_i hk; subst hk; cases h; exact ⟨by kernel_rfl, meets54⟩
  · cases h

theorem meets52 : Meets Try.prog 52 (detS oBlk) := by
  refine meets_of_tri (show Try.prog.funcs[52]? = some Try.f52 by kernel_rfl) rfl (n := 45) rfl (rs := []) rfl ?_
  rintro args objs Q ⟨d, os, hd, hQ⟩
  unfold oBlk at hd
  split at hd
  · rename_i s p
    split at hd
    · rename_i hc
      obtain ⟨hs, hp⟩ := hc
      cases hd
      show Tri _ _ _ _
      refine tri_block ?_
      refine tri_loop_le (fun n A => ∃ (q fu : Nat), q ≤ s.size ∧ n = s.size - q ∧ s.size - q < fu ∧ blkN fu s q = blkF s p ∧
          A = ⟨[.c (.p 0 0 0), .top, .top, .top, .top, .top, .top, .top, .top, .top, .top, .top, .top, .top, .top, .top, .top, .top, .top, .top, .top, .top, .top, .top, .top, .top, .top, .top, .top, .top, .top, .top, .top, .top, .top, .top, .top, .top, .top, .top, .top, .top, .top, .top, .top], [some ⟨false, 2, [[.v (.string s), .v (.int .i64 q)]]⟩]⟩) (s.size - p)
        (B := ⟨[.c (.p 0 0 0), .top, .top, .top, .top, .top, .top, .top, .top, .top, .top, .top, .top, .top, .top, .top, .top, .top, .top, .top, .top, .top, .top, .top, .top, .top, .top, .top, .top, .top, .top, .top, .top, .top, .top, .top, .top, .top, .top, .top, .top, .top, .top, .top, .top], [some ⟨false, 2, [[.v (.string s), .v (.int .i64 p)]]⟩]⟩)
        ⟨by repeat (first | exact .nil | refine .same ?_ | refine .top ?_), rfl⟩ ⟨p, s.size + 1, hp, rfl, by omega, rfl, rfl⟩ ?_
      rintro n A ⟨q, fu, hq, rfl, hfu, hbl, rfl⟩
      obtain ⟨fu, rfl⟩ : ∃ m, fu = m + 1 := ⟨fu - 1, by omega⟩
      simp only [blkN] at hbl
      by_cases hqs : q < s.size
      · rw [if_pos hqs] at hbl
        have hlt : ((q : Int) < (s.size : Int)) = True := eq_true (by omega)
        have hw := wrap_succ q s.size hqs (by unfold maxStr; omega)
        refine seq_in (seq_any mixed ok0 rfl (by kernel_rfl) (by repeat (first | with_reducible exact runf_nil | refine runf_cons (by simp only [xstep, stepf, stepx, qev, St.ev, St.put, qload, cellsAt, qmk, C.cpy, TK.agg, qnil, qfieldAddr, qint, qshift, isShift, qbin, qlen, qbuiltin, liveR, C.cp, Z1, Z2, Z5, Z6, Z9, Z10, Z13, Z24, Z16, Z18, Z17, Z20, Z19, Z21, Z8, Z4, Z11, if_true, if_false, and_self, decide_true, Z3, reduceCtorEq, Z7, Nat.add_zero, Z14, Z26, tk3, tsz3, tk9, tsz9, tk61, hlt]; rfl) ?_)) ?_)
        refine tri_cond rfl (fun _ => then_skip ?_) (fun h => by cases h)
        refine tri_block ?_
        obtain ⟨c, hcb⟩ : ∃ c, (((s.data.toList.getD q 0).toNat : Nat) : Int) = c := ⟨_, rfl⟩
        simp only [byt, hcb] at hbl
        refine seq_any mixed ok0 rfl (by kernel_rfl) (by repeat (first | with_reducible exact runf_nil | refine runf_cons (by simp only [xstep, stepf, stepx, qev, St.ev, St.put, D.int, qload, cellsAt, qmk, C.cpy, TK.agg, qnil, qfieldAddr, qindex, liveR, C.cp, Z1, Z2, Z5, Z6, Z9, Z10, Z13, Z24, Z16, Z18, Z17, Z20, Z19, Z21, Z8, Z4, if_true, if_false, and_self, Z3, reduceCtorEq, Z7, Nat.add_zero, Z14, Z26, tk3, tsz3, tk9, tsz9, tk61, Int.toNat_natCast, Int.natCast_nonneg, hlt, hcb]; rfl) ?_)) ?_
        refine tri_block ?_
        by_cases hb : isBlank c = true
        · rw [if_pos hb] at hbl
          by_cases h32 : c = 32
          · refine seq_run ok0 rfl (by repeat (first | with_reducible exact runf_nil | refine runf_cons (by simp only [xstep, stepf, stepx, qev, St.ev, St.put, qpick, qint, qshift, isEq, qeq, isShift, qbin, constD, constC, Z1, Z2, Z5, Z6, Z8, Z4, Z11, if_true, if_false, decide_true, cond_true, Z22, Z3, reduceCtorEq, Z7, tk5, eq_true h32]; rfl) ?_)) ?_
            refine tri_cond rfl (fun _ => ?_) (fun h => by cases h)
            refine run_end ok0 rfl (by repeat (first | with_reducible exact runf_nil | refine runf_cons (by simp only [xstep, stepf, stepx, qev, St.ev, St.put, D.cells, qload, cellsAt, qmk, C.cpy, TK.agg, qnil, qfieldAddr, qint, qshift, isShift, qbin, liveR, C.st, C.cp, C.dat, storeA, putCells, constD, constC, Z1, Z2, Z5, Z6, Z9, Z10, Z23, Z12, Z15, Z13, Z24, Z16, Z18, Z17, Z20, Z19, Z21, Z8, Z4, Z11, Nat.reduceAdd, if_true, if_false, and_self, Z3, ne_eq, not_false_eq_true, reduceCtorEq, Nat.le_refl, Z7, implies_true, Z14, Z26, tk3, tsz3, tk61, hw]; rfl) ?_)) ?_
            exact ⟨s.size - (q + 1), by omega, ⟨[.c (.p 0 0 0), .top, .top, .top, .top, .top, .top, .top, .top, .top, .top, .top, .top, .top, .top, .top, .top, .top, .top, .top, .top, .top, .top, .top, .top, .top, .top, .top, .top, .top, .top, .top, .top, .top, .top, .top, .top, .top, .top, .top, .top, .top, .top, .top, .top], [some ⟨false, 2, [[.v (.string s), .v (.int .i64 (q + 1 : Nat))]]⟩]⟩, ⟨by repeat (first | exact .nil | refine .same ?_ | refine .top ?_), rfl⟩, q + 1, fu, hqs, rfl, by omega, hbl, rfl⟩
          by_cases h10 : c = 10
          · refine seq_run ok0 rfl (by repeat (first | with_reducible exact runf_nil | refine runf_cons (by simp only [xstep, stepf, stepx, qev, St.ev, St.put, qpick, qint, qshift, isEq, qeq, isShift, qbin, constD, constC, Z1, Z2, Z5, Z6, Z8, Z4, Z11, if_true, if_false, decide_true, decide_false, cond_true, cond_false, Z22, Z3, reduceCtorEq, Z7, tk5, eq_false h32, eq_true h10]; rfl) ?_)) ?_
            refine tri_cond rfl (fun _ => ?_) (fun h => by cases h)
            refine run_end ok0 rfl (by repeat (first | with_reducible exact runf_nil | refine runf_cons (by simp only [xstep, stepf, stepx, qev, St.ev, St.put, D.cells, qload, cellsAt, qmk, C.cpy, TK.agg, qnil, qfieldAddr, qint, qshift, isShift, qbin, liveR, C.st, C.cp, C.dat, storeA, putCells, constD, constC, Z1, Z2, Z5, Z6, Z9, Z10, Z23, Z12, Z15, Z13, Z24, Z16, Z18, Z17, Z20, Z19, Z21, Z8, Z4, Z11, Nat.reduceAdd, if_true, if_false, and_self, Z3, ne_eq, not_false_eq_true, reduceCtorEq, Nat.le_refl, Z7, implies_true, Z14, Z26, tk3, tsz3, tk61, hw]; rfl) ?_)) ?_
            exact ⟨s.size - (q + 1), by omega, ⟨[.c (.p 0 0 0), .top, .top, .top, .top, .top, .top, .top, .top, .top, .top, .top, .top, .top, .top, .top, .top, .top, .top, .top, .top, .top, .top, .top, .top, .top, .top, .top, .top, .top, .top, .top, .top, .top, .top, .top, .top, .top, .top, .top, .top, .top, .top, .top, .top], [some ⟨false, 2, [[.v (.string s), .v (.int .i64 (q + 1 : Nat))]]⟩]⟩, ⟨by repeat (first | exact .nil | refine .same ?_ | refine .top ?_), rfl⟩, q + 1, fu, hqs, rfl, by omega, hbl, rfl⟩
          have h9 : c = 9 := by
            simp only [isBlank, h32, h10, decide_false, Bool.false_or, decide_eq_true_eq] at hb
            exact hb
          · refine seq_run ok0 rfl (by repeat (first | with_reducible exact runf_nil | refine runf_cons (by simp only [xstep, stepf, stepx, qev, St.ev, St.put, qpick, qint, qshift, isShift, qbin, constD, constC, Z1, Z2, Z5, Z6, Z8, Z4, Z11, if_true, if_false, decide_true, decide_false, cond_false, Z22, Z3, Z7, eq_false h32, eq_false h10, eq_true h9]; rfl) ?_)) ?_
            refine tri_cond rfl (fun _ => ?_) (fun h => by cases h)
            refine run_end ok0 rfl (by repeat (first | with_reducible exact runf_nil | refine runf_cons (by simp only [xstep, stepf, stepx, qev, St.ev, St.put, D.cells, qload, cellsAt, qmk, C.cpy, TK.agg, qnil, qfieldAddr, qint, qshift, isShift, qbin, liveR, C.st, C.cp, C.dat, storeA, putCells, constD, constC, Z1, Z2, Z5, Z6, Z9, Z10, Z23, Z12, Z15, Z13, Z24, Z16, Z18, Z17, Z20, Z19, Z21, Z8, Z4, Z11, Nat.reduceAdd, if_true, if_false, and_self, Z3, ne_eq, not_false_eq_true, reduceCtorEq, Nat.le_refl, Z7, implies_true, Z14, Z26, tk3, tsz3, tk61, hw]; rfl) ?_)) ?_
            exact ⟨s.size - (q + 1), by omega, ⟨[.c (.p 0 0 0), .top, .top, .top, .top, .top, .top, .top, .top, .top, .top, .top, .top, .top, .top, .top, .top, .top, .top, .top, .top, .top, .top, .top, .top, .top, .top, .top, .top, .top, .top, .top, .top, .top, .top, .top, .top, .top, .top, .top, .top, .top, .top, .top, .top], [some ⟨false, 2, [[.v (.string s), .v (.int .i64 (q + 1 : Nat))]]⟩]⟩, ⟨by repeat (first | exact .nil | refine .same ?_ | refine .top ?_), rfl⟩, q + 1, fu, hqs, rfl, by omega, hbl, rfl⟩
        · rw [if_neg hb] at hbl
          have hn : c ≠ 32 ∧ c ≠ 10 ∧ c ≠ 9 := by
            simp only [isBlank, Bool.or_eq_true, decide_eq_true_eq] at hb
            refine ⟨fun h => hb (.inl (.inl h)), fun h => hb (.inl (.inr h)), fun h => hb (.inr h)⟩
          refine seq_run ok0 rfl (by repeat (first | with_reducible exact runf_nil | refine runf_cons (by simp only [xstep, stepf, stepx, qev, St.ev, St.put, qpick, qint, qshift, isShift, qbin, constD, constC, Z1, Z2, Z5, Z6, Z8, Z4, Z11, if_true, if_false, decide_false, cond_false, Z22, Z3, Z7, eq_false hn.1, eq_false hn.2.1, eq_false hn.2.2]; rfl) ?_)) ?_
          refine tri_cond rfl (fun h => by cases h) (fun _ => ?_)
          by_cases h35 : c = 35
          · rw [if_pos h35] at hbl
            have hnl : notNL (byt s q) = true := by simp only [byt, hcb, h35]; rfl
            have hgt := runF_gt hqs hnl
            have hrl := runF_le notNL s q hq
            have hRun : oRun [.c (.p 0 0 0), .c (.f 71 [])] [⟨2, [[.v (.string s), .v (.int .i64 (q : Int))]]⟩] = some (.c (.v (.string (s.extract q (runF notNL s q)))), [⟨2, [[.v (.string s), .v (.int .i64 (runF notNL s q : Nat))]]⟩]) := by
              have h : oRun [.c (.p 0 0 0), .c (.f 71 [])] [⟨2, [[.v (.string s), .v (.int .i64 (Int.ofNat q))]]⟩] = some (.c (.v (.string (s.extract q (runF notNL s q)))), [⟨2, [[.v (.string s), .v (.int .i64 (runF notNL s q : Nat))]]⟩]) := by
                simp only [oRun, show predK 71 = some notNL from rfl, Z8, if_pos (And.intro hs hq)]
                rfl
              exact h
            refine seq_run ok0 rfl (by repeat (first | with_reducible exact runf_nil | refine runf_cons (by simp only [xstep, stepf, stepx, qev, St.ev, St.put, qint, qshift, isShift, qbin, constD, constC, Z1, Z2, Z5, Z6, Z4, Z11, if_true, if_false, decide_true, Z3, Z7, eq_true h35]; rfl) ?_)) ?_
            refine tri_cond rfl (fun _ => ?_) (fun h => by cases h)
            refine run_end okL4 rfl (by repeat (first | with_reducible exact runf_nil | refine runf_cons (by simp only [xstep, stepf, stepx, evsA, qev, St.ev, St.put, St.with, D.cell, C.dat, Z1, Z2, Z5, Z6, Z9, Z10, Z12, Z15, Z13, Z16, Z18, Z8, Z4, Bool.and_true, Bool.true_and, if_true, if_false, and_self, Z3, Z7, Z14, beq_self_eq_true, Z26, Bool.true_or, callP, callO, Fs.none, dedup, rootsD, rootsC, List.flatMap_cons, List.flatMap_nil, List.filterMap_cons, List.filterMap_nil, argDs, argD, argC, List.contains_nil, objsAt, objOf, List.idxOf?, List.findIdx?, List.findIdx?.go, setObjs, D.ni, D.ni1, C.ni, settle, settle1, settleC, Z25, FsL4, hRun]; rfl) ?_)) ?_
            exact ⟨s.size - runF notNL s q, by omega, ⟨[.c (.p 0 0 0), .top, .top, .top, .top, .top, .top, .top, .top, .top, .top, .top, .top, .top, .top, .top, .top, .top, .top, .top, .top, .top, .top, .top, .top, .top, .top, .top, .top, .top, .top, .top, .top, .top, .top, .top, .top, .top, .top, .top, .top, .top, .top, .top, .top], [some ⟨false, 2, [[.v (.string s), .v (.int .i64 (runF notNL s q : Nat))]]⟩]⟩, ⟨by repeat (first | exact .nil | refine .same ?_ | refine .top ?_), rfl⟩, _, fu, hrl.2, rfl, by omega, hbl, rfl⟩
          · rw [if_neg h35] at hbl
            rw [← hbl] at hQ
            refine seq_run ok0 rfl (by repeat (first | with_reducible exact runf_nil | refine runf_cons (by simp only [xstep, stepf, stepx, qev, St.ev, St.put, qint, qshift, isShift, qbin, constD, constC, Z1, Z2, Z5, Z6, Z4, Z11, if_true, if_false, decide_false, Z3, Z7, eq_false h35]; rfl) ?_)) ?_
            refine tri_cond rfl (fun h => by cases h) (fun _ => ?_)
            refine tri_ret (ends_ret (by simp only [outRes, resDs, outDs, Z4, Z3]; rfl) rfl .nil (by simp) ?_)
            exact hQ
      · rw [if_neg hqs] at hbl
        rw [← hbl] at hQ
        refine seq_in (seq_any mixed ok0 rfl (by kernel_rfl) (by repeat (first | with_reducible exact runf_nil | refine runf_cons (by simp only [xstep, stepf, stepx, qev, St.ev, St.put, qload, cellsAt, qmk, C.cpy, TK.agg, qnil, qfieldAddr, qint, qshift, isShift, qbin, qlen, qbuiltin, liveR, C.cp, Z1, Z2, Z5, Z6, Z9, Z10, Z13, Z24, Z16, Z18, Z17, Z20, Z19, Z21, Z8, Z4, Z11, if_true, if_false, and_self, decide_false, Z3, reduceCtorEq, Z7, Nat.add_zero, Z14, Z26, tk3, tsz3, tk9, tsz9, tk61, show ((q : Int) < (s.size : Int)) = False from eq_false (by omega)]; rfl) ?_)) ?_)
        refine tri_cond rfl (fun h => by cases h) (fun _ => tri_exit ?_)
        refine ends_norm rfl rfl .nil (by simp) ?_
        exact hQ
    · cases hd
  · cases hd

end Go.Dl

namespace Go.Dl
open Go.RowKit
open Go.Proofs
set_option linter.unusedSimpArgs false
set_option linter.unusedVariables false

abbrev Tok := Int × ByteArray × Int
def tokC (t : Tok) : List C := [.v (.int .i64 t.1), .v (.string t.2.1), .v (.int .i64 t.2.2)]
theorem tok_nb (l : List Tok) : rowsNB (l.map tokC) = true := nb_map (fun _ => rfl)
def noText : ByteArray := ⟨#[]⟩
def marks : ByteArray := ⟨#[61, 44, 40, 41, 91, 93, 59]⟩
def dash : ByteArray := ⟨#[45]⟩

def FsL5 : Fs := { pure := fun k => if k = 53 then some (pU8 isLetter) else if k = 56 then some (pU8 isDigit) else if k = 58 then some pIdxB else none, objs := fun k => if k = 52 then some oBlk else if k = 54 then some oRun else none }
theorem okL5 : FsOK Try.prog FsL5 := by
  refine ⟨fun k f h => ?_, fun k f h => ?_⟩
  · simp only [FsL5] at h
    split at h
    · rename_i hk; subst hk; cases h; exact ⟨by kernel_rfl, meets53⟩
    split at h
    · rename_i hk; subst hk; cases h; exact ⟨by kernel_rfl, meets56⟩
    split at h
    · rename_i hk; subst hk; cases h; exact ⟨by kernel_rfl, meets58⟩
    · cases h
  · simp only [FsL5] at h
    split at h
    · rename_i hk; subst hk; cases h; exact ⟨by kernel_rfl, meets52⟩
    split at h
    · rename_i hk; subst hk; cases h; exact ⟨by kernel_rfl, meets54⟩
    · cases h

theorem run_eq {k : Nat} {f : Int → Bool} {s : ByteArray} {p : Nat} (hk : predK k = some f) (hs : s.size ≤ 1000000) (hp : p ≤ s.size) :
    oRun [.c (.p 0 0 0), .c (.f k [])] [⟨2, [[.v (.string s), .v (.int .i64 (p : Int))]]⟩] = some (.c (.v (.string (s.extract p (runF f s p)))), [⟨2, [[.v (.string s), .v (.int .i64 (runF f s p : Nat))]]⟩]) := by
  have h : oRun [.c (.p 0 0 0), .c (.f k [])] [⟨2, [[.v (.string s), .v (.int .i64 (Int.ofNat p))]]⟩] = some (.c (.v (.string (s.extract p (runF f s p)))), [⟨2, [[.v (.string s), .v (.int .i64 (runF f s p : Nat))]]⟩]) := by
    simp only [oRun, hk, Option.bind_some, if_pos (And.intro hs hp)]
    rfl
  exact h
theorem blk_eq {s : ByteArray} {p : Nat} (hs : s.size ≤ 1000000) (hp : p ≤ s.size) :
    oBlk [.c (.p 0 0 0)] [⟨2, [[.v (.string s), .v (.int .i64 (p : Int))]]⟩] = some (.t [], [⟨2, [[.v (.string s), .v (.int .i64 (blkF s p : Nat))]]⟩]) := by
  have h : oBlk [.c (.p 0 0 0)] [⟨2, [[.v (.string s), .v (.int .i64 (Int.ofNat p))]]⟩] = some (.t [], [⟨2, [[.v (.string s), .v (.int .i64 (blkF s p : Nat))]]⟩]) := by
    simp only [oBlk, if_pos (And.intro hs hp)]
    rfl
  exact h

end Go.Dl

namespace Go.Dl
open Go.RowKit
open Go.Proofs
set_option linter.unusedSimpArgs false
set_option linter.unusedVariables false

/-- A tuple's parts that nobody will change. -/
def D.frzT : D → D
  | .t ds => .t (ds.map D.frz)
  | d => d

theorem frz1 {w : World} {S : Nat → Prop} {d : D} {v : Value} {f : List Nat} (h : RepO1 w S d v f) : ∃ f0 f1, f = f0 ++ f1 ∧ RepO1 w (fun x => S x ∨ x ∈ f0) d.frz v f1 := by
  unfold D.frz
  split
  · rename_i es rows
    split
    · rename_i hc
      have h' : Rep w S [] (.k false (.s true es rows) v) f := h
      cases h' with
      | nilO => exact ⟨[], [], rfl, .nilI⟩
      | own hz hb hc' hl hr =>
        rename_i b off cap fp
        have hfp := cells_cp hr (rows_cp hc)
        subst hfp
        exact ⟨[b], [], rfl, .imm (.inr (by simp)) hc' hl (hr.mono (fun _ h => .inl h) (.refl _ _) (fun _ _ => rfl))⟩
    · exact ⟨[], f, rfl, h.mono (.inl fun _ h => .inl h)⟩
  · exact ⟨[], f, rfl, h.mono (.inl fun _ h => .inl h)⟩

theorem frz_all {w : World} {S : Nat → Prop} (ds : List D) (g : Nat → Value) : ∀ (n : Nat) (ds : List D) (fps : List (List Nat)), fps.length = ds.length → (∀ (i : Nat) (d' : D) (f : List Nat), ds[i]? = some d' → fps[i]? = some f → RepO1 w S d' (g (n + i)) f) →
    ∃ g0 g1 : List (List Nat), g0.length = ds.length ∧ g1.length = ds.length ∧ (∀ (i : Nat) (a b : List Nat), g0[i]? = some a → g1[i]? = some b → fps[i]? = some (a ++ b)) ∧
      ∀ (i : Nat) (d' : D) (a b : List Nat), ds[i]? = some d' → g0[i]? = some a → g1[i]? = some b → RepO1 w (fun x => S x ∨ x ∈ a) d'.frz (g (n + i)) b
  | n, [], fps, hl, h => ⟨[], [], rfl, rfl, by simp, by simp⟩
  | n, d :: ds', fps, hl, h => by
    cases fps with
    | nil => simp at hl
    | cons f fps =>
      obtain ⟨f0, f1, e1, e2⟩ := frz1 (h 0 d f rfl rfl)
      obtain ⟨g0, g1, k1, k2, k3, k4⟩ := frz_all ds g (n + 1) ds' fps (by simpa using hl) (fun i d' f hd hf => by have := h (i + 1) d' f (by simpa using hd) (by simpa using hf); rwa [show n + (i + 1) = n + 1 + i by omega] at this)
      refine ⟨f0 :: g0, f1 :: g1, by simp [k1], by simp [k2], ?_, ?_⟩
      · intro i a b ha hb
        cases i with
        | zero => simp at ha hb; subst ha; subst hb; simp [e1]
        | succ i => simpa using k3 i a b (by simpa using ha) (by simpa using hb)
      · intro i d' a b hd ha hb
        cases i with
        | zero => simp at ha hb hd; subst ha; subst hb; subst hd; exact e2
        | succ i =>
          have := k4 i d' a b (by simpa using hd) (by simpa using ha) (by simpa using hb)
          rwa [show n + 1 + i = n + (i + 1) by omega] at this

theorem flat_get2 {L : List (List Nat)} {i : Nat} {a : List Nat} (h : L[i]? = some a) {x : Nat} (hx : x ∈ a) : x ∈ L.flatten := List.mem_flatten.2 ⟨a, List.mem_of_getElem? h, hx⟩

theorem left_frzT {w w' : World} {S : Nat → Prop} {pls : List Pl} {fps : List (List Nat)} {d : D} {v : Value} {objs' : List Obj} (h : Left w w' S pls fps d v objs') : Left w w' S pls fps d.frzT v objs' := by
  unfold D.frzT
  split
  · rename_i ds
    refine ⟨h.size, h.keep, h.os, h.tape, h.output, ?_⟩
    obtain ⟨S', pls', fps', fpd, l1, l2, l3, l4, l5, l6, l7⟩ := h.rest
    obtain ⟨arr, fs, q0, q1, q2, q3, q4⟩ := l3
    obtain ⟨g0, g1, k1, k2, k3, k4⟩ := frz_all ds (fun i => arr.getD i undef) 0 ds fs q2 (fun i d' f hd hf => by have := q4 i d' f hd hf; rwa [Nat.zero_add])
    have in0 : ∀ x, x ∈ g0.flatten → x ∈ fpd := by
      intro x hx
      obtain ⟨a, ha, hxa⟩ := List.mem_flatten.1 hx
      obtain ⟨i, hi⟩ := List.getElem?_of_mem ha
      have hi' := lt_len hi
      have := k3 i a (g1[i]'(by omega)) hi (List.getElem?_eq_getElem _)
      rw [q3]; exact flat_get2 this (List.mem_append_left _ hxa)
    have in1 : ∀ x, x ∈ g1.flatten → x ∈ fpd ∧ x ∉ g0.flatten := by
      intro x hx
      obtain ⟨b, hb, hxb⟩ := List.mem_flatten.1 hx
      obtain ⟨i, hi⟩ := List.getElem?_of_mem hb
      have hi' := lt_len hi
      have hf := k3 i (g0[i]'(by omega)) b (List.getElem?_eq_getElem _) hi
      refine ⟨by rw [q3]; exact flat_get2 hf (List.mem_append_right _ hxb), fun h0 => ?_⟩
      obtain ⟨a, ha, hxa⟩ := List.mem_flatten.1 h0
      obtain ⟨j, hj⟩ := List.getElem?_of_mem ha
      have hj' := lt_len hj
      have hfj := k3 j a (g1[j]'(by omega)) hj (List.getElem?_eq_getElem _)
      have hn : fs.flatten.Nodup := by rw [← q3]; exact (List.nodup_append.1 l5).1
      have := apart_flat hn hf hfj (List.mem_append_right _ hxb) (List.mem_append_left _ hxa)
      subst this
      have hnd := nodup_at hn hf
      rw [List.nodup_append] at hnd
      have hae : g0[i]'(by omega) = a := by rw [List.getElem?_eq_getElem (by omega)] at hj; cases hj; rfl
      rw [hae] at hnd
      exact hnd.2.2 x hxa x hxb rfl
    have nd1 : g1.flatten.Nodup := by
      refine nodup_flat ?_ ?_
      · intro b hb
        obtain ⟨i, hi⟩ := List.getElem?_of_mem hb
        have hi' := lt_len hi
        have hf := k3 i (g0[i]'(by omega)) b (List.getElem?_eq_getElem _) hi
        have hn : fs.flatten.Nodup := by rw [← q3]; exact (List.nodup_append.1 l5).1
        exact (List.nodup_append.1 (nodup_at hn hf)).2.1
      · intro i j f f' x hi hj hx hx'
        have hi' := lt_len hi
        have hj' := lt_len hj
        have hf := k3 i (g0[i]'(by omega)) f (List.getElem?_eq_getElem _) hi
        have hf' := k3 j (g0[j]'(by omega)) f' (List.getElem?_eq_getElem _) hj
        have hn : fs.flatten.Nodup := by rw [← q3]; exact (List.nodup_append.1 l5).1
        exact apart_flat hn hf hf' (List.mem_append_right _ hx) (List.mem_append_right _ hx')
    refine ⟨fun x => S' x ∨ x ∈ g0.flatten, pls', fps', g1.flatten, fun x hx => .inl (l1 x hx), fun x hx => ?_, ?_, ?_, ?_, ?_, l7⟩
    · rcases hx with hx | hx
      · exact l2 x hx
      · have := l6 x (List.mem_append_left _ (in0 x hx))
        exact ⟨this.2.1, .inr this.2.2⟩
    · refine ⟨arr, g1, q0, by rw [List.length_map]; exact q1, by rw [List.length_map]; exact k2, rfl, fun i d' f hd hf => ?_⟩
      rw [List.getElem?_map, Option.map_eq_some_iff] at hd
      obtain ⟨d0, hd0, rfl⟩ := hd
      have hi' := lt_len hf
      have := k4 i d0 (g0[i]'(by omega)) f hd0 (List.getElem?_eq_getElem _) hf
      rw [Nat.zero_add] at this
      refine this.mono (.inl fun x hx => hx.imp id fun h => ?_)
      exact flat_get2 (List.getElem?_eq_getElem (by omega)) h
    · obtain ⟨m1, m2, m3⟩ := l4
      refine ⟨m1, m2, fun i ob hob => ?_⟩
      obtain ⟨p, f, r1, r2, r3⟩ := m3 i ob hob
      exact ⟨p, f, r1, r2, r3.mono (fun _ h => .inl h) (.refl _ _) (fun _ _ => rfl)⟩
    · have l5' := List.nodup_append.1 l5
      exact List.nodup_append.2 ⟨nd1, l5'.2.1, fun x hx y hy hxy => l5'.2.2 x (in1 x hx).1 y hy hxy⟩
    · intro x hx
      rcases List.mem_append.1 hx with h | h
      · obtain ⟨r1, r2, r3⟩ := l6 x (List.mem_append_left _ (in1 x h).1)
        refine ⟨?_, r2, r3⟩
        rintro (h' | h')
        · exact r1 h'
        · exact (in1 x h).2 h'
      · obtain ⟨r1, r2, r3⟩ := l6 x (List.mem_append_right _ h)
        refine ⟨?_, r2, r3⟩
        rintro (h' | h')
        · exact r1 h'
        · exact (List.nodup_append.1 l5).2.2 x (in0 x h') x h rfl
  · exact h

theorem meets_frzT {P : Program} {k : FuncId} {spec : Spec} (h : Meets P k spec) : Meets P k (fun args objs Q => spec args objs (fun d os => Q d.frzT os)) := by
  intro args objs Q hs w S vs pls fps h1 h2 h3 h4 h5 h6
  refine (h args objs _ hs w S vs pls fps h1 h2 h3 h4 h5 h6).mono ?_
  rintro e w' ⟨v, d, os, e1, hq, hl, left⟩
  exact ⟨v, d.frzT, os, e1, hq, hl, left_frzT left⟩

theorem meets_frzTP {P : Program} {k : FuncId} {f : List D → Option D} (h : Meets P k (pureS f)) : Meets P k (pureS fun a => (f a).map D.frzT) := by
  intro args objs Q hs
  refine meets_frzT h args objs Q ?_
  obtain ⟨h1, d, h2, h3⟩ := hs
  cases hf : f args with
  | none => simp only [hf] at h2; cases h2
  | some d0 => simp only [hf] at h2; cases h2; exact ⟨h1, d0, hf, h3⟩

end Go.Dl

namespace Go.Dl
open Go.RowKit

section
variable {P : Program} {Φ : Fs} {A : St} {Q : Exit → St → Prop}

theorem seq_anyE (hm : P.follows .mixedOrders = true) (hΦ : FsOK P Φ) {id : Nat} {l : List Oper} {y : Code} (hok : opsOK l.toArray = true) (hsw : anyOK P Φ l.toArray = true)
    (h : ∃ A', runf P Φ l.toArray l A = some A' ∧ Tri P y A' Q) : Tri P (.seq (.region id l.toArray true) y) A Q := by
  obtain ⟨A', h1, h2⟩ := h
  exact seq_any hm hΦ hok hsw h1 h2

theorem any_endE (hm : P.follows .mixedOrders = true) (hΦ : FsOK P Φ) {id : Nat} {l : List Oper} (hok : opsOK l.toArray = true) (hsw : anyOK P Φ l.toArray = true)
    (h : ∃ A', runf P Φ l.toArray l A = some A' ∧ Q .normal A') : Tri P (.region id l.toArray true) A Q := by
  obtain ⟨A', h1, h2⟩ := h
  exact any_end hm hΦ hok hsw h1 h2

end
end Go.Dl

namespace Go.Dl
open Go.RowKit

section
variable {P : Program}

/-- What is said of a family of inputs: those that 'enc' names, where 'pre' holds; 'out' comes. -/
noncomputable def famO {ι : Type} (pre : ι → Prop) (enc : ι → List D × List Obj) (out : ι → D × List Obj) : List D → List Obj → Option (D × List Obj) := by
  classical exact fun a o => if h : ∃ x, pre x ∧ enc x = (a, o) then some (out h.choose) else none

theorem famO_inv {ι : Type} {pre : ι → Prop} {enc : ι → List D × List Obj} {out : ι → D × List Obj} {a : List D} {o : List Obj} {r : D × List Obj} (h : famO pre enc out a o = some r) :
    ∃ x, pre x ∧ enc x = (a, o) ∧ r = out x := by
  unfold famO at h
  split at h
  · rename_i hh
    cases h
    exact ⟨hh.choose, hh.choose_spec.1, hh.choose_spec.2, rfl⟩
  · cases h

theorem famO_at {ι : Type} {pre : ι → Prop} {enc : ι → List D × List Obj} {out : ι → D × List Obj} (inj : ∀ x y, enc x = enc y → out x = out y) (x : ι) (h : pre x) {a : List D} {o : List Obj}
    (he : enc x = (a, o)) : famO pre enc out a o = some (out x) := by
  unfold famO
  have hx : ∃ x, pre x ∧ enc x = (a, o) := ⟨x, h, he⟩
  rw [dif_pos hx, inj _ x (hx.choose_spec.2.trans he.symm)]

theorem meets_famO {ι : Type} {pre : ι → Prop} {enc : ι → List D × List Obj} {out : ι → D × List Obj} {k : FuncId} {fn : Func} {c : Code} {n : Nat} {rs : List ResultVar} (hf : P.funcs[k]? = some fn) (hb : fn.body = some c) (hnt : fn.ntmps = n) (hrs : fn.results.toList = rs)
    (h : ∀ x, pre x → ∀ Q : D → List Obj → Prop, Q (out x).1 (out x).2 →
      Tri P c ⟨(enc x).1 ++ List.replicate (n - (enc x).1.length) .top, (enc x).2.map fun o => some ⟨false, o.es, o.rows⟩⟩ (Ends P rs (enc x).2.length Q)) : Meets P k (detS (famO pre enc out)) := by
  refine meets_of_tri hf hb hnt hrs ?_
  rintro args objs Q ⟨d, os, hd, hQ⟩
  obtain ⟨x, h1, h2, h3⟩ := famO_inv hd
  have := h x h1 Q (by rw [← h3]; exact hQ)
  rw [h2] at this
  exact this

noncomputable def famP {ι : Type} (pre : ι → Prop) (enc : ι → List D) (out : ι → D) : List D → Option D := by
  classical exact fun a => if h : ∃ x, pre x ∧ enc x = a then some (out h.choose) else none

theorem famP_inv {ι : Type} {pre : ι → Prop} {enc : ι → List D} {out : ι → D} {a : List D} {r : D} (h : famP pre enc out a = some r) : ∃ x, pre x ∧ enc x = a ∧ r = out x := by
  unfold famP at h
  split at h
  · rename_i hh
    cases h
    exact ⟨hh.choose, hh.choose_spec.1, hh.choose_spec.2, rfl⟩
  · cases h

theorem famP_at {ι : Type} {pre : ι → Prop} {enc : ι → List D} {out : ι → D} (inj : ∀ x y, enc x = enc y → out x = out y) (x : ι) (h : pre x) {a : List D} (he : enc x = a) : famP pre enc out a = some (out x) := by
  unfold famP
  have hx : ∃ x, pre x ∧ enc x = a := ⟨x, h, he⟩
  rw [dif_pos hx, inj _ x (hx.choose_spec.2.trans he.symm)]

theorem meets_famP {ι : Type} {pre : ι → Prop} {enc : ι → List D} {out : ι → D} {k : FuncId} {fn : Func} {c : Code} {n : Nat} {rs : List ResultVar} (hf : P.funcs[k]? = some fn) (hb : fn.body = some c) (hnt : fn.ntmps = n) (hrs : fn.results.toList = rs)
    (h : ∀ x, pre x → ∀ Q : D → List Obj → Prop, Q (out x) [] → Tri P c ⟨enc x ++ List.replicate (n - (enc x).length) .top, []⟩ (Ends P rs 0 Q)) : Meets P k (pureS (famP pre enc out)) := by
  refine meets_of_tri hf hb hnt hrs ?_
  rintro args objs Q ⟨rfl, d, hd, hQ⟩
  obtain ⟨x, h1, h2, h3⟩ := famP_inv hd
  have := h x h1 Q (by rw [← h3]; exact hQ)
  rw [h2] at this
  exact this

end
end Go.Dl
