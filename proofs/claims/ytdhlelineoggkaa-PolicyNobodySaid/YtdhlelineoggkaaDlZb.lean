/- 'Dl', part Zb: regions that draw their order. -/
import Derived.Test.YtdhlelineoggkaaDlZa
namespace Go.Dl
open Go.RowKit

section
variable {P : Program} {Φ : Fs}

/-- Must one wait for the other, over however many steps? -/
def reach (ops : Array Oper) : Nat → Nat → Nat → Bool
  | 0, _, _ => false
  | n + 1, j, i => match ops[j]? with
    | some o => o.after.toList.any (fun e => Region.binds .any e && e.on == i) || o.after.toList.any fun e => Region.binds .any e && reach ops n e.on i
    | none => false

def Closed (ops : Array Oper) (listed : Array Bool) : Prop :=
  ∀ (j : Nat) (o : Oper), ops[j]? = some o → listed.getD j false = true → ∀ e ∈ o.after, Region.binds .any e = true → listed.getD e.on false = true

theorem reach_listed {ops : Array Oper} {listed : Array Bool} (hcl : Closed ops listed) : ∀ (n j i : Nat), reach ops n j i = true →
    (∀ o, ops[j]? = some o → ∀ e ∈ o.after, Region.binds .any e = true → listed.getD e.on false = true) → listed.getD i false = true := by
  intro n
  induction n with
  | zero => intro j i h; simp [reach] at h
  | succ n ih =>
    intro j i h hall
    simp only [reach] at h
    split at h
    · rename_i o ho
      rw [Bool.or_eq_true, List.any_eq_true, List.any_eq_true] at h
      rcases h with ⟨e, he, h⟩ | ⟨e, he, h⟩
      · rw [Bool.and_eq_true, beq_iff_eq] at h
        rw [← h.2]; exact hall o ho e (by simpa using he) h.1
      · rw [Bool.and_eq_true] at h
        have hl := hall o ho e (by simpa using he) h.1
        exact ih e.on i h.2 fun o' ho' e' he' hb' => hcl e.on o' ho' hl e' he' hb'
    · cases h

/-- A copy of a slot and an append: they may change places. -/
def moveApp (x y : Oper) : Bool :=
  x.guard.isNone && y.guard.isNone && (match x.op with | .move (.tmp _) => true | _ => false) && (match y.op with
    | .call c => (match c.callee with | .builtin .append => true | _ => false) && y.dst.isSome
    | _ => false)

theorem map_set' {α β : Type} (f : α → β) : ∀ (l : List α) (i : Nat) (a : α), (l.set i a).map f = (l.map f).set i (f a)
  | [], _, _ => rfl
  | x :: l, 0, a => rfl
  | x :: l, i + 1, a => by simp [map_set' f l i a]

theorem xstep_none {ops : Array Oper} {o : Oper} {A : St} (h : o.guard = none) : xstep P Φ ops o A = stepf P Φ A o.dst o.op := by
  unfold xstep; rw [h]

theorem stepf_move {A : St} {dst : Option Tmp} {x : Operand} : stepf P Φ A dst (.move x) = (A.ev x).map (A.put dst) := rfl

/-- An append, taken apart. -/
def appA (P : Program) (A : St) (dst : Option Tmp) (c : Call) : Option St :=
  match c.args.toList, c.argTypes.toList with
  | [s, x], [t, xt] => if tkApp P xt then (match A.ev s, A.ev x with
    | some d, some dx => (appendA P A t d dx).map fun r => r.2.put dst r.1
    | _, _ => none) else none
  | _, _ => none

theorem stepf_append {A : St} {dst : Option Tmp} {c : Call} (h : c.callee = .builtin .append) : stepf P Φ A dst (.call c) = appA P A dst c := by
  unfold stepf
  simp only [h]
  unfold stepx
  simp only [h]
  rfl

theorem appendA_sl {H : List (Option Root)} {t : TypeId} {d1 d2 : D} {sl : List D} {res : D × St} (hres : appendA P ⟨sl, H⟩ t d1 d2 = some res) :
    ∃ r H', res = (res.1, ⟨sl.map (D.kill r), H'⟩) ∧ ∀ sl', appendA P ⟨sl', H⟩ t d1 d2 = some (res.1, ⟨sl'.map (D.kill r), H'⟩) := by
  unfold appendA at hres
  split at hres
  · rename_i e hk
    split at hres
    · rename_i r lo len z es src hz hsrc
      split at hres
      · rename_i R hR
        split at hres
        · rename_i hcond
          cases hres
          refine ⟨r, _, rfl, fun sl' => ?_⟩
          unfold appendA
          simp only [hk, hz, hsrc, hR, if_pos hcond]
        · cases hres
      · cases hres
    · cases hres
  · cases hres

theorem swap_moveApp {ops : Array Oper} {x y : Oper} (hm : moveApp x y = true) (hap : x.apart ops y = true) : Swap P Φ ops x y := by
  intro g A A1 A2 hA hx hy
  obtain ⟨p1, p2, p3⟩ := Oper.apart_spec hap
  simp only [moveApp, Bool.and_eq_true, Option.isNone_iff_eq_none] at hm
  obtain ⟨⟨⟨gx, gy⟩, mx⟩, my⟩ := hm
  have hxo : ∃ s, x.op = .move (.tmp s) := by split at mx; exact ⟨_, by assumption⟩; cases mx
  have hyo : ∃ c, y.op = .call c ∧ c.callee = .builtin .append ∧ y.dst.isSome = true := by
    split at my
    · rename_i c hyo
      rw [Bool.and_eq_true] at my
      refine ⟨c, hyo, ?_, my.2⟩
      have := my.1
      split at this
      · assumption
      · cases this
    · cases my
  obtain ⟨s, hxo⟩ := hxo
  obtain ⟨c, hyo, hcb, md⟩ := hyo
  have fx : ∀ A, xstep P Φ ops x A = (A.sl[s]?).map (A.put x.dst) := fun A => by rw [xstep_none gx, hxo, stepf_move]; rfl
  have fy : ∀ A, xstep P Φ ops y A = appA P A y.dst c := fun A => by rw [xstep_none gy, hyo, stepf_append hcb]
  rw [fx] at hx
  rw [fy] at hy
  simp only [fx, fy]
  cases hs : A.sl[s]? with
  | none => rw [hs] at hx; cases hx
  | some d =>
    rw [hs] at hx
    simp only [Option.map_some, Option.some.injEq] at hx
    subst hx
    have agr : AgreeAt ops y A (A.put x.dst d) := agree_with (r := (d, A.H)) p1
    have hop : ∀ z ∈ c.args.toList, z ∈ y.op.operands.toList := fun z hz => by rw [hyo]; simp only [Op.operands, Call.operands, Array.toList_append, List.mem_append]; exact .inr hz
    unfold appA at hy ⊢
    cases hargs : c.args.toList with
    | nil => rw [hargs] at hy; cases hy
    | cons sx l1 => cases l1 with
      | nil => rw [hargs] at hy; cases hy
      | cons xx l2 => cases l2 with
        | cons _ _ => rw [hargs] at hy; cases hy
        | nil => cases htys : c.argTypes.toList with
          | nil => rw [hargs, htys] at hy; cases hy
          | cons t l3 => cases l3 with
            | nil => rw [hargs, htys] at hy; cases hy
            | cons xt l4 => cases l4 with
              | cons _ _ => rw [hargs, htys] at hy; cases hy
              | nil =>
                rw [hargs, htys] at hy
                simp only at hy ⊢
                by_cases htk : tkApp P xt = true
                · rw [if_pos htk] at hy ⊢
                  have e1 := agr.ev sx (hop sx (by rw [hargs]; exact List.mem_cons_self ..))
                  have e2 := agr.ev xx (hop xx (by rw [hargs]; exact List.mem_cons_of_mem _ (List.mem_cons_self ..)))
                  rw [← e1, ← e2] at hy
                  cases h1 : A.ev sx with
                  | none => rw [h1] at hy; cases hy
                  | some d1 =>
                    cases h2 : A.ev xx with
                    | none => rw [h1, h2] at hy; cases hy
                    | some d2 =>
                      rw [h1, h2] at hy
                      simp only at hy ⊢
                      cases hap1 : appendA P (A.put x.dst d) t d1 d2 with
                      | none => rw [hap1] at hy; cases hy
                      | some res =>
                        rw [hap1] at hy
                        simp only [Option.map_some, Option.some.injEq] at hy
                        have hform : A.put x.dst d = ⟨(A.put x.dst d).sl, A.H⟩ := by unfold St.put; cases x.dst <;> rfl
                        rw [hform] at hap1
                        obtain ⟨r, H', hr1, hr2⟩ := appendA_sl hap1
                        have hA' : appendA P A t d1 d2 = some (res.1, ⟨A.sl.map (D.kill r), H'⟩) := hr2 A.sl
                        rw [hA']
                        refine ⟨St.put ⟨A.sl.map (D.kill r), H'⟩ y.dst res.1, rfl, ?_⟩
                        have hns : y.dst ≠ some s := fun e => p3 s e (List.mem_append_left _ (List.mem_filterMap.2 ⟨.tmp s, by rw [hxo]; simp [Op.operands], rfl⟩))
                        have hsl : (St.put ⟨A.sl.map (D.kill r), H'⟩ y.dst res.1).sl[s]? = some (D.kill r d) := by
                          have := with_sl (A := ⟨A.sl.map (D.kill r), H'⟩) (dst := y.dst) (r := (res.1, H')) (t := s) hns
                          rw [show (St.put ⟨A.sl.map (D.kill r), H'⟩ y.dst res.1).sl[s]? = (St.with ⟨A.sl.map (D.kill r), H'⟩ y.dst (res.1, H')).sl[s]? from rfl, this]
                          simp [hs]
                        rw [hsl]
                        simp only [Option.map_some, Option.some.injEq]
                        rw [← hy, hr1]
                        simp only
                        cases hdx : x.dst with
                        | none => rfl
                        | some tx =>
                          cases hdy : y.dst with
                          | none => rw [hdy] at md; cases md
                          | some ty =>
                            have : tx ≠ ty := fun e => p2 tx hdx (by rw [hdy, e])
                            simp only [St.put, map_set', St.mk.injEq, and_true]
                            exact List.set_comm _ _ (Ne.symm this)
                · rw [if_neg htk] at hy; cases hy

/-- May the order be open? -/
def anyOK (P : Program) (Φ : Fs) (ops : Array Oper) : Bool :=
  (List.range ops.size).all fun j => match ops[j]? with
    | none => true
    | some y => (y.after.toList.all fun e => !Region.binds .any e || decide (e.on < j)) && (List.range j).all fun i => reach ops ops.size j i || match ops[i]? with
      | some x => (okCl (cl P Φ x.op) (cl P Φ y.op) || moveApp x y) && x.apart ops y
      | none => true

def Swaps (P : Program) (Φ : Fs) (ops : Array Oper) : Prop :=
  (∀ (j : Nat) (y : Oper), ops[j]? = some y → ∀ e ∈ y.after, Region.binds .any e = true → e.on < j) ∧
  ∀ (i j : Nat) (x y : Oper), i < j → ops[i]? = some x → ops[j]? = some y → reach ops ops.size j i = false → Swap P Φ ops x y

theorem anyOK_spec {ops : Array Oper} (h : anyOK P Φ ops = true) : Swaps P Φ ops := by
  unfold anyOK at h
  rw [List.all_eq_true] at h
  have h' : ∀ (j : Nat) (y : Oper), ops[j]? = some y → (y.after.toList.all fun e => !Region.binds .any e || decide (e.on < j)) = true ∧
      ((List.range j).all fun i => reach ops ops.size j i || match ops[i]? with
        | some x => (okCl (cl P Φ x.op) (cl P Φ y.op) || moveApp x y) && x.apart ops y
        | none => true) = true := by
    intro j y hy
    have := h j (List.mem_range.2 (Array.getElem?_eq_some_iff.1 hy).1)
    rw [hy] at this
    simpa only [Bool.and_eq_true] using this
  refine ⟨fun j y hy e he hb => ?_, fun i j x y hij hx hy hr => ?_⟩
  · have := List.all_eq_true.1 (h' j y hy).1 e (by simpa using he)
    rw [hb] at this
    simpa using this
  · have := List.all_eq_true.1 (h' j y hy).2 i (List.mem_range.2 hij)
    rw [hr, hx, Bool.false_or, Bool.and_eq_true, Bool.or_eq_true] at this
    rcases this with ⟨h1 | h1, h2⟩
    · exact swap_ok h1 h2
    · exact swap_moveApp h1 h2

def runI (P : Program) (Φ : Fs) (ops : Array Oper) : List Nat → St → Option St
  | [], A => some A
  | i :: is, A => match ops[i]? with
    | some o => (xstep P Φ ops o A).bind (runI P Φ ops is)
    | none => none

theorem runI_range {ops : Array Oper} : ∀ (n i : Nat) (A : St), i + n = ops.size → runf P Φ ops (ops.toList.drop i) A = runI P Φ ops (List.range' i n) A := by
  intro n
  induction n with
  | zero => intro i A h; rw [List.drop_eq_nil_of_le (by simp; omega)]; rfl
  | succ n ih =>
    intro i A h
    have hi : i < ops.toList.length := by simp; omega
    have ho : ops[i]? = some ops.toList[i] := by simp
    rw [List.drop_eq_getElem_cons hi, List.range'_succ]
    simp only [runf, runI, ho]
    cases xstep P Φ ops ops.toList[i] A with
    | none => rfl
    | some A1 => exact ih (i + 1) A1 (by omega)

theorem front (hΦ : FsOK P Φ) {ops : Array Oper} (hok : opsOK ops = true) (hsw : Swaps P Φ ops) {g : G} {j : Nat} {y : Oper} (hy : ops[j]? = some y) {post : List Nat} {Af : St} :
    ∀ (pre : List Nat) (A : St), Ok g A → (∀ i ∈ pre, i < j ∧ reach ops ops.size j i = false) → runI P Φ ops (pre ++ j :: post) A = some Af →
      ∃ B, xstep P Φ ops y A = some B ∧ runI P Φ ops (pre ++ post) B = some Af := by
  intro pre
  induction pre with
  | nil =>
    intro A _ _ h
    simp only [List.nil_append, runI, hy] at h
    cases hx : xstep P Φ ops y A with
    | none => rw [hx] at h; cases h
    | some B => rw [hx] at h; exact ⟨B, rfl, h⟩
  | cons i pre ih =>
    intro A hA hall h
    simp only [List.cons_append, runI] at h
    cases hi : ops[i]? with
    | none => rw [hi] at h; cases h
    | some x =>
      rw [hi] at h
      simp only at h
      cases hx : xstep P Φ ops x A with
      | none => rw [hx] at h; cases h
      | some A1 =>
        rw [hx] at h
        have hin : x ∈ ops.toList := by simpa using Array.mem_of_getElem? hi
        have hA1 := xstep_ok hΦ (List.all_eq_true.1 hok x hin) hx hA
        obtain ⟨B1, h1, h2⟩ := ih A1 hA1 (fun k hk => hall k (List.mem_cons_of_mem _ hk)) h
        obtain ⟨q1, q2⟩ := hall i (List.mem_cons_self ..)
        obtain ⟨B, k1, k2⟩ := hsw.2 i j x y q1 hi hy q2 g A A1 B1 hA hx h1
        refine ⟨B, k1, ?_⟩
        simp only [List.cons_append, runI, hi, k2]
        exact h2

def remI (ops : Array Oper) (listed : Array Bool) : List Nat := (List.range ops.size).filter fun i => !listed.getD i true

theorem remI_sorted (ops : Array Oper) (listed : Array Bool) : (remI ops listed).Pairwise (· < ·) := List.pairwise_lt_range.filter _

theorem mem_remI {ops : Array Oper} {listed : Array Bool} {i : Nat} : i ∈ remI ops listed ↔ i < ops.size ∧ listed.getD i true = false := by
  simp [remI]

theorem getD_both {listed : Array Bool} {i : Nat} (h : i < listed.size) : listed.getD i true = listed.getD i false := by
  simp [h]

theorem wpAny_run (hΦ : FsOK P Φ) {ops : Array Oper} (hok : opsOK ops = true) (hsw : Swaps P Φ ops) {g : G} {Q : Exit → Act → World → Prop} {Af : St} (hQ : ∀ a' w', Sat g Af a' w' → Q .normal a' w') :
    ∀ (fuel : Nat) (listed : Array Bool) (A : St) (a : Act) (w : World), listed.size = ops.size → (remI ops listed).length ≤ fuel → Closed ops listed → Sat g A a w →
      runI P Φ ops (remI ops listed) A = some Af → wpAny P .any ops Q fuel listed a w := by
  have least : ∀ listed : Array Bool, listed.size = ops.size → Region.ready .any ops listed = [] → remI ops listed = [] := by
    intro listed hsz hr
    cases hrem : remI ops listed with
    | nil => rfl
    | cons k rest =>
      exfalso
      have hk := mem_remI.1 (show k ∈ remI ops listed by rw [hrem]; exact List.mem_cons_self ..)
      have hsort := remI_sorted ops listed
      rw [hrem, List.pairwise_cons] at hsort
      have : k ∈ Region.ready .any ops listed := by
        refine mem_ready.2 ⟨hk.2, ops[k]'hk.1, Array.getElem?_eq_getElem hk.1, fun e he hb => ?_⟩
        have hlt := hsw.1 k _ (Array.getElem?_eq_getElem hk.1) e he hb
        rw [← getD_both (by omega)]
        refine Classical.byContradiction fun hn => ?_
        have hm : e.on ∈ remI ops listed := mem_remI.2 ⟨by omega, by simpa using hn⟩
        rw [hrem] at hm
        rcases List.mem_cons.1 hm with h | h
        · omega
        · have := hsort.1 _ h; omega
      rw [hr] at this
      cases this
  intro fuel
  induction fuel with
  | zero =>
    intro listed A a w hsz hl hcl hs h
    have : remI ops listed = [] := List.length_eq_zero_iff.1 (by omega)
    rw [this] at h
    cases h
    refine ⟨?_, hQ a w hs⟩
    cases hr : Region.ready .any ops listed with
    | nil => rfl
    | cons i l =>
      exfalso
      obtain ⟨h0, o, ho, _⟩ := mem_ready.1 (show i ∈ Region.ready .any ops listed by rw [hr]; exact List.mem_cons_self ..)
      have : i ∈ remI ops listed := mem_remI.2 ⟨(Array.getElem?_eq_some_iff.1 ho).1, h0⟩
      rw [‹remI ops listed = []›] at this
      cases this
  | succ fuel ih =>
    intro listed A a w hsz hl hcl hs h
    refine ⟨fun hr => ?_, fun j hj => ?_⟩
    · rw [least listed hsz hr] at h
      cases h
      exact hQ a w hs
    · obtain ⟨h0, y, hy, hall⟩ := mem_ready.1 hj
      have hjs := (Array.getElem?_eq_some_iff.1 hy).1
      have hm : j ∈ remI ops listed := mem_remI.2 ⟨hjs, h0⟩
      obtain ⟨pre, post, hsplit⟩ := List.append_of_mem hm
      have hsort := remI_sorted ops listed
      rw [hsplit, List.pairwise_append, List.pairwise_cons] at hsort
      obtain ⟨_, ⟨s2, _⟩, s3⟩ := hsort
      rw [hsplit] at h
      obtain ⟨B, k1, k2⟩ := front hΦ hok hsw hy pre A ⟨a, w, hs⟩ (fun i hi => by
        refine ⟨s3 i hi j (List.mem_cons_self ..), ?_⟩
        refine Classical.byContradiction fun hn => ?_
        have hl := reach_listed hcl ops.size j i (by simpa using hn) fun o ho => by rw [hy] at ho; cases ho; exact hall
        have hi' := mem_remI.1 (show i ∈ remI ops listed by rw [hsplit]; exact List.mem_append_left _ hi)
        rw [getD_both (by omega), hl] at hi'
        cases hi'.2) h
      have hin : y ∈ ops.toList := by simpa using Array.mem_of_getElem? hy
      refine xstep_wp hΦ hy (List.all_eq_true.1 hok y hin) k1 hs fun a' w' hs' => ?_
      have hrem : remI ops (listed.setIfInBounds j true) = pre ++ post := by
        have e1 : remI ops (listed.setIfInBounds j true) = (remI ops listed).filter (fun k => k != j) := by
          unfold remI
          rw [List.filter_filter]
          refine List.filter_congr fun k hk => ?_
          by_cases hkj : k = j
          · subst hkj
            simp [hsz ▸ hjs]
          · rw [getD_set_ne true (Ne.symm hkj)]; simp [hkj]
        rw [e1, hsplit, List.filter_append, List.filter_cons_of_neg (by simp)]
        rw [List.filter_eq_self.2 fun k hk => by have := s3 k hk j (List.mem_cons_self ..); simp; omega,
          List.filter_eq_self.2 fun k hk => by have := s2 k hk; simp; omega]
      refine ih _ B a' w' (by simp [hsz]) (by rw [hrem]; rw [hsplit] at hl; simp at hl ⊢; omega) ?_ hs' (by rw [hrem]; exact k2)
      intro i o ho hli e he hb
      by_cases hij : i = j
      · subst hij
        rw [hy] at ho; cases ho
        exact getD_set_true (hall e he hb)
      · rw [getD_set_ne false (Ne.symm hij)] at hli
        exact getD_set_true (hcl i o ho hli e he hb)

theorem Sat.drawn {g : G} {A : St} {a : Act} {w : World} (h : Sat g A a w) (n : Nat) (hn : w.drawn ≤ n) : Sat g A a { w with drawn := n } := by
  obtain ⟨S, E, F, hr⟩ := h
  refine ⟨S, E, F, { hr with sl := ?_, root := ?_, output := ⟨hr.output.1, Nat.le_trans hr.output.2 hn⟩ }⟩
  · intro t d hd
    exact (hr.sl t d hd).mono (fun _ h => h) (.refl _ _) fun _ _ => rfl
  · intro r R hR
    obtain ⟨p, f, h1, h2, h3, h4, h5, h6, h7⟩ := hr.root r R hR
    refine ⟨p, f, h1, h2, h3, h4, h5, h6, ?_⟩
    cases hat : p.at? with
    | none => rw [hat] at h7; exact h7
    | some bo =>
      rw [hat] at h7
      obtain ⟨fr, k1, k2, k3⟩ := h7
      exact ⟨fr, k1, k2.keep rfl, k3.mono (fun _ h => h) (.refl _ _) fun _ _ => rfl⟩

/-- A region that draws its order: every order leaves what the text's leaves. -/
theorem tri_any (hm : P.follows .mixedOrders = true) (hΦ : FsOK P Φ) {id : Nat} {ops : Array Oper} {A A' : St} {Q : Exit → St → Prop} (hok : opsOK ops = true) (hsw : Swaps P Φ ops)
    (h : runf P Φ ops ops.toList A = some A') (hQ : Q .normal A') : Tri P (.region id ops true) A Q := by
  intro g a w hs
  refine wp_region_any hm ?_
  have h0 : remI ops (Array.replicate ops.size false) = List.range ops.size := by
    unfold remI
    refine List.filter_eq_self.2 fun i hi => ?_
    have := List.mem_range.1 hi
    simp [this]
  refine wpAny_run hΦ hok hsw (Af := A') (fun a' w' hs' => ⟨A', hs', hQ⟩) ops.size _ A a _ (by simp) (by rw [h0]; simp) ?_ (hs.drawn _ (Nat.le_succ _)) ?_
  · intro j o ho hl e he hb
    have hj := (Array.getElem?_eq_some_iff.1 ho).1
    simp [hj] at hl
  · rw [h0, List.range_eq_range', ← runI_range ops.size 0 A (by omega)]
    simpa using h

end
end Go.Dl
