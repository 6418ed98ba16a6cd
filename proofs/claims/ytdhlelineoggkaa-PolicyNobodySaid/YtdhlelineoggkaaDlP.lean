/- 'Dl', part P: append is what the function says. -/
import Derived.Test.YtdhlelineoggkaaDlO
namespace Go.Dl
open Go.RowKit

section
variable {P : Program} {g : G} {S : Nat → Prop} {E : Env} {F : List (List Nat)} {A : St} {a : Act} {w : World}

theorem nodup_at {F : List (List Nat)} {r : Nat} {f : List Nat} (hn : F.flatten.Nodup) (h : F[r]? = some f) : f.Nodup := by
  obtain ⟨xs', ys', q1, _⟩ := flatten_set (f' := []) h
  rw [q1] at hn
  exact (List.nodup_append.1 (List.nodup_append.1 hn).2.1).1

theorem drop_append' {α : Type} (xs ys : List α) (n : Nat) : (xs ++ ys).drop n = xs.drop n ++ ys.drop (n - xs.length) := List.drop_append

/-- The room is there: what is behind the row's end is written. -/
theorem append_room {r : Nat} (hr : Rel g S E F A a w) (hfree : Free A r) {lo len cap b off : Nat} {R : Root} {p : Pl} {f : List Nat} {src : List (List C)} {news : List Value} (hR : A.H[r]? = some (some R)) (hd : R.dat = true)
    (hE : E[r]? = some (some p)) (hF : F[r]? = some f) (hat : p.at? = some (b, off)) (hroot : RootAt w S E R p f) (hlo : lo + len ≤ p.n) (hcap : lo + cap ≤ p.m) (hfit : len + src.length ≤ cap)
    (hl : ∀ r ∈ src, r.length = R.es) (hnl : news.length = src.length * R.es) (hone : ∀ v ∈ news, v.oneCell' = true)
    (hrep : ∀ (w' : World) (b' off' : Nat), (∀ (j : Nat) (v : Value), news[j]? = some v → w'.cell? ⟨b', off' + j, none⟩ = some v) → (∀ b, S b → w'.heap[b]? = w.heap[b]?) → Rep w' S E (.l true src.flatten b' off') []) :
    ∃ E' F', (storeCells ⟨b, off + (lo + len) * R.es, none⟩ news).run P w = .ok () (w.setCells b (off + (lo + len) * R.es) news) ∧
      Rel g S E' F' { A with H := A.H.set r (some { R with rows := (R.rows.drop lo).take len ++ src }) } a (w.setCells b (off + (lo + len) * R.es) news) ∧
      E'[r]? = some (some ⟨some (b, off + lo * R.es), R.es, len + src.length, cap⟩) := by
  obtain ⟨g1, g2, g3, g4, g5⟩ := hroot
  rw [hat] at g5
  obtain ⟨fr, rfl, hown, hrow⟩ := g5
  have hbS : ¬ S b := hr.fS b (flat_get hF b (List.mem_cons_self ..))
  have hnd := nodup_at hr.nodup hF
  have hbfr : b ∉ fr := (List.nodup_cons.1 hnd).1
  obtain ⟨arr, el, z, k1, k2, k3⟩ := hown
  have hm1 : (lo + cap) * R.es ≤ p.m * R.es := Nat.mul_le_mul_right _ hcap
  have hm2 : (lo + (len + src.length)) * R.es ≤ (lo + cap) * R.es := Nat.mul_le_mul_right _ (by omega)
  have hm3 : (lo + (len + src.length)) * R.es = (lo + len) * R.es + src.length * R.es := by rw [← Nat.add_assoc, Nat.add_mul]
  have hcell : ∀ j, j < news.length → (w.cell? ⟨b, off + (lo + len) * R.es + j, none⟩).isSome = true := by
    intro j hj
    simp only [World.cell?, k1]
    have : off + (lo + len) * R.es + j < arr.size := by omega
    simp [this]
  have hst := run_storeCells_cells (P := P) b (off + (lo + len) * R.es) news 0 w (fun j hj => by rw [Nat.add_zero]; exact hcell j hj)
    (fun j hj => by rw [Nat.add_zero]; exact k3 _ (by omega)) hone
  rw [Nat.add_zero] at hst
  have hheap : ∀ b', b' ≠ b → (w.setCells b (off + (lo + len) * R.es) news).heap[b']? = w.heap[b']? := fun b' h => heap_setCells b news _ w b' h
  obtain ⟨z1, z2, z3, z4⟩ := size_setCells b news (off + (lo + len) * R.es) w
  rw [hd] at hrow
  obtain ⟨f1, f2, f3, hff, hkeep⟩ := flatten_sub g4 hrow lo len (by omega)
  have hkl : ∀ r ∈ (R.rows.drop lo).take len, r.length = R.es := fun r hr => g4 r (List.mem_of_mem_drop (List.mem_of_mem_take hr))
  have hklen : ((R.rows.drop lo).take len).length = len := by rw [List.length_take, List.length_drop]; omega
  have hnew : Rep (w.setCells b (off + (lo + len) * R.es) news) S E (.l true ((R.rows.drop lo).take len ++ src).flatten b (off + lo * R.es)) (f2 ++ []) := by
    rw [List.flatten_append]
    refine Rep.join (hkeep.congr ?_ ?_) ?_
    · intro j hj
      rw [flatten_len hkl, hklen] at hj
      have : (lo + len) * R.es = lo * R.es + len * R.es := Nat.add_mul ..
      exact World.cell?_setCells_out b news _ w _ (fun _ _ => .inl (show off + lo * R.es + j < off + (lo + len) * R.es by omega))
    · intro b' hb'
      refine hheap b' (fun h => ?_)
      subst h
      rcases hb' with h | h
      · exact hbS h
      · exact hbfr (by rw [hff]; exact List.mem_append_right _ (List.mem_append_left _ h))
    · rw [flatten_len hkl, hklen]
      refine hrep _ _ _ ?_ (fun b' hb' => hheap b' (fun h => by subst h; exact hbS hb'))
      intro j v hj
      have := World.cell?_setCells_in b news (off + (lo + len) * R.es) w hcell j (lt_len hj)
      rw [show off + lo * R.es + len * R.es + j = off + (lo + len) * R.es + j by rw [Nat.add_mul]; omega, this]
      rw [List.getElem?_eq_getElem (lt_len hj)] at hj
      exact hj
  rw [List.append_nil] at hnew
  have hE' : EnvLe E (E.set r (some ⟨some (b, off + lo * R.es), R.es, len + src.length, cap⟩)) (fun _ => true) := envLe_set hE (.inl rfl)
  have hres := hr.setRoot (w' := w.setCells b (off + (lo + len) * R.es) news) (R' := { R with rows := (R.rows.drop lo).take len ++ src }) (p' := ⟨some (b, off + lo * R.es), R.es, len + src.length, cap⟩) (f' := b :: f2) hR hE hF
    (fun b' hb' => hheap b' (fun h => by subst h; exact hbS hb'))
    (fun b' _ hb' => hheap b' (fun h => by subst h; exact hb' (List.mem_cons_self ..)))
    (fun b' hb1 hb2 => hheap b' (fun h => by
      subst h
      rcases (hr.fsz b' (flat_get hF b' (List.mem_cons_self ..))).2 with h | h
      · exact hb2 h
      · omega))
    (by rw [z1]; exact Nat.le_refl _) z2 z3 z4 ?_ ?_ ?_ (.inr hfree) rfl (fun h => by rw [hd] at h; cases h)
  · exact ⟨_, _, hst, hres, by rw [List.getElem?_set_self (lt_len hE)]⟩
  · refine ⟨rfl, by rw [List.length_append, hklen], hfit, ?_, f2, rfl, ?_, ?_⟩
    · intro r' hr'
      rcases List.mem_append.1 hr' with h | h
      · exact hkl r' h
      · exact hl r' h
    · refine own_setCells b _ _ w ⟨arr, el, z, k1, ?_, k3⟩
      show off + lo * R.es + cap * R.es ≤ arr.size
      rw [Nat.add_mul] at hm1; omega
    · rw [hd]
      exact hnew.mono (fun _ h => h) ⟨hE'.1, fun i hi h q hq => by simp [It.no] at h⟩ (fun _ _ => rfl)
  · rw [hff] at hnd
    have n1 := List.nodup_cons.1 hnd
    refine List.nodup_cons.2 ⟨fun h => n1.1 (List.mem_append_right _ (List.mem_append_left _ h)), (List.nodup_append.1 (List.nodup_append.1 n1.2).2.1).1⟩
  · intro b' hb'
    have hmem : b' ∈ b :: fr := by
      rcases List.mem_cons.1 hb' with h | h
      · rw [h]; exact List.mem_cons_self ..
      · rw [hff]; exact List.mem_cons_of_mem _ (List.mem_append_right _ (List.mem_append_left _ h))
    exact ⟨.inl hmem, by rw [z1]; exact (hr.fsz b' (flat_get hF b' hmem)).1⟩

/-- A row moves into a new block, with more behind it. -/
theorem append_move {r : Nat} (hr : Rel g S E F A a w) (hfree : Free A r) {lo len : Nat} {R : Root} {p : Pl} {f : List Nat} {src : List (List C)} {news olds rest : List Value} {el : TypeId} {m : Nat} (hR : A.H[r]? = some (some R)) (hd : R.dat = true)
    (hE : E[r]? = some (some p)) (hF : F[r]? = some f) (hkl : ∀ r ∈ (R.rows.drop lo).take len, r.length = R.es) (hklen : ((R.rows.drop lo).take len).length = len) {f2 : List Nat} (hf2 : ∀ x ∈ f2, x ∈ f) (hf2n : f2.Nodup)
    (hol : olds.length = len * R.es) (hold : ∀ (w' : World) (b' off' : Nat), (∀ (j : Nat) (v : Value), olds[j]? = some v → w'.cell? ⟨b', off' + j, none⟩ = some v) → (∀ b, S b ∨ b ∈ f2 → w'.heap[b]? = w.heap[b]?) → Rep w' S E (.l true ((R.rows.drop lo).take len).flatten b' off') f2)
    (hl : ∀ r ∈ src, r.length = R.es) (hnl : news.length = src.length * R.es) (hm : len + src.length ≤ m) (hrl : m * R.es ≤ olds.length + news.length + rest.length)
    (hrep : ∀ (w' : World) (b' off' : Nat), (∀ (j : Nat) (v : Value), news[j]? = some v → w'.cell? ⟨b', off' + j, none⟩ = some v) → (∀ b, S b → w'.heap[b]? = w.heap[b]?) → Rep w' S E (.l true src.flatten b' off') []) :
    ∃ E' F', Rel g S E' F' { A with H := A.H.set r (some { R with rows := (R.rows.drop lo).take len ++ src }) } a (w.alloc (.cells (olds ++ news ++ rest).toArray el)) ∧
      E'[r]? = some (some ⟨some (w.heap.size, 0), R.es, len + src.length, m⟩) := by
  have hheap : ∀ b, b < w.heap.size → (w.alloc (.cells (olds ++ news ++ rest).toArray el)).heap[b]? = w.heap[b]? := fun b hb => heap_alloc_lt w _ hb
  have hnew : (w.alloc (.cells (olds ++ news ++ rest).toArray el)).heap[w.heap.size]? = some (.cells (olds ++ news ++ rest).toArray el) := heap_alloc_new w _
  have hSlt : ∀ b, S b → b < w.heap.size := fun b h => (hr.Ssz b h).1
  have hflt : ∀ b, b ∈ f → b < w.heap.size := fun b h => (hr.fsz b (flat_get hF b h)).1
  have hcell : ∀ (j : Nat) (v : Value), (olds ++ news)[j]? = some v → (w.alloc (.cells (olds ++ news ++ rest).toArray el)).cell? ⟨w.heap.size, j, none⟩ = some v := by
    intro j v hj
    simp only [World.cell?, hnew]
    rw [List.getElem?_toArray, List.getElem?_append_left (lt_len hj), hj]
    simp
  have hE' : EnvLe E (E.set r (some ⟨some (w.heap.size, 0), R.es, len + src.length, m⟩)) (fun _ => true) := envLe_set hE (.inl rfl)
  have hres := hr.setRoot (w' := w.alloc (.cells (olds ++ news ++ rest).toArray el)) (R' := { R with rows := (R.rows.drop lo).take len ++ src }) (p' := ⟨some (w.heap.size, 0), R.es, len + src.length, m⟩) (f' := w.heap.size :: f2) hR hE hF
    (fun b' hb' => hheap b' (hSlt b' hb'))
    (fun b' hb' _ => hheap b' (hr.fsz b' hb').1)
    (fun b' hb1 hb2 => hheap b' (Nat.lt_of_lt_of_le hb1 hr.size))
    (by simp) rfl rfl (.rf _) ?_ ?_ ?_ (.inr hfree) rfl (fun h => by rw [hd] at h; cases h)
  · exact ⟨_, _, hres, by rw [List.getElem?_set_self (lt_len hE)]⟩
  · refine ⟨rfl, by rw [List.length_append, hklen], hm, ?_, f2, rfl, ?_, ?_⟩
    · intro r' hr'
      rcases List.mem_append.1 hr' with h | h
      · exact hkl r' h
      · exact hl r' h
    · refine ⟨_, el, (0, 0), hnew, ?_, fun o ho => ?_⟩
      · simp at hrl ⊢; omega
      · simp only [World.frozen?, hnew]
        simp
    · rw [hd]
      have : Rep (w.alloc (.cells (olds ++ news ++ rest).toArray el)) S E (.l true ((R.rows.drop lo).take len ++ src).flatten w.heap.size 0) (f2 ++ []) := by
        rw [List.flatten_append]
        refine Rep.join (hold _ _ _ ?_ ?_) ?_
        · intro j v hj
          rw [Nat.zero_add]
          exact hcell j v (by rw [List.getElem?_append_left (lt_len hj)]; exact hj)
        · intro b hb
          exact hheap b (hb.elim (hSlt b) (fun h => hflt b (hf2 b h)))
        · rw [flatten_len hkl, hklen]
          refine hrep _ _ _ ?_ (fun b hb => hheap b (hSlt b hb))
          intro j v hj
          rw [Nat.zero_add]
          refine hcell _ v ?_
          rw [List.getElem?_append_right (by omega), hol, Nat.add_sub_cancel_left]; exact hj
      rw [List.append_nil] at this
      exact this.mono (fun _ h => h) ⟨hE'.1, fun i hi h q hq => by simp [It.no] at h⟩ (fun _ _ => rfl)
  · exact List.nodup_cons.2 ⟨fun h => Nat.lt_irrefl _ (hflt _ (hf2 _ h)), hf2n⟩
  · intro b' hb'
    rcases List.mem_cons.1 hb' with h | h
    · subst h; exact ⟨.inr (Nat.le_refl _), by simp⟩
    · exact ⟨.inl (hf2 b' h), by simp; exact Nat.lt_succ_of_lt (hflt b' (hf2 b' h))⟩

theorem zeroCells_len (z : Array Value) (n : Nat) : (Builtin.zeroCells z n).size = n * z.size := by simp [Builtin.zeroCells]

theorem append_sound (hr : Rel g S E F A a w) {t xt ty : TypeId} {d x d' : D} {v vx : Value} {A' : St} {xd : TypeDesc} (hxt : P.underlying xt = some xd) (hxd : xd = .string ∨ ∃ e', xd = .slice e') (hd : RepD w S E d v) (hx : RepD w S E x vx)
    (h : appendA P A t d x = some (d', A')) :
    ∃ v' w' E' F', (Builtin.append_ #[t, xt] ty #[v, vx]).run P w = .ok v' w' ∧ Rel g S E' F' A' a w' ∧ RepD w' S E' d' v' := by
  unfold appendA at h
  split at h
  · rename_i e hk
    split at h
    · rename_i r lo len z es src hz hsrc
      split at h
      · rename_i R hR
        split at h
        · rename_i hc
          obtain ⟨c1, c2, c3, c4, c5, c6, c7, c8⟩ := hc
          cases h
          subst c2
          obtain ⟨p, f, h1, h2, h3, h4⟩ := handle_live hr hR hd
          obtain ⟨news, s1, s2, s3, s4, s5, s6⟩ := src_sound (P := P) hr hx hsrc c3
          have hr1 := hr.kill r
          have hfree := kill_free A r
          have hR1 : (A.kill r).H[r]? = some (some R) := by
            simp only [St.kill, killH, List.getElem?_map, hR, Option.map_some, Root.kill, c4, if_true]
          have hroot := h3
          obtain ⟨g1, g2, g3, g4, g5⟩ := h3
          obtain ⟨k1, k2⟩ := h4
          have hzs : tsz P e ≠ 0 := by omega
          obtain ⟨i, hi⟩ := tsz_info hzs
          have hby : i.bytes = P.bytesOf e := by simp [Program.bytesOf, hi]
          have hsz : (sizeOf e).run P w = .ok R.es w := by rw [run_tsz' hzs, c1]
          have hlo : lo + len ≤ R.rows.length := by omega
          have hkl : ∀ r ∈ (R.rows.drop lo).take len, r.length = R.es := fun r hr => g4 r (List.mem_of_mem_drop (List.mem_of_mem_take hr))
          have hklen : ((R.rows.drop lo).take len).length = len := by rw [List.length_take, List.length_drop]; omega
          -- the value; the room
          have hval : ∃ base cap, v = .slice base len cap ∧ len ≤ cap := by
            cases hat : p.at? with
            | none =>
              rw [hat] at k2 g5
              obtain ⟨ad, rfl⟩ := k2
              obtain ⟨q1, _, _⟩ := g5
              have : len = 0 := by rw [q1] at hlo; simp at hlo; omega
              subst this; exact ⟨_, _, rfl, Nat.le_refl _⟩
            | some bo => rw [hat] at k2; obtain ⟨ad, cap, rfl, q2, _⟩ := k2; exact ⟨_, _, rfl, q2⟩
          obtain ⟨base, cap, rfl, hlc⟩ := hval
          by_cases hfit : len + src.length ≤ cap
          · -- in place
            have hrun : ∀ w', (∀ ad, base = some ad → (storeCells (ad.add (len * R.es)) news).run P w = .ok () w') → (base = none → w' = w) →
                (Builtin.append_ #[t, xt] ty #[.slice base len cap, vx]).run P w = .ok (.slice base (len + src.length) cap) w' := by
              intro w' hs hn
              rcases hxd with rfl | ⟨e', rfl⟩ <;>
              · simp only [Builtin.append_, List.getElem?_toArray, List.getElem?_cons_zero, List.getElem?_cons_succ, Sem.run_bind, run_und (tk_slice hk), Result.andThen_ok, hsz, run_und hxt, Sem.run_pure,
                  Bool.false_eq_true, if_false, s2, Sem.run_ite, if_pos hfit, Bool.not_false, if_true, s3]
                cases base with
                | none => simp [hn rfl]
                | some ad => simp [hs ad rfl]
            by_cases hn0 : len + src.length = 0
            · -- nothing at all
              have hl0 : len = 0 := by omega
              have hs0 : src.length = 0 := by omega
              have hsrc0 : src = [] := List.eq_nil_of_length_eq_zero hs0
              have hnews0 : news = [] := List.eq_nil_of_length_eq_zero (by rw [s4, hs0, Nat.zero_mul])
              subst hl0 hsrc0 hnews0
              have hrun' := hrun w (fun ad _ => by simp [storeCells]) (fun _ => rfl)
              cases hat : p.at? with
              | none =>
                rw [hat] at k2 g5
                obtain ⟨ad, hv⟩ := k2
                obtain ⟨q1, q2, q3⟩ := g5
                have hres := hr1.setRoot (w' := w) (R' := { R with rows := (R.rows.drop lo).take 0 ++ [] }) (p' := p) (f' := f) hR1 h1 h2 (fun _ _ => rfl) (fun _ _ _ => rfl) (fun _ _ _ => rfl) (Nat.le_refl _) rfl rfl (.rf _)
                  ⟨g1, by rw [g2, q1]; simp, g3, by simp, by rw [hat]; exact ⟨by simp, q2, q3⟩⟩ (nodup_at hr.nodup h2) (fun b hb => ⟨.inl hb, (hr.fsz b (flat_get h2 b hb)).1⟩) (.inl p.le_refl) rfl (fun _ => p.le_refl)
                refine ⟨_, _, _, _, hrun', hres, .c (.h (by simp; exact lt_len h1) ?_)⟩
                intro pl hpl
                rw [List.getElem?_set_self (lt_len h1)] at hpl
                cases hpl
                refine ⟨by omega, ?_⟩
                rw [hat]
                exact ⟨ad, by simpa using hv⟩
              | some bo =>
                obtain ⟨b, off⟩ := bo
                rw [hat] at k2 g5
                obtain ⟨ad, cap', hv, q2, q3, q4⟩ := k2
                cases hv
                obtain ⟨fr, e1, e2, e3⟩ := g5
                have hres := hr1.setRoot (w' := w) (R' := { R with rows := (R.rows.drop lo).take 0 ++ [] }) (p' := if cap = 0 then ⟨none, R.es, 0, 0⟩ else ⟨some (b, off + lo * R.es), R.es, 0, cap⟩) (f' := if cap = 0 then [] else [b]) hR1 h1 h2 (fun _ _ => rfl) (fun _ _ _ => rfl) (fun _ _ _ => rfl) (Nat.le_refl _) rfl rfl (.rf _)
                  (by
                    by_cases hcap0 : cap = 0
                    · simp only [hcap0, if_true]
                      exact ⟨rfl, by simp, Nat.le_refl _, by simp, by simp, rfl, rfl⟩
                    · simp only [if_neg hcap0]
                      refine ⟨rfl, by simp, Nat.zero_le _, by simp, [], rfl, ?_, by simpa using (Rep.lnil (w := w) (S := S))⟩
                      obtain ⟨arr, el, zz, m1, m2, m3⟩ := e2
                      refine ⟨arr, el, zz, m1, ?_, m3⟩
                      show off + lo * R.es + cap * R.es ≤ arr.size
                      have := Nat.mul_le_mul_right R.es q3
                      rw [Nat.add_mul] at this; omega)
                  (by split <;> simp) (by
                    intro b' hb'
                    split at hb'
                    · cases hb'
                    · simp at hb'
                      subst hb'
                      exact ⟨.inl (by rw [e1]; exact List.mem_cons_self ..), (hr.fsz b' (flat_get h2 b' (by rw [e1]; exact List.mem_cons_self ..))).1⟩) (.inr hfree) rfl (fun h => by rw [c4] at h; cases h)
                refine ⟨_, _, _, _, hrun', hres, .c (.h (by simp; exact lt_len h1) ?_)⟩
                intro pl hpl
                rw [List.getElem?_set_self (lt_len h1)] at hpl
                cases hpl
                by_cases hcap0 : cap = 0
                · subst hcap0
                  simp only [if_true]
                  exact ⟨by simp, some ad, by simp⟩
                · simp only [if_neg hcap0]
                  refine ⟨by simp, ad, cap, by simp, by omega, by simp, .inr ?_⟩
                  rcases q4 with q4 | q4
                  · omega
                  · rw [q4, g1]; simp
            · -- there is something: the block is known
              have hcap0 : cap ≠ 0 := by omega
              cases hat : p.at? with
              | none =>
                rw [hat] at k2
                obtain ⟨ad, hv⟩ := k2
                cases hv
                omega
              | some bo =>
                obtain ⟨b, off⟩ := bo
                rw [hat] at k2
                obtain ⟨ad, cap', hv, q2, q3, q4⟩ := k2
                cases hv
                have had : ad = ⟨b, off + lo * R.es, none⟩ := by
                  rcases q4 with q4 | q4
                  · omega
                  · rw [q4, g1]
                subst had
                obtain ⟨E', F', w1, w2, w3⟩ := append_room (P := P) hr1 hfree hR1 c4 h1 h2 hat hroot k1 q3 hfit s1 s4 s5 s6
                have hrun' := hrun (w.setCells b (off + (lo + len) * R.es) news) (fun ad had => by
                  cases had
                  rw [addr_add, show off + lo * R.es + len * R.es = off + (lo + len) * R.es by rw [Nat.add_mul]; omega]
                  exact w1) (fun h => by cases h)
                refine ⟨_, _, _, _, hrun', w2, .c (.h (lt_len w3) ?_)⟩
                intro pl hpl
                rw [w3] at hpl
                cases hpl
                exact ⟨by simp, _, _, rfl, hfit, by simp, .inr (by simp)⟩
          · -- it grows
            have hlt : cap < len + src.length := by omega
            have hgrow : ¬ (Builtin.nextslicecap (len + src.length) cap * i.bytes > 2 ^ 48) := by
              have := growslice_fits (bytes := i.bytes) hlt (by rw [hby]; omega)
              omega
            have hbz : ¬ (((len + src.length : Nat) : Int) > IntKind.i64.max ∧ (False ∨ i.bytes = 0)) := by
              intro hh
              rcases hh.2 with hh | hh
              · exact hh
              · exact c6 (by rw [← hby]; exact hh)
            obtain ⟨zv, z1, z2, z3⟩ := tz_some (P := P) (w := { w with drawn := w.drawn + 1 }) (S := S) (E := E) hz
            -- the old cells
            have holds : ∃ (olds : List Value) (f2 : List Nat), (Builtin.firstCells R.es len (.slice base len cap)).run P { w with drawn := w.drawn + 1 } = .ok olds.toArray { w with drawn := w.drawn + 1 } ∧ olds.length = len * R.es ∧ (∀ x ∈ f2, x ∈ f) ∧ f2.Nodup ∧
                ∀ (w' : World) (b' off' : Nat), (∀ (j : Nat) (v : Value), olds[j]? = some v → w'.cell? ⟨b', off' + j, none⟩ = some v) → (∀ b, S b ∨ b ∈ f2 → w'.heap[b]? = w.heap[b]?) → Rep w' S E (.l true ((R.rows.drop lo).take len).flatten b' off') f2 := by
              by_cases hl0 : len = 0
              · subst hl0
                refine ⟨[], [], ?_, by simp, by simp, by simp, fun _ _ _ _ _ => by simpa using (Rep.lnil)⟩
                cases base <;> simp [Builtin.firstCells, loadCells, loadCellsFrom]
              · cases hat : p.at? with
                | none =>
                  rw [hat] at k2
                  obtain ⟨ad, hv⟩ := k2
                  cases hv
                  omega
                | some bo =>
                  obtain ⟨b, off⟩ := bo
                  rw [hat] at k2 g5
                  obtain ⟨ad, cap', hv, q2, q3, q4⟩ := k2
                  cases hv
                  have had : ad = ⟨b, off + lo * R.es, none⟩ := by
                    rcases q4 with q4 | q4
                    · omega
                    · rw [q4, g1]
                  subst had
                  obtain ⟨fr, rfl, e2, e3⟩ := g5
                  rw [c4] at e3
                  obtain ⟨f1, f2, f3, hff, hkeep⟩ := flatten_sub g4 e3 lo len (by omega)
                  obtain ⟨vs, m1, m2, m3⟩ := hkeep.vals
                  have hnd := nodup_at hr.nodup h2
                  rw [hff] at hnd
                  rw [flatten_len hkl, hklen] at m1
                  refine ⟨vs, f2, ?_, m1, ?_, (List.nodup_append.1 (List.nodup_append.1 (List.nodup_cons.1 hnd).2).2.1).1, m3⟩
                  · exact run_firstCells_some _ R.es len ⟨b, off + lo * R.es, none⟩ len cap vs m1 (fun j v hj => by rw [addr_add]; exact m2 j v hj)
                  · intro x hx
                    rw [hff]
                    exact List.mem_cons_of_mem _ (List.mem_append_right _ (List.mem_append_left _ hx))
            obtain ⟨olds, f2, o1, o2, o3, o4, o5⟩ := holds
            obtain ⟨news', t1, t2, t3, t4, t5, t6⟩ := src_sound (P := P) (hr.drawn (w.drawn + 1) (Nat.le_succ _)) (x := x) (vx := vx) (hx.mono (fun _ h => h) (.refl _ _) (fun _ _ => rfl)) hsrc c3
            have hneed := Nat.le_add_right (len + src.length) (w.tape w.drawn (.appendCap (len + src.length) cap e) % (2 ^ 63 - (len + src.length)))
            generalize hcapdef : (len + src.length) + w.tape w.drawn (.appendCap (len + src.length) cap e) % (2 ^ 63 - (len + src.length)) = newCap at hneed
            have hzz : zv.cells.size = R.es := by omega
            obtain ⟨E', F', w2, w3⟩ := append_move (hr1.drawn (w.drawn + 1) (Nat.le_succ _)) hfree (el := e) (m := newCap) (rest := (Builtin.zeroCells zv.cells (newCap - (len + src.length))).toList) hR1 c4 h1 h2 hkl hklen o3 o4 o2 o5 t1 t4 hneed
              (by
                have hzl : (Builtin.zeroCells zv.cells (newCap - (len + src.length))).toList.length = (newCap - (len + src.length)) * R.es := by
                  rw [← hzz, ← zeroCells_len]; simp
                rw [o2, t4, hzl, ← Nat.add_mul, ← Nat.add_mul]
                exact Nat.mul_le_mul_right _ (by omega)) t6
            refine ⟨.slice (some ⟨w.heap.size, 0, none⟩) (len + src.length) newCap, _, E', F', ?_, w2, .c (.h (lt_len w3) ?_)⟩
            · have hroom : ∀ n (w0 : World), (askRoom n).run P w0 = .ok () w0 := by
                intro n w0
                unfold askRoom; split
                · simp [mark, Sem.run]
                · rfl
              have hchoose : (choose (.appendCap (len + src.length) cap e)).run P w = .ok newCap { w with drawn := w.drawn + 1 } := by
                simp [choose, Sem.run, Question.forced, Question.cut, hcapdef]
              rcases hxd with rfl | ⟨e', rfl⟩ <;>
              · simp only [Builtin.append_, List.getElem?_toArray, List.getElem?_cons_zero, List.getElem?_cons_succ, Sem.run_bind, run_und (tk_slice hk), Result.andThen_ok, hsz, run_und hxt, Sem.run_pure,
                  Bool.false_eq_true, if_false, s2, Sem.run_ite, if_neg hfit, run_typeInfo w hi]
                rw [if_neg hbz]
                simp only [Result.andThen_ok, if_neg hgrow, hchoose, run_typeInfo _ hi, hroom, o1, Bool.not_false, if_true, t3, z1, run_newRow]
                have hcat : (olds.toArray ++ news'.toArray ++ Builtin.zeroCells zv.cells (newCap - (len + src.length))) = (olds ++ news' ++ (Builtin.zeroCells zv.cells (newCap - (len + src.length))).toList).toArray := by
                  apply Array.toList_inj.1
                  simp
                rw [hcat]
            · intro pl hpl
              rw [w3] at hpl
              cases hpl
              exact ⟨by simp, _, _, rfl, hneed, by simp, .inr (by simp)⟩
        · cases h
      · cases h
    · cases h
  · cases h

end
end Go.Dl
