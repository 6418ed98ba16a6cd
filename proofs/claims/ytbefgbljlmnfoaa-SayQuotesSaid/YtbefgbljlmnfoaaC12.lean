/- The walks of strings.Builder's WriteByte, WriteString, String: which blocks they change; strings.Builder's methods as contracts over plain data; The walks of a quote's parts: plain, escape. -/
import Derived.Test.YtbefgbljlmnfoaaC11
import Derived.Test.YtbefgbljlmnfoaaProg
import Derived.Shelf.Strings.Builder1
namespace Go.Dl
open Go.RowKit Go.Proofs
set_option linter.unusedSimpArgs false
set_option linter.unusedVariables false
set_option maxHeartbeats 1000000
set_option maxRecDepth 100000

/-- A builder as it lies: its block, its bytes, the blocks of these. -/
structure BdAt (w : World) (b : Nat) (p v : Value) (bs : List UInt8) (fp : List Nat) : Prop where
  blk : w.heap[b]? = some (.cells #[p, v] 69 (0, 0))
  ptr : p = .pointer none ∨ p = .pointer (some ⟨b, 0, none⟩)
  rep : Rep w (fun _ => False) [] (.k true (.u 5 bs) v) fp
  out : b ∉ fp

theorem cc_used (b : Nat) (w : World) (h0 : w.cell? ⟨b, 0, none⟩ = some (.pointer (some ⟨b, 0, none⟩))) :
    Calls Try.prog 60 #[.pointer (some ⟨b, 0, none⟩)] w fun e w' => e = .returned (.tuple #[]) ∧ w' = w := by
  obtain ⟨j, hj, hjs⟩ := Option.map_eq_some_iff.1 (show (Try.prog.info? 69).map (·.size) = some 2 by kernel_rfl)
  have mixed : Try.prog.follows .mixedOrders = true := by kernel_rfl
  have t69 := Try.underlying69; have a69 := Try.isAgg69; have z69 := Try.sizeOf69; have v69 := Try.zeroValue69; have u69 := run_underlying Try.underlying69
  have t67 := Try.underlying67; have a67 := Try.isAgg67; have z67 := Try.sizeOf67; have v67 := Try.zeroValue67; have u67 := run_underlying Try.underlying67
  have t9 := Try.underlying9; have a9 := Try.isAgg9; have z9 := Try.sizeOf9
  have t4 := Try.underlying4; have a4 := Try.isAgg4; have z4 := Try.sizeOf4
  have t110 := Try.underlying110; have a110 := Try.isAgg110; have z110 := Try.sizeOf110
  go_enter Try.func60, Try.ntmps60
  go_wp2
  rw [Lib.run_neq_ptr_same w _ Try.underlying67 hj]
  go_wp2
  go_end0
  exact ⟨rfl, rfl⟩

theorem cc_fresh (b : Nat) (w : World) (h0 : w.cell? ⟨b, 0, none⟩ = some (.pointer none)) (hsh : w.shape? b = some (69, 2)) (hfz : w.frozen? ⟨b, 0, none⟩ = false) :
    Calls Try.prog 60 #[.pointer (some ⟨b, 0, none⟩)] w fun e w' => e = .returned (.tuple #[]) ∧ w' = w.setCell ⟨b, 0, none⟩ (.pointer (some ⟨b, 0, none⟩)) := by
  obtain ⟨j, hj, hjs⟩ := Option.map_eq_some_iff.1 (show (Try.prog.info? 69).map (·.size) = some 2 by kernel_rfl)
  have mixed : Try.prog.follows .mixedOrders = true := by kernel_rfl
  have t69 := Try.underlying69; have a69 := Try.isAgg69; have z69 := Try.sizeOf69; have v69 := Try.zeroValue69; have u69 := run_underlying Try.underlying69
  have t67 := Try.underlying67; have a67 := Try.isAgg67; have z67 := Try.sizeOf67; have v67 := Try.zeroValue67; have u67 := run_underlying Try.underlying67
  have t9 := Try.underlying9; have a9 := Try.isAgg9; have z9 := Try.sizeOf9
  have t4 := Try.underlying4; have a4 := Try.isAgg4; have z4 := Try.sizeOf4
  have t110 := Try.underlying110; have a110 := Try.isAgg110; have z110 := Try.sizeOf110
  go_enter Try.func60, Try.ntmps60
  go_wp2
  rw [Lib.run_to_unsafe w ⟨b, 0, none⟩ Try.underlying67 Try.underlying110 hj (by rw [hjs]; decide) hsh (Nat.zero_lt_succ 1)]
  simp only [Result.andThen]
  rw [Oper.upon_value]
  go_wp2
  rw [run_callFunc_extern Try.func74 (by kernel_rfl) (by kernel_rfl) (by kernel_rfl) (e := Extern.AbiNoEscape.same) (by kernel_rfl)]
  rw [Lib.run_noEscape]
  simp only [Result.andThen]
  rw [Oper.upon_value]
  go_wp2
  rw [Lib.run_from_unsafe w ⟨b, 0, none⟩ Try.underlying110 Try.underlying67 hj hsh (by kernel_rfl)]
  simp only [Result.andThen]
  rw [Oper.upon_value]
  go_wp2
  go_end0
  exact ⟨rfl, rfl⟩

/-- What a method leaves. -/
structure BdKept (w w' : World) (b : Nat) (v : Value) (bs : List UInt8) (fp : List Nat) : Prop where
  at' : ∃ v' fp', BdAt w' b (.pointer (some ⟨b, 0, none⟩)) v' bs fp' ∧ UFrame w w' (b :: fp) fp'

theorem lt_of_heap {w : World} {b : Nat} {o : Go.Obj} (h : w.heap[b]? = some o) : b < w.heap.size := by
  rcases Nat.lt_or_ge b w.heap.size with h' | h'
  · exact h'
  · rw [Array.getElem?_eq_none h'] at h; cases h

theorem BdAt.cc {w : World} {b : Nat} {p v : Value} {bs : List UInt8} {fp : List Nat} (h : BdAt w b p v bs fp) :
    Calls Try.prog 60 #[.pointer (some ⟨b, 0, none⟩)] w fun e w' => e = .returned (.tuple #[]) ∧ BdAt w' b (.pointer (some ⟨b, 0, none⟩)) v bs fp ∧
      w'.os = w.os ∧ w'.tape = w.tape ∧ w'.output = w.output ∧ w'.drawn = w.drawn ∧ w'.heap.size = w.heap.size ∧ ∀ k, k ≠ b → w'.heap[k]? = w.heap[k]? := by
  obtain ⟨hb, hp, hr, ho⟩ := h
  rcases hp with rfl | rfl
  · refine (cc_fresh b w (by simp [World.cell?, hb]) (by simp [World.shape?, hb]) (by simp [World.frozen?, hb])).mono ?_
    rintro e w' ⟨rfl, rfl⟩
    have hlt : b < w.heap.size := lt_of_heap hb
    have hk : ∀ k, k ≠ b → (w.setCell ⟨b, 0, none⟩ (.pointer (some ⟨b, 0, none⟩))).heap[k]? = w.heap[k]? := fun k hk => Below.heap_setCell _ _ _ _ hk
    refine ⟨rfl, ⟨?_, .inr rfl, ?_, ho⟩, rfl, rfl, rfl, rfl, by simp [World.setCell], hk⟩
    · have h' : w.heap[b] = .cells #[.pointer none, v] 69 (0, 0) := by simpa [Array.getElem?_eq_getElem hlt] using hb
      show (w.heap.modify b _)[b]? = _
      rw [Array.getElem?_eq_getElem (by simpa using hlt), Array.getElem_modify_self, h']
      rfl
    · refine hr.mono (fun _ h => h) (.refl _ _) fun k hk' => hk k ?_
      rcases hk' with h | h | h
      · cases h
      · exact fun e => ho (e ▸ h)
      · cases h
  · refine (cc_used b w (by simp [World.cell?, hb])).mono ?_
    rintro e w' ⟨rfl, rfl⟩
    exact ⟨rfl, ⟨hb, .inr rfl, hr, ho⟩, rfl, rfl, rfl, rfl, rfl, fun _ _ => rfl⟩

theorem wpList_appX {P : Program} {ops : Array Oper} {rest : List Oper} {o : Oper} {a : Act} {w : World} {Q : Exit → Act → World → Prop} {v vx : Value} (hgd : o.guard = none) (s x : Operand) (t xt : TypeId)
    (ho : o.op = .call { callee := .builtin .append, args := #[s, x], argTypes := #[t, xt] }) {e : TypeId} {i : TypeInfo} (ht : P.underlying t = some (.slice e)) (hi : P.info? e = some i) (hz : i.zero = some (.int .u8 0)) (hsz : i.size = 1) (hb : i.bytes = 1) {xd : TypeDesc}
    (hxt : P.underlying xt = some xd) (hxd : xd = .string ∨ ∃ e', xd = .slice e') (bs new : List UInt8) (fp : List Nat) (hs : a.eval s = v) (hx : a.eval x = vx) (hv : Rep w (fun _ => False) [] (.k true (.u e bs) v) fp)
    (hlen : ∀ n, (Builtin.lenOf vx).run P { w with drawn := n } = .ok new.length { w with drawn := n }) (hnew : ∀ n, (Builtin.firstCells 1 new.length vx).run P { w with drawn := n } = .ok (byteVals new).toArray { w with drawn := n })
    (hbd : bs.length + new.length ≤ 140737488355328)
    (h : ∀ v' w' fp', Rep w' (fun _ => False) [] (.k true (.u e (bs ++ new)) v') fp' → UFrame w w' fp fp' → wpList P ops Q rest (a.put o.dst v') w') : wpList P ops Q (o :: rest) a w := by
  obtain ⟨v', w', fp', hr, h1, h2⟩ := run_appU (ty := o.type) ht hi hz hsz hb hxt hxd hv hlen hnew hbd
  refine wpList_plain hgd fun K hK => ?_
  unfold Oper.wp execOp
  simp only [ho, resolve, invoke, builtin, Sem.run_bind, Sem.run_pure, Result.andThen_ok, List.map_toArray, List.map_cons, List.map_nil, hs, hx, hr]
  exact hK _ _ (h v' w' fp' h1 h2)

/-- The builder's bytes are put into its second cell. -/
theorem BdAt.put {w : World} {b : Nat} {p v v' : Value} {bs : List UInt8} {fp : List Nat} (hb : w.heap[b]? = some (.cells #[p, v] 69 (0, 0))) (hp : p = .pointer none ∨ p = .pointer (some ⟨b, 0, none⟩))
    (hr : Rep w (fun _ => False) [] (.k true (.u 5 bs) v') fp) (ho : b ∉ fp) : BdAt (w.setCell ⟨b, 1, none⟩ v') b p v' bs fp ∧ ∀ k, k ≠ b → (w.setCell ⟨b, 1, none⟩ v').heap[k]? = w.heap[k]? := by
  have hlt : b < w.heap.size := lt_of_heap hb
  have hk : ∀ k, k ≠ b → (w.setCell ⟨b, 1, none⟩ v').heap[k]? = w.heap[k]? := fun k hk => Below.heap_setCell _ _ _ _ hk
  refine ⟨⟨?_, hp, ?_, ho⟩, hk⟩
  · have h' : w.heap[b] = .cells #[p, v] 69 (0, 0) := by simpa [Array.getElem?_eq_getElem hlt] using hb
    show (w.heap.modify b _)[b]? = _
    rw [Array.getElem?_eq_getElem (by simpa using hlt), Array.getElem_modify_self, h']
    rfl
  · refine hr.mono (fun _ h => h) (.refl _ _) fun k hk' => hk k ?_
    rcases hk' with h | h | h
    · cases h
    · exact fun e => ho (e ▸ h)
    · cases h

theorem u_slice {w : World} {S : Nat → Prop} {E : Env} {d : Bool} {e : TypeId} {l : List UInt8} {v : Value} {fp : List Nat} (h : Rep w S E (.k d (.u e l) v) fp) : ∃ ao n cap, v = .slice ao n cap := by
  cases h <;> exact ⟨_, _, _, rfl⟩

theorem wb_raw {w : World} {b : Nat} {p v : Value} {bs : List UInt8} {fp : List Nat} (h : BdAt w b p v bs fp) (x : UInt8) (hbd : bs.length + 1 ≤ 140737488355328) (hfl : ∀ k ∈ fp, k < w.heap.size) :
    Calls Try.prog 32 #[.pointer (some ⟨b, 0, none⟩), .int .u8 x.toNat] w fun e w' => e = .returned .nilIface ∧ ∃ v' fp', BdAt w' b (.pointer (some ⟨b, 0, none⟩)) v' (bs ++ [x]) fp' ∧ UFrame w w' (b :: fp) fp' := by
  obtain ⟨i0, hi, hz0, hz1, hz2⟩ := info_parts (show (Try.prog.info? 5).map (fun i => (i.zero, i.size, i.bytes)) = some (some (.int .u8 0), 1, 1) by kernel_rfl)
  have mixed : Try.prog.follows .mixedOrders = true := by kernel_rfl
  have t69 := Try.underlying69; have a69 := Try.isAgg69; have z69 := Try.sizeOf69; have v69 := Try.zeroValue69; have u69 := run_underlying Try.underlying69
  have t67 := Try.underlying67; have a67 := Try.isAgg67; have z67 := Try.sizeOf67; have v67 := Try.zeroValue67; have u67 := run_underlying Try.underlying67
  have t5 := Try.underlying5; have a5 := Try.isAgg5; have z5 := Try.sizeOf5; have v5 := Try.zeroValue5; have u5 := run_underlying Try.underlying5
  have t35 := Try.underlying35; have a35 := Try.isAgg35; have z35 := Try.sizeOf35; have v35 := Try.zeroValue35; have u35 := run_underlying Try.underlying35
  have e60 : ∀ args w, (callFunc 60 args).run Try.prog w = .ok (.enter 60 args) w := enters_of Try.func60 (by kernel_rfl) rfl
  have hlt0 : b < w.heap.size := lt_of_heap h.blk
  go_enter Try.func32, Try.ntmps32
  go_wp2_with (go_at_fn 60; refine h.cc.mono ?_)
  rintro e w1 ⟨rfl, h1, c1, c2, c3, c4, c5, c6⟩
  obtain ⟨hb1, hp1, hr1, ho1⟩ := h1
  have hfl1 : ∀ k ∈ fp, k < w1.heap.size := fun k hk => by rw [c5]; exact hfl k hk
  have g0 : w1.cell? ⟨b, 0, none⟩ = some (.pointer (some ⟨b, 0, none⟩)) := by simp [World.cell?, hb1]
  have g1 : w1.cell? ⟨b, 1, none⟩ = some v := by simp [World.cell?, hb1]
  go_wp2_with (at_builtin; refine wpList_appX (v := v) (vx := .slice (some ⟨w.heap.size, 0, none⟩) 1 1) rfl _ _ 35 35 rfl Try.underlying35 hi hz0 hz1 hz2 Try.underlying35 (.inr ⟨_, rfl⟩) bs [x] fp rfl rfl ?c1 ?c2 ?c3 hbd ?_)
  case c1 =>
    refine hr1.mono (fun _ h => h) (.refl _ _) fun k hk' => heap_alloc_lt _ _ ?_
    rcases hk' with h | h | h
    · cases h
    · exact hfl1 k h
    · cases h
  case c2 => intro n; simp [Builtin.lenOf]
  case c3 =>
    intro n
    rw [← c5]
    refine run_firstCells_some _ 1 1 ⟨w1.heap.size, 0, none⟩ 1 1 (byteVals [x]) (by simp [byteVals_len]) (fun j u hj => ?_)
    rw [addr_add, Nat.zero_add]
    have hjl := lt_len hj
    rw [byteVals_len] at hjl
    have : j = 0 := by simp at hjl; omega
    subst this
    have hh := heap_alloc_new w1 (.cells #[.int .u8 x.toNat] 5)
    simp [byteVals] at hj
    subst hj
    simp only [World.cell?]
    rw [show (({ w1.alloc (.cells #[.int .u8 x.toNat] 5) with drawn := n } : World).heap)[w1.heap.size]? = _ from hh]
    rfl
  intro v' w2 fp' hrep hfr
  have hlt1 : b < w1.heap.size := by rw [c5]; exact hlt0
  have hb2 : w2.heap[b]? = some (.cells #[.pointer (some ⟨b, 0, none⟩), v] 69 (0, 0)) := by
    rw [hfr.keep b (by simp; omega) ho1, heap_alloc_lt _ _ hlt1]; exact hb1
  have d0 : w2.cell? ⟨b, 0, none⟩ = some (.pointer (some ⟨b, 0, none⟩)) := by simp [World.cell?, hb2]
  have d1 : w2.cell? ⟨b, 1, none⟩ = some v := by simp [World.cell?, hb2]
  have f1 : w2.frozen? ⟨b, 1, none⟩ = false := by simp [World.frozen?, hb2]
  obtain ⟨ao, n', cap, rfl⟩ := u_slice hrep
  go_wp2
  go_ret
  refine ⟨rfl, ?_⟩
  have hbf : b ∉ fp' := fun hb' => by
    rcases (hfr.new b hb').1 with h | h
    · exact ho1 h
    · simp at h; omega
  obtain ⟨q1, q2⟩ := BdAt.put hb2 (.inr rfl) hrep hbf
  refine ⟨_, fp', q1, hfr.os.trans c1, hfr.tape.trans c2, ⟨hfr.out.1.trans c3, Nat.le_trans (Nat.le_of_eq c4.symm) hfr.out.2⟩, ?_, fun k hk hkf => ?_, fun k hk => ?_⟩
  · have := hfr.size
    simp [World.setCell] at this ⊢
    omega
  · simp only [List.mem_cons, not_or] at hkf
    rw [q2 k hkf.1, hfr.keep k (by simp; omega) hkf.2, heap_alloc_lt _ _ (by omega), c6 k hkf.1]
  · obtain ⟨k1, k2⟩ := hfr.new k hk
    refine ⟨?_, by simpa [World.setCell] using k2⟩
    rcases k1 with h | h
    · exact .inl (List.mem_cons_of_mem _ h)
    · simp at h; exact .inr (by omega)

theorem ws_raw {w : World} {b : Nat} {p v : Value} {bs : List UInt8} {fp : List Nat} (h : BdAt w b p v bs fp) (s : ByteArray) (hbd : bs.length + s.size ≤ 140737488355328) (hfl : ∀ k ∈ fp, k < w.heap.size) :
    Calls Try.prog 34 #[.pointer (some ⟨b, 0, none⟩), .string s] w fun e w' => e = .returned (.tuple #[.int .i64 s.size, .nilIface]) ∧ ∃ v' fp', BdAt w' b (.pointer (some ⟨b, 0, none⟩)) v' (bs ++ s.data.toList) fp' ∧ UFrame w w' (b :: fp) fp' := by
  obtain ⟨i0, hi, hz0, hz1, hz2⟩ := info_parts (show (Try.prog.info? 5).map (fun i => (i.zero, i.size, i.bytes)) = some (some (.int .u8 0), 1, 1) by kernel_rfl)
  have mixed : Try.prog.follows .mixedOrders = true := by kernel_rfl
  have t69 := Try.underlying69; have a69 := Try.isAgg69; have z69 := Try.sizeOf69; have v69 := Try.zeroValue69; have u69 := run_underlying Try.underlying69
  have t67 := Try.underlying67; have a67 := Try.isAgg67; have z67 := Try.sizeOf67; have v67 := Try.zeroValue67; have u67 := run_underlying Try.underlying67
  have t5 := Try.underlying5; have a5 := Try.isAgg5; have z5 := Try.sizeOf5; have v5 := Try.zeroValue5; have u5 := run_underlying Try.underlying5
  have t35 := Try.underlying35; have a35 := Try.isAgg35; have z35 := Try.sizeOf35; have v35 := Try.zeroValue35; have u35 := run_underlying Try.underlying35
  have t9 := Try.underlying9; have a9 := Try.isAgg9; have z9 := Try.sizeOf9; have v9 := Try.zeroValue9; have u9 := run_underlying Try.underlying9
  have t3 := Try.underlying3; have a3 := Try.isAgg3; have z3 := Try.sizeOf3; have v3 := Try.zeroValue3; have u3 := run_underlying Try.underlying3
  have e60 : ∀ args w, (callFunc 60 args).run Try.prog w = .ok (.enter 60 args) w := enters_of Try.func60 (by kernel_rfl) rfl
  have hlt0 : b < w.heap.size := lt_of_heap h.blk
  go_enter Try.func34, Try.ntmps34
  go_wp2_with (go_at_fn 60; refine h.cc.mono ?_)
  rintro e w1 ⟨rfl, h1, c1, c2, c3, c4, c5, c6⟩
  obtain ⟨hb1, hp1, hr1, ho1⟩ := h1
  have hfl1 : ∀ k ∈ fp, k < w1.heap.size := fun k hk => by rw [c5]; exact hfl k hk
  have g0 : w1.cell? ⟨b, 0, none⟩ = some (.pointer (some ⟨b, 0, none⟩)) := by simp [World.cell?, hb1]
  have g1 : w1.cell? ⟨b, 1, none⟩ = some v := by simp [World.cell?, hb1]
  have hl : s.data.toList.length = s.size := by simp
  go_wp2_with (at_builtin; refine wpList_appX (v := v) (vx := .string s) rfl _ _ 35 9 rfl Try.underlying35 hi hz0 hz1 hz2 Try.underlying9 (.inl rfl) bs s.data.toList fp rfl rfl hr1 ?c2 ?c3 (by rw [hl]; exact hbd) ?_)
  case c2 => intro n; simp [Builtin.lenOf]
  case c3 =>
    intro n
    rw [hl]
    simp only [Builtin.firstCells, Sem.run_pure]
    congr 1
    apply Array.toList_inj.1
    have : (s.extract 0 s.size).data = s.data := by rw [ByteArray.extract_zero_size]
    rw [Array.toList_map, this]
    rfl
  intro v' w2 fp' hrep hfr
  have hlt1 : b < w1.heap.size := by rw [c5]; exact hlt0
  have hb2 : w2.heap[b]? = some (.cells #[.pointer (some ⟨b, 0, none⟩), v] 69 (0, 0)) := by
    rw [hfr.keep b hlt1 ho1]; exact hb1
  have d0 : w2.cell? ⟨b, 0, none⟩ = some (.pointer (some ⟨b, 0, none⟩)) := by simp [World.cell?, hb2]
  have d1 : w2.cell? ⟨b, 1, none⟩ = some v := by simp [World.cell?, hb2]
  have f1 : w2.frozen? ⟨b, 1, none⟩ = false := by simp [World.frozen?, hb2]
  obtain ⟨ao, n', cap, rfl⟩ := u_slice hrep
  go_wp2
  go_ret2
  refine ⟨rfl, ?_⟩
  have hbf : b ∉ fp' := fun hb' => by
    rcases (hfr.new b hb').1 with h | h
    · exact ho1 h
    · omega
  obtain ⟨q1, q2⟩ := BdAt.put hb2 (.inr rfl) hrep hbf
  refine ⟨_, fp', q1, hfr.os.trans c1, hfr.tape.trans c2, ⟨hfr.out.1.trans c3, Nat.le_trans (Nat.le_of_eq c4.symm) hfr.out.2⟩, ?_, fun k hk hkf => ?_, fun k hk => ?_⟩
  · have := hfr.size
    simp [World.setCell] at this ⊢
    omega
  · simp only [List.mem_cons, not_or] at hkf
    rw [q2 k hkf.1, hfr.keep k (by omega) hkf.2, c6 k hkf.1]
  · obtain ⟨k1, k2⟩ := hfr.new k hk
    refine ⟨?_, by simpa [World.setCell] using k2⟩
    rcases k1 with h | h
    · exact .inl (List.mem_cons_of_mem _ h)
    · exact .inr (by omega)

/-- What String leaves: the bytes stay as they are from then on. -/
structure StrLeft (w w' : World) (b : Nat) (p v : Value) (bs : List UInt8) (fp : List Nat) : Prop where
  os : w'.os = w.os
  tape : w'.tape = w.tape
  out : OutLe w w'
  size : w.heap.size ≤ w'.heap.size
  keep : ∀ k, k < w.heap.size → k ∉ fp → w'.heap[k]? = w.heap[k]?
  rep : ∀ S : Nat → Prop, (∀ k ∈ fp, S k) → Rep w' S [] (.k true (.s false 1 (bs.map byteRow)) v) []

theorem bytes_l {w : World} {S : Nat → Prop} {g : Nat} {cur : Array Value} {T : TypeId} {z : Nat × Nat} (hg : w.heap[g]? = some (.cells cur T z)) : ∀ (bs : List UInt8) (off : Nat), (∀ (j : Nat) (x : UInt8), bs[j]? = some x → cur[off + j]? = some (.int .u8 x.toNat)) →
    Rep w S [] (.l true (bs.map byteRow).flatten g off) []
  | [], _, _ => .lnil
  | x :: bs, off, h => by
    show Rep w S [] (.l true (C.v (.int .u8 x.toNat) :: (bs.map byteRow).flatten) g off) ([] ++ [])
    refine .lcons (v := .int .u8 x.toNat) ?_ (.v ?_) (bytes_l hg bs (off + 1) fun j y hj => ?_)
    · simp only [World.cell?, hg]; exact h 0 x rfl
    · have := x.toNat_lt
      show (decide (0 ≤ (x.toNat : Int)) && decide ((x.toNat : Int) ≤ 255)) = true
      rw [Bool.and_eq_true, decide_eq_true_eq, decide_eq_true_eq]; omega
    · rw [show off + 1 + j = off + (j + 1) by omega]; exact h (j + 1) y (by simpa using hj)

theorem str_raw {w : World} {b : Nat} {p v : Value} {bs : List UInt8} {fp : List Nat} (h : BdAt w b p v bs fp) :
    Calls Try.prog 35 #[.pointer (some ⟨b, 0, none⟩)] w fun e w' => e = .returned (.string ⟨bs.toArray⟩) ∧ StrLeft w w' b p v bs fp := by
  have mixed : Try.prog.follows .mixedOrders = true := by kernel_rfl
  have t69 := Try.underlying69; have a69 := Try.isAgg69; have z69 := Try.sizeOf69; have v69 := Try.zeroValue69; have u69 := run_underlying Try.underlying69
  have t67 := Try.underlying67; have a67 := Try.isAgg67; have z67 := Try.sizeOf67; have v67 := Try.zeroValue67; have u67 := run_underlying Try.underlying67
  have t5 := Try.underlying5; have a5 := Try.isAgg5; have z5 := Try.sizeOf5; have v5 := Try.zeroValue5; have u5 := run_underlying Try.underlying5
  have t35 := Try.underlying35; have a35 := Try.isAgg35; have z35 := Try.sizeOf35; have v35 := Try.zeroValue35; have u35 := run_underlying Try.underlying35
  have t101 := Try.underlying101; have a101 := Try.isAgg101; have z101 := Try.sizeOf101; have v101 := Try.zeroValue101; have u101 := run_underlying Try.underlying101
  have t9 := Try.underlying9; have a9 := Try.isAgg9; have z9 := Try.sizeOf9; have v9 := Try.zeroValue9; have u9 := run_underlying Try.underlying9
  have t3 := Try.underlying3; have a3 := Try.isAgg3; have z3 := Try.sizeOf3; have v3 := Try.zeroValue3; have u3 := run_underlying Try.underlying3
  obtain ⟨hb, hp, hr, ho⟩ := h
  cases hr with
  | un =>
    have hUS := fun (W : World) (q : Option Addr) => Lib.run_unsafeString_none (P := Try.prog) W 101 3 9 q
    have c1 : w.drew.cell? ⟨b, 1, none⟩ = some (.slice none 0 0) := by
      have : w.drew.heap[b]? = some (.cells #[p, .slice none 0 0] 69 (0, 0)) := hb
      simp [World.cell?, this]
    have hSD : (Builtin.unsafeSliceData_ #[35] 101 #[.slice none 0 0]).run Try.prog w.drew = .ok (.pointer none) w.drew := rfl
    go_enter Try.func35, Try.ntmps35
    go_wp2
    go_region_o
    all_goals (go_wp2; go_ret; exact ⟨rfl, rfl, rfl, ⟨rfl, Nat.le_succ _⟩, Nat.le_refl _, fun _ _ _ => rfl, fun S _ => .nilI⟩)
  | uo h0 hg hc hm hz ht =>
    rename_i g cap cur
    have hcells : ∀ (j : Nat) (x : UInt8), bs[j]? = some x → cur[j]? = some (.int .u8 x.toNat) := by
      intro j x hj
      have hjl := lt_len hj
      have h1 : (cur.toList.take bs.length)[j]? = some (.int .u8 x.toNat) := by rw [ht]; simp [hj]
      rw [List.getElem?_take, if_pos hjl] at h1
      simpa using h1
    have hlen : (bs.map byteRow).length = bs.length := by simp
    by_cases hb0 : bs = []
    · subst hb0
      have hUS := fun (W : World) (q : Option Addr) => Lib.run_unsafeString_none (P := Try.prog) W 101 3 9 q
      have c1 : w.drew.cell? ⟨b, 1, none⟩ = some (.slice (some ⟨g, 0, none⟩) 0 cap) := by
        have : w.drew.heap[b]? = some (.cells #[p, .slice (some ⟨g, 0, none⟩) 0 cap] 69 (0, 0)) := hb
        simp [World.cell?, this]
      have hSD : (Builtin.unsafeSliceData_ #[35] 101 #[.slice (some ⟨g, 0, none⟩) 0 cap]).run Try.prog w.drew = .ok (.pointer (some ⟨g, 0, none⟩)) w.drew := Lib.run_unsafeSliceData_row _ _ _ _ _ _ (by omega)
      clear hz hm hc h0 ht hcells
      go_enter Try.func35, Try.ntmps35
      go_wp2
      go_region_o
      all_goals (go_wp2; go_ret; exact ⟨rfl, rfl, rfl, ⟨rfl, Nat.le_succ _⟩, Nat.le_refl _, fun _ _ _ => rfl, fun S _ => .nilI⟩)
    · have hl0 : bs.length ≠ 0 := by simpa using hb0
      have c1 : w.drew.cell? ⟨b, 1, none⟩ = some (.slice (some ⟨g, 0, none⟩) bs.length cap) := by
        have : w.drew.heap[b]? = some (.cells #[p, .slice (some ⟨g, 0, none⟩) bs.length cap] 69 (0, 0)) := hb
        simp [World.cell?, this]
      have hSD : (Builtin.unsafeSliceData_ #[35] 101 #[.slice (some ⟨g, 0, none⟩) bs.length cap]).run Try.prog w.drew = .ok (.pointer (some ⟨g, 0, none⟩)) w.drew := Lib.run_unsafeSliceData_row _ _ _ _ _ _ (by omega)
      have hUS : (Builtin.unsafeString_ #[101, 3] 9 #[.pointer (some ⟨g, 0, none⟩), .int .i64 bs.length]).run Try.prog w.drew = .ok (.string ⟨bs.toArray⟩) (w.drew.freeze ⟨g, 0, none⟩ bs.length) := by
        refine Lib.run_unsafeString_row w.drew 101 3 9 5 Try.underlying101 (by kernel_rfl) g cur.size (by have hg' : w.drew.heap[g]? = some (.cells cur 5 (0, 0)) := hg; simp [World.shape?, hg']) bs hb0 (by omega) (by omega) ?_
        intro j x hx
        have hg' : w.drew.heap[g]? = some (.cells cur 5 (0, 0)) := hg
        rw [addr_add, Nat.zero_add]
        simp only [World.cell?, hg']
        exact hcells j x hx
      have hlt : g < w.heap.size := lt_of_heap hg
      have hfin : StrLeft w (w.drew.freeze ⟨g, 0, none⟩ bs.length) b p (.slice (some ⟨g, 0, none⟩) bs.length cap) bs [g] := by
        have hk : ∀ k, k ≠ g → (w.drew.freeze ⟨g, 0, none⟩ bs.length).heap[k]? = w.heap[k]? := by
          intro k hk
          simp only [World.freeze, if_neg hl0]
          show (w.heap.modify g _)[k]? = _
          rw [Array.getElem?_modify, if_neg (fun e => hk e.symm)]
        have hfz : ∃ z, (w.drew.freeze ⟨g, 0, none⟩ bs.length).heap[g]? = some (.cells cur 5 z) := by
          simp only [World.freeze, if_neg hl0]
          have h' : w.heap[g] = .cells cur 5 (0, 0) := by simpa [Array.getElem?_eq_getElem hlt] using hg
          refine ⟨(0, 0 + bs.length), ?_⟩
          show (w.heap.modify g _)[g]? = _
          rw [Array.getElem?_eq_getElem (by simpa using hlt), Array.getElem_modify_self, h']
          rfl
        obtain ⟨z, hfz⟩ := hfz
        refine ⟨?_, ?_, ⟨?_, ?_⟩, ?_, fun k _ hkf => hk k (by simpa using hkf), fun S hS => ?_⟩
        · simp only [World.freeze, if_neg hl0]; rfl
        · simp only [World.freeze, if_neg hl0]; rfl
        · simp only [World.freeze, if_neg hl0]; rfl
        · simp only [World.freeze, if_neg hl0]; exact Nat.le_succ _
        · simp only [World.freeze, if_neg hl0]
          show w.heap.size ≤ (w.heap.modify g _).size
          simp
        · have key := Rep.imm (S := S) (E := []) (dat := true) (es := 1) (rows := bs.map byteRow) (cap := cap) (off := 0) (hS g (by simp)) (by rw [hlen]; exact hc) (fun r hr => by obtain ⟨x, _, rfl⟩ := List.mem_map.1 hr; rfl)
            (bytes_l hfz bs 0 fun j x hj => by rw [Nat.zero_add]; exact hcells j x hj)
          rw [hlen] at key
          exact key
      clear hz hm hc h0 ht hcells hg
      go_enter Try.func35, Try.ntmps35
      go_wp2
      go_region_o
      all_goals (go_wp2; go_ret; exact ⟨rfl, hfin⟩)

end Go.Dl

namespace Go.Dl
open Go.RowKit Go.Proofs
set_option linter.unusedSimpArgs false
set_option linter.unusedVariables false

/-- A builder. -/
def bdO (bs : List UInt8) : Obj := ⟨2, [[.b 69, .u 5 bs]]⟩

theorem u_any {w : World} {S S' : Nat → Prop} {E E' : Env} {d d' : Bool} {e : TypeId} {l : List UInt8} {v : Value} {fp : List Nat} (h : Rep w S E (.k d (.u e l) v) fp) : Rep w S' E' (.k d' (.u e l) v) fp := by
  cases h with
  | un => exact .un
  | uo h0 hg hc hm hz ht => exact .uo h0 hg hc hm hz ht
theorem u_nodup {w : World} {S : Nat → Prop} {E : Env} {d : Bool} {e : TypeId} {l : List UInt8} {v : Value} {fp : List Nat} (h : Rep w S E (.k d (.u e l) v) fp) : fp.Nodup := by
  cases h <;> simp
theorem u_lt {w : World} {S : Nat → Prop} {E : Env} {d : Bool} {e : TypeId} {l : List UInt8} {v : Value} {fp : List Nat} (h : Rep w S E (.k d (.u e l) v) fp) : ∀ k ∈ fp, k < w.heap.size := by
  cases h with
  | un => intro k hk; cases hk
  | uo h0 hg hc hm hz ht => intro k hk; rw [List.mem_singleton] at hk; subst hk; exact lt_of_heap hg

/-- A builder that is handed on. -/
theorem bd_open {w : World} {S : Nat → Prop} {bs : List UInt8} {pls : List Pl} {fps : List (List Nat)} {d0 : Value} (ho : ObjsAt w S [bdO bs] pls fps) (hn : fps.flatten.Nodup) (hd : RepD w S (pls.map some) (.c (.p 0 0 0)) d0) :
    ∃ b m p v fp, pls = [⟨some (b, 0), 2, 1, m⟩] ∧ fps = [b :: fp] ∧ d0 = .pointer (some ⟨b, 0, none⟩) ∧ m * 2 ≤ 2 ∧ 1 ≤ m ∧ BdAt w b p v bs fp := by
  obtain ⟨o1, o2, o3⟩ := ho
  obtain ⟨pl, f, h1, h2, g1, g2, g3, g4, g5⟩ := o3 0 _ rfl
  have hp1 : pls = [pl] := by
    cases pls with
    | nil => cases h1
    | cons a t =>
      have ht : t = [] := List.eq_nil_of_length_eq_zero (by simpa using o1)
      subst ht
      cases h1; rfl
  have hf1 : fps = [f] := by
    cases fps with
    | nil => cases h2
    | cons a t =>
      have ht : t = [] := List.eq_nil_of_length_eq_zero (by simpa using o2)
      subst ht
      cases h2; rfl
  subst hp1 hf1
  cases hat : pl.at? with
  | none => rw [hat] at g5; cases g5.1
  | some bo =>
    obtain ⟨b, off⟩ := bo
    rw [hat] at g5
    obtain ⟨fr, rfl, ⟨arr0, el0, z0, k1, k2, k3⟩, hrep⟩ := g5
    have hrep : Rep w S [] (.l true [.b 69, .u 5 bs] b off) fr := hrep
    cases hrep with
    | lcons _ h _ => cases h
    | lb hv hz h0 hb hr =>
      rename_i p arr
      cases hr with
      | lcons hv1 hc1 hr1 =>
        rename_i v f1 f2
        cases hr1
        rw [hv] at k1; cases k1
        obtain ⟨pat, pes, pn, pm⟩ := pl
        simp only at hat g1 g2 g3 k2
        subst hat
        have hes : pes = 2 := g1
        have hn1 : pn = 1 := g2
        subst hes hn1
        have k2' : pm * 2 ≤ 2 := by
          have : 0 + pm * 2 ≤ arr0.size := k2
          omega
        have harr : arr0 = #[p, v] := by
          have h1 : arr0[1]? = some v := by simpa [World.cell?, hv] using hv1
          apply Array.ext_getElem?
          intro i
          match i with
          | 0 => simpa using h0
          | 1 => simpa using h1
          | n + 2 => rw [Array.getElem?_eq_none (by omega), Array.getElem?_eq_none (by simp)]
        subst harr
        rw [List.append_nil] at hn ⊢
        have hn' : (b :: f1).Nodup := by simpa using hn
        refine ⟨b, pm, p, v, f1, rfl, rfl, ?_, k2', g3, hv, hb, u_any hc1, (List.nodup_cons.1 hn').1⟩
        cases hd with
        | c h => cases h with
          | p hr hh =>
            obtain ⟨b', off', e1, rfl⟩ := hh _ rfl
            cases e1
            simp

theorem bd_meets {k : FuncId} {ι : Type} {pre : ι → Prop} {bs bs' : ι → List UInt8} {rest : ι → List Value} {res : ι → Value} {resD : ι → D} (hres : ∀ x, pre x → ∀ w S, RepO w S (resD x) (res x) [])
    (raw : ∀ x, pre x → ∀ w b p v fp, BdAt w b p v (bs x) fp → (∀ k ∈ fp, k < w.heap.size) → Calls Try.prog k (.pointer (some ⟨b, 0, none⟩) :: rest x).toArray w fun e w' => e = .returned (res x) ∧
      ∃ v' fp', BdAt w' b (.pointer (some ⟨b, 0, none⟩)) v' (bs' x) fp' ∧ UFrame w w' (b :: fp) fp') :
    Meets Try.prog k (detS (famO pre (fun x => (.c (.p 0 0 0) :: (rest x).map fun v => .c (.v v), [bdO (bs x)])) (fun x => (resD x, [bdO (bs' x)])))) := by
  rintro args objs Q ⟨d, os, hd, hQ⟩ w S vs pls fps hlen hargs hobjs hnd hfs hS
  obtain ⟨x, h1, h2, h3⟩ := famO_inv hd
  cases h2
  cases h3
  obtain ⟨b, m, p, v, fp, rfl, rfl, hptr, hm2, hm1, hbd⟩ := bd_open hobjs hnd (hargs 0 _ rfl)
  have hvs : vs = (.pointer (some ⟨b, 0, none⟩) :: rest x).toArray := by
    apply Array.ext_getElem?
    intro i
    have hvl : vs.size = (rest x).length + 1 := by simpa using hlen.symm
    by_cases hi : i < vs.size
    · cases i with
      | zero =>
        rw [Array.getElem?_eq_getElem hi]
        have : vs.getD 0 undef = vs[0] := by simp [Array.getD, hi]
        rw [← this, hptr]; rfl
      | succ i =>
        have hil : i < (rest x).length := by omega
        have := hargs (i + 1) (.c (.v ((rest x)[i]))) (by simp [hil])
        obtain ⟨h, _⟩ := v_inv this
        rw [Array.getElem?_eq_getElem hi]
        have h' : vs.getD (i + 1) undef = vs[i + 1] := by simp [Array.getD, hi]
        rw [← h', h]
        simp [hil]
    · rw [Array.getElem?_eq_none (by omega), Array.getElem?_eq_none (by simp; omega)]
  subst hvs
  have hflt : ∀ k ∈ fp, k < w.heap.size := fun k hk => (hfs k (by simp [hk])).2
  refine (raw x h1 w b p v fp hbd hflt).mono ?_
  rintro e w' ⟨rfl, v', fp', hbd', hfr⟩
  obtain ⟨q1, q2, q3, q4⟩ := hbd'
  refine ⟨_, _, _, rfl, hQ, rfl, { size := hfr.size, keep := fun k hk hkf => hfr.keep k hk (by simpa using hkf), os := hfr.os, tape := hfr.tape, output := hfr.out, rest := ⟨S, [⟨some (b, 0), 2, 1, m⟩], [b :: fp'], [], fun _ h => h, fun k hk => ⟨Nat.lt_of_lt_of_le (hS k hk) hfr.size, .inl hk⟩, hres x h1 w' S, ⟨rfl, rfl, ?_⟩, ?_, ?_, ?_⟩ }⟩
  · intro i ob hob
    cases i with
    | succ i => cases hob
    | zero =>
      cases hob
      refine ⟨_, _, rfl, rfl, rfl, rfl, hm1, by simp [bdO], fp', rfl, ⟨_, _, _, q1, (by show 0 + m * 2 ≤ 2; omega), fun o ho => by simp [World.frozen?, q1]⟩, ?_⟩
      have h0 : Rep w' S [] (.l true [] b 2) [] := .lnil
      have h1 : Rep w' S [] (.l true [.u 5 (bs' x)] b 1) (fp' ++ []) := .lcons (by simp [World.cell?, q1]) (u_any q3) h0
      have h2 : Rep w' S [] (.l true [.b 69, .u 5 (bs' x)] b 0) (fp' ++ []) := .lb q1 rfl rfl q2 h1
      rw [List.append_nil] at h2
      exact h2
  · simp only [List.flatten_cons, List.flatten_nil, List.append_nil, List.nil_append]
    exact List.nodup_cons.2 ⟨q4, u_nodup q3⟩
  · intro k hk
    simp only [List.flatten_cons, List.flatten_nil, List.append_nil, List.nil_append] at hk ⊢
    rcases List.mem_cons.1 hk with rfl | hk
    · exact ⟨(hfs k (by simp)).1, Nat.lt_of_lt_of_le (hfs k (by simp)).2 hfr.size, .inl (by simp)⟩
    · obtain ⟨k1, k2⟩ := hfr.new k hk
      rcases k1 with k1 | k1
      · exact ⟨(hfs k (by simpa using k1)).1, k2, .inl k1⟩
      · exact ⟨fun h => absurd (hS k h) (by omega), k2, .inr k1⟩
  · intro i p p' hp hp'
    rw [hp] at hp'; cases hp'; exact p.le_refl

noncomputable def oWB := famO (fun x : List UInt8 × UInt8 => x.1.length + 1 ≤ 140737488355328) (fun x => ([.c (.p 0 0 0), .c (.v (.int .u8 x.2.toNat))], [bdO x.1])) (fun x => (.c (.v .nilIface), [bdO (x.1 ++ [x.2])]))
noncomputable def oWS := famO (fun x : List UInt8 × ByteArray => x.1.length + x.2.size ≤ 140737488355328) (fun x => ([.c (.p 0 0 0), .c (.v (.string x.2))], [bdO x.1])) (fun x => (.t [.c (.v (.int .i64 x.2.size)), .c (.v .nilIface)], [bdO (x.1 ++ x.2.data.toList)]))

theorem meets32 : Meets Try.prog 32 (detS oWB) :=
  bd_meets (rest := fun x : List UInt8 × UInt8 => [.int .u8 x.2.toNat]) (res := fun _ => .nilIface) (fun x _ w S => .v trivial) fun x hx w b p v fp h hl => wb_raw h x.2 hx hl

theorem meets34 : Meets Try.prog 34 (detS oWS) :=
  bd_meets (rest := fun x : List UInt8 × ByteArray => [.string x.2]) (res := fun x => .tuple #[.int .i64 x.2.size, .nilIface]) (fun x hx w S => ⟨_, [[], []], rfl, rfl, rfl, rfl, fun i d f h1 h2 => by
    match i with
    | 0 =>
      cases h1; cases h2
      refine .v ?_
      show (decide (-9223372036854775808 ≤ (x.2.size : Int)) && decide ((x.2.size : Int) ≤ 9223372036854775807)) = true
      rw [Bool.and_eq_true, decide_eq_true_eq, decide_eq_true_eq]
      have : x.1.length + x.2.size ≤ 140737488355328 := hx
      omega
    | 1 => cases h1; cases h2; exact .v trivial
    | n + 2 => cases h1⟩) fun x hx w b p v fp h hl => ws_raw h x.2 hx hl

theorem wb_at (bs : List UInt8) (x : UInt8) (h : bs.length + 1 ≤ 140737488355328) : oWB [.c (.p 0 0 0), .c (.v (.int .u8 x.toNat))] [⟨2, [[.b 69, .u 5 bs]]⟩] = some (.c (.v .nilIface), [⟨2, [[.b 69, .u 5 (bs ++ [x])]]⟩]) :=
  famO_at (by
    rintro ⟨a, b⟩ ⟨c, d⟩ h
    simp only [bdO, Prod.mk.injEq, List.cons.injEq, D.c.injEq, C.v.injEq, Value.int.injEq, Obj.mk.injEq, C.u.injEq, true_and, and_true] at h
    obtain ⟨h1, rfl⟩ := h
    have : b = d := by apply UInt8.toNat_inj.1; omega
    subst this; rfl) (bs, x) h rfl
theorem ws_at (bs : List UInt8) (s : ByteArray) (h : bs.length + s.size ≤ 140737488355328) : oWS [.c (.p 0 0 0), .c (.v (.string s))] [⟨2, [[.b 69, .u 5 bs]]⟩] = some (.t [.c (.v (.int .i64 s.size)), .c (.v .nilIface)], [⟨2, [[.b 69, .u 5 (bs ++ s.data.toList)]]⟩]) :=
  famO_at (by
    rintro ⟨a, b⟩ ⟨c, d⟩ h
    simp only [bdO, Prod.mk.injEq, List.cons.injEq, D.c.injEq, C.v.injEq, Value.string.injEq, Obj.mk.injEq, C.u.injEq, true_and, and_true] at h
    obtain ⟨rfl, rfl⟩ := h
    rfl) (bs, s) h rfl

/-- A builder whose bytes a text shares. -/
def bdS (bs : List UInt8) : Obj := ⟨2, [[.b 69, .s false 1 (bs.map byteRow)]]⟩
noncomputable def oStr := famO (fun x : List UInt8 => x.length ≤ 9223372036854775807) (fun x => ([.c (.p 0 0 0)], [bdO x])) (fun x => (.c (.v (.string ⟨x.toArray⟩)), [bdS x]))

theorem meets35 : Meets Try.prog 35 (detS oStr) := by
  rintro args objs Q ⟨d, os, hd, hQ⟩ w S vs pls fps hlen hargs hobjs hnd hfs hS
  obtain ⟨bs, h1, h2, h3⟩ := famO_inv hd
  cases h2
  cases h3
  obtain ⟨b, m, p, v, fp, rfl, rfl, hptr, hm2, hm1, hbd⟩ := bd_open hobjs hnd (hargs 0 _ rfl)
  have hvs : vs = #[.pointer (some ⟨b, 0, none⟩)] := by
    have hvl : vs.size = 1 := by simpa using hlen.symm
    apply Array.ext_getElem?
    intro i
    cases i with
    | zero =>
      rw [Array.getElem?_eq_getElem (by omega)]
      have : vs.getD 0 undef = vs[0] := by simp [Array.getD, hvl]
      rw [← this, hptr]; rfl
    | succ i => rw [Array.getElem?_eq_none (by omega), Array.getElem?_eq_none (by simp)]
  subst hvs
  have hb0 := hbd.blk
  have hout := hbd.out
  have hpp := hbd.ptr
  have hulen := u_lt hbd.rep
  refine (str_raw hbd).mono ?_
  rintro e w' ⟨rfl, hl⟩
  have hb' : w'.heap[b]? = some (.cells #[p, v] 69 (0, 0)) := by rw [hl.keep b (lt_of_heap hb0) hout]; exact hb0
  refine ⟨_, _, _, rfl, hQ, rfl, { size := hl.size, keep := fun k hk hkf => hl.keep k hk (fun h => hkf (by simp [h])), os := hl.os, tape := hl.tape, output := hl.out, rest := ⟨fun k => S k ∨ k ∈ fp, [⟨some (b, 0), 2, 1, m⟩], [[b]], [], fun _ h => .inl h, fun k hk => ?_, .v h1, ⟨rfl, rfl, ?_⟩, by simp, ?_, ?_⟩ }⟩
  · rcases hk with hk | hk
    · exact ⟨Nat.lt_of_lt_of_le (hS k hk) hl.size, .inl hk⟩
    · exact ⟨Nat.lt_of_lt_of_le (hulen k hk) hl.size, .inr (.inl (by simp [hk]))⟩
  · intro i ob hob
    cases i with
    | succ i => cases hob
    | zero =>
      cases hob
      refine ⟨_, _, rfl, rfl, rfl, rfl, hm1, by simp [bdS], [], rfl, ⟨_, _, _, hb', (by show 0 + m * 2 ≤ 2; omega), fun o ho => by simp [World.frozen?, hb']⟩, ?_⟩
      have h0 : Rep w' (fun k => S k ∨ k ∈ fp) [] (.l true [] b 2) [] := .lnil
      have h1 : Rep w' (fun k => S k ∨ k ∈ fp) [] (.l true [.s false 1 (bs.map byteRow)] b 1) ([] ++ []) := .lcons (by simp [World.cell?, hb']) (hl.rep _ fun k hk => .inr hk) h0
      exact Rep.lb hb' rfl rfl hpp h1
  · intro k hk
    simp only [List.flatten_cons, List.flatten_nil, List.append_nil, List.nil_append, List.mem_singleton] at hk ⊢
    subst hk
    refine ⟨?_, Nat.lt_of_lt_of_le (hfs k (by simp)).2 hl.size, .inl (by simp)⟩
    rintro (h | h)
    · exact (hfs k (by simp)).1 h
    · exact hout h
  · intro i p p' hp hp'
    rw [hp] at hp'; cases hp'; exact p.le_refl

theorem str_at (bs : List UInt8) (h : bs.length ≤ 9223372036854775807) : oStr [.c (.p 0 0 0)] [⟨2, [[.b 69, .u 5 bs]]⟩] = some (.c (.v (.string ⟨bs.toArray⟩)), [⟨2, [[.b 69, .s false 1 (bs.map byteRow)]]⟩]) :=
  famO_at (by
    rintro a c h
    simp only [bdO, Prod.mk.injEq, List.cons.injEq, Obj.mk.injEq, C.u.injEq, true_and, and_true] at h
    subst h; rfl) bs h rfl

end Go.Dl

namespace Go.Dl
open Go.RowKit
open Go.Proofs
set_option linter.unusedSimpArgs false
set_option linter.unusedVariables false

def isPlain (c : Int) : Bool := decide (32 ≤ c) && decide (c < 127) && !decide (c = 34) && !decide (c = 92)

theorem meets33 : Meets Try.prog 33 (pureS (pU8 isPlain)) := by
  refine meets_of_tri (show Try.prog.funcs[33]? = some Try.f33 by kernel_rfl) rfl (n := 17) rfl (rs := [ResultVar.tmp 2]) rfl ?_
  rintro args objs Q ⟨rfl, d, hd, hQ⟩
  unfold pU8 at hd
  split at hd
  · rename_i c
    cases hd
    refine seq_run ok0 rfl (by repeat (first | with_reducible exact runf_nil | refine runf_cons (by simp only [xstep, stepf, stepx, qev, St.ev, St.put, constD, constC, List.set_cons_zero, List.set_cons_succ, List.replicate, List.length_cons, List.length_nil, List.cons_append, List.nil_append, List.map_nil, Option.map_some, Nat.reduceSub, Option.some.injEq, Nat.zero_add]; rfl) ?_)) ?_
    by_cases a0 : (32 ≤ c)
    ·
      by_cases a1 : (c < 127)
      ·
        by_cases a2 : (c = 34)
        ·
          refine seq_run ok0 rfl (by repeat (first | with_reducible exact runf_nil | refine runf_cons (by simp only [xstep, stepf, stepx, qev, St.ev, St.put, qpick, qint, qshift, isEq, qeq, isShift, qbin, constD, constC, List.getElem?_cons_zero, List.getElem?_cons_succ, List.set_cons_zero, List.set_cons_succ, Option.bind_some, Option.map_some, Option.map_none, if_true, if_false, decide_true, Bool.not_true, cond_true, cond_false, List.getElem?_toArray, Option.some.injEq, Bool.false_eq_true, eq_true a0, eq_true a1, eq_true a2]; rfl) ?_)) ?_
          refine tri_ret (ends_ret (by simp only [outRes, resDs, resD, outD, outC, C.dat, List.getElem?_cons_zero, List.getElem?_cons_succ, Option.map_some, if_true, Option.some.injEq]; rfl) rfl (by simp) (by simp) ?_)
          (simp only [decide_true, Bool.and_true, Bool.false_and, Bool.and_false, Bool.not_true, isPlain, eq_true a0, eq_true a1, eq_true a2] at hQ; exact hQ)
        ·
          refine seq_run ok0 rfl (by repeat (first | with_reducible exact runf_nil | refine runf_cons (by simp only [xstep, stepf, stepx, qev, St.ev, St.put, qpick, qint, qshift, isShift, qbin, constD, constC, List.getElem?_cons_zero, List.getElem?_cons_succ, List.set_cons_zero, List.set_cons_succ, Option.bind_some, Option.map_some, Option.map_none, if_true, if_false, decide_true, decide_false, Bool.not_false, cond_true, List.getElem?_toArray, Option.some.injEq, Bool.false_eq_true, eq_true a0, eq_true a1, eq_false a2]; rfl) ?_)) ?_
          refine tri_ret (ends_ret (by simp only [outRes, resDs, resD, outD, outC, C.dat, List.getElem?_cons_zero, List.getElem?_cons_succ, Option.map_some, if_true, Option.some.injEq]; rfl) rfl (by simp) (by simp) ?_)
          (simp only [decide_true, decide_false, Bool.and_true, Bool.true_and, Bool.not_false, isPlain, eq_true a0, eq_true a1, eq_false a2] at hQ; exact hQ)
      ·
        refine seq_run ok0 rfl (by repeat (first | with_reducible exact runf_nil | refine runf_cons (by simp only [xstep, stepf, stepx, qev, St.ev, St.put, qpick, qint, qshift, isEq, qeq, isShift, qbin, constD, constC, List.getElem?_cons_zero, List.getElem?_cons_succ, List.set_cons_zero, List.set_cons_succ, Option.bind_some, Option.map_some, Option.map_none, if_true, if_false, decide_true, decide_false, cond_true, cond_false, List.getElem?_toArray, Option.some.injEq, Bool.false_eq_true, eq_true a0, eq_false a1]; rfl) ?_)) ?_
        refine tri_ret (ends_ret (by simp only [outRes, resDs, resD, outD, outC, C.dat, List.getElem?_cons_zero, List.getElem?_cons_succ, Option.map_some, if_true, Option.some.injEq]; rfl) rfl (by simp) (by simp) ?_)
        (simp only [decide_true, decide_false, Bool.false_and, Bool.and_false, isPlain, eq_true a0, eq_false a1] at hQ; exact hQ)
    ·
      refine seq_run ok0 rfl (by repeat (first | with_reducible exact runf_nil | refine runf_cons (by simp only [xstep, stepf, stepx, qev, St.ev, St.put, qpick, qint, qshift, isEq, qeq, isShift, qbin, constD, constC, List.getElem?_cons_zero, List.getElem?_cons_succ, List.set_cons_zero, List.set_cons_succ, Option.bind_some, Option.map_some, Option.map_none, if_true, if_false, decide_false, cond_false, List.getElem?_toArray, Option.some.injEq, Bool.false_eq_true, eq_false a0]; rfl) ?_)) ?_
      refine tri_ret (ends_ret (by simp only [outRes, resDs, resD, outD, outC, C.dat, List.getElem?_cons_zero, List.getElem?_cons_succ, Option.map_some, if_true, Option.some.injEq]; rfl) rfl (by simp) (by simp) ?_)
      (simp only [decide_false, Bool.false_and, isPlain, eq_false a0] at hQ; exact hQ)
  · cases hd

def hexT : ByteArray := ⟨#[48, 49, 50, 51, 52, 53, 54, 55, 56, 57, 97, 98, 99, 100, 101, 102]⟩
def escV (a b : Int) : Int := IntKind.u8.wrap (IntKind.i64.wrap ((BitVec.ofInt IntKind.i64.bits (IntKind.i64.wrap (a * 2 ^ min 4 IntKind.i64.bits)) ||| BitVec.ofInt IntKind.i64.bits b).toNat))
def escF (s : ByteArray) : Int × Bool := if (s.size : Int) < 2 then (0, false)
  else (escV (idxB hexT (s.data.toList.getD 0 0).toNat) (idxB hexT (s.data.toList.getD 1 0).toNat), decide (0 ≤ idxB hexT (s.data.toList.getD 0 0).toNat) && decide (0 ≤ idxB hexT (s.data.toList.getD 1 0).toNat))
noncomputable def pEsc : List D → Option D := famP (fun s : ByteArray => s.size ≤ 1000000) (fun s => [.c (.v (.string s))]) (fun s => .t [.c (.v (.int .u8 (escF s).1)), dB (escF s).2])

theorem idx_at (s : ByteArray) (c : Int) (h : s.size ≤ 1000000) : pIdxB [.c (.v (.string s)), .c (.v (.int .u8 c))] = some (dI (idxB s c)) := if_pos h
theorem meets72 : Meets Try.prog 72 (pureS pEsc) := by
  refine meets_famP (show Try.prog.funcs[72]? = some Try.f72 by kernel_rfl) rfl (n := 26) rfl (rs := [ResultVar.tmp 2, ResultVar.tmp 3]) rfl ?_
  rintro s hs Q hQ
  have hx : ∀ c, pIdxB [.c (.v (.string ⟨#[48, 49, 50, 51, 52, 53, 54, 55, 56, 57, 97, 98, 99, 100, 101, 102]⟩)), .c (.v (.int .u8 c))] = some (dI (idxB hexT c)) := fun c => idx_at _ c (by decide)
  refine seq_run okL5 rfl (by repeat (first | with_reducible exact runf_nil | refine runf_cons (by simp only [xstep, stepf, stepx, qev, St.ev, St.put, constD, constC, List.set_cons_zero, List.set_cons_succ, List.replicate, List.length_cons, List.length_nil, List.cons_append, List.nil_append, Option.map_some, Nat.reduceSub, Option.some.injEq, Nat.zero_add]; rfl) ?_)) ?_
  refine seq_in ?_
  refine seq_run okL5 rfl (by repeat (first | with_reducible exact runf_nil | refine runf_cons (by simp only [xstep, stepf, stepx, qev, St.ev, St.put, qint, qshift, isShift, qbin, qlen, qbuiltin, constD, constC, List.getElem?_cons_zero, List.getElem?_cons_succ, List.set_cons_zero, List.set_cons_succ, Option.bind_some, Option.map_some, Option.map_none, if_true, if_false, Option.some.injEq, Bool.false_eq_true, tk9]; rfl) ?_)) ?_
  refine tri_cond rfl (fun a0 => ?_) (fun a0 => ?_)
  ·
    simp only [decide_eq_true_eq] at a0
    refine seq_run okL5 rfl (by repeat (first | with_reducible exact runf_nil | refine runf_cons (by simp only [xstep, stepf, stepx, qev, St.ev, St.put, constD, constC, List.set_cons_zero, List.set_cons_succ, Option.map_some, decide_true, Option.some.injEq, a0]; rfl) ?_)) ?_
    refine tri_ret (ends_ret (by simp only [outRes, resDs, resD, outDs, outD, outC, C.dat, List.getElem?_cons_zero, List.getElem?_cons_succ, Option.map_some, if_true, Option.some.injEq]; rfl) rfl (by simp) (by simp) ?_)
    (simp only [reduceIte, ↓reduceIte, escF, a0] at hQ; exact hQ)
  ·
    simp only [decide_eq_false_iff_not] at a0
    refine then_skip ?_
    refine seq_anyE mixed okL5 rfl (by kernel_rfl) ?_
    refine ⟨_, (by repeat (first | with_reducible exact runf_nil | refine runf_cons (by simp only [xstep, stepf, stepx, evsA, qev, St.ev, St.put, St.with, D.int, C.cpy, qindex, C.cp, C.dat, constD, constC, List.getElem?_cons_zero, List.getElem?_cons_succ, List.set_cons_zero, List.set_cons_succ, List.append_nil, List.map_nil, Option.bind_some, Option.map_some, Nat.reduceEqDiff, if_true, if_false, and_self, decide_false, Option.some.injEq, Int.reduceLE, Int.reduceToNat, Bool.and_self, Bool.or_true, callP, argDs, argD, argC, D.ni, D.ni1, C.ni, settle, settle1, settleC, List.isEmpty_nil, dI, FsL5, hx, tk9, a0, show (0 < (↑s.size : Int)) = True from eq_true (by omega), show (1 < (↑s.size : Int)) = True from eq_true (by omega)]; rfl) ?_)), ?_⟩
    by_cases a1 : (0 ≤ idxB hexT (↑(s.data.toList.getD 0 0).toNat : Int))
    ·
      refine seq_run okL5 rfl (by repeat (first | with_reducible exact runf_nil | refine runf_cons (by simp only [xstep, stepf, stepx, qev, St.ev, St.put, qpick, qint, qshift, isShift, qbin, qconv, constD, constC, List.getElem?_cons_zero, List.getElem?_cons_succ, List.set_cons_zero, List.set_cons_succ, Option.bind_some, Option.map_some, Option.map_none, if_true, if_false, decide_true, cond_true, List.getElem?_toArray, Option.some.injEq, reduceCtorEq, Int.reduceLT, Int.reduceToNat, Bool.false_eq_true, tk5, tk3, eq_true a1]; rfl) ?_)) ?_
      refine tri_ret (ends_ret (by simp only [outRes, resDs, resD, outDs, outD, outC, C.dat, List.getElem?_cons_zero, List.getElem?_cons_succ, Option.map_some, if_true, Option.some.injEq]; rfl) rfl (by simp) (by simp) ?_)
      (simp only [decide_true, Bool.true_and, reduceIte, ↓reduceIte, escF, escV, a0, eq_true a1] at hQ; exact hQ)
    ·
      refine seq_run okL5 rfl (by repeat (first | with_reducible exact runf_nil | refine runf_cons (by simp only [xstep, stepf, stepx, qev, St.ev, St.put, qpick, qint, qshift, isEq, isShift, qbin, qconv, constD, constC, List.getElem?_cons_zero, List.getElem?_cons_succ, List.set_cons_zero, List.set_cons_succ, Option.bind_some, Option.map_some, Option.map_none, if_true, if_false, decide_false, cond_false, List.getElem?_toArray, Option.some.injEq, reduceCtorEq, Int.reduceLT, Int.reduceToNat, Bool.false_eq_true, tk5, tk3, eq_false a1]; rfl) ?_)) ?_
      refine tri_ret (ends_ret (by simp only [outRes, resDs, resD, outDs, outD, outC, C.dat, List.getElem?_cons_zero, List.getElem?_cons_succ, Option.map_some, if_true, Option.some.injEq]; rfl) rfl (by simp) (by simp) ?_)
      (simp only [decide_false, Bool.false_and, reduceIte, ↓reduceIte, escF, escV, a0, eq_false a1] at hQ; exact hQ)
end Go.Dl
