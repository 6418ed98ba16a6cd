/- 'Dl', part Zp: a builder's bytes: appending to them; The walks of strings.Builder's WriteByte, WriteString, String: which blocks they change; strings.Builder's methods as contracts over plain data; The walks of a quote's parts: plain, escape; The walk of a quote. -/
import Derived.Test.YtbefgbljlmnfoaaE08
import Derived.Laws.CopyRow
import Derived.Test.YtbefgbljlmnfoaaProg
import Derived.Shelf.Strings.Builder1
namespace Go.Dl
open Go.RowKit

def byteVals (l : List UInt8) : List Value := l.map fun b => .int .u8 b.toNat

/-- What a call on a builder may change. -/
structure UFrame (w w' : World) (fp fp' : List Nat) : Prop where
  os : w'.os = w.os
  tape : w'.tape = w.tape
  out : OutLe w w'
  size : w.heap.size ≤ w'.heap.size
  keep : ∀ k, k < w.heap.size → k ∉ fp → w'.heap[k]? = w.heap[k]?
  new : ∀ k ∈ fp', (k ∈ fp ∨ w.heap.size ≤ k) ∧ k < w'.heap.size

theorem byteVals_len (l : List UInt8) : (byteVals l).length = l.length := by simp [byteVals]
theorem byteVals_app (a b : List UInt8) : byteVals (a ++ b) = byteVals a ++ byteVals b := by simp [byteVals]
theorem byteVals_one {l : List UInt8} : ∀ v ∈ byteVals l, v.oneCell' = true := by
  intro v hv
  obtain ⟨b, _, rfl⟩ := List.mem_map.1 hv
  rfl

section
variable {P : Program} {w : World} {S : Nat → Prop} {E : Env}

theorem run_appU {t xt ty e : TypeId} {i : TypeInfo} (ht : P.underlying t = some (.slice e)) (hi : P.info? e = some i) (hz : i.zero = some (.int .u8 0)) (hs : i.size = 1) (hb : i.bytes = 1) {xd : TypeDesc}
    (hxt : P.underlying xt = some xd) (hxd : xd = .string ∨ ∃ e', xd = .slice e') {bs new : List UInt8} {v vx : Value} {fp : List Nat} (hv : Rep w S E (.k true (.u e bs) v) fp)
    (hlen : ∀ n, (Builtin.lenOf vx).run P { w with drawn := n } = .ok new.length { w with drawn := n }) (hnew : ∀ n, (Builtin.firstCells 1 new.length vx).run P { w with drawn := n } = .ok (byteVals new).toArray { w with drawn := n })
    (hbd : bs.length + new.length ≤ 140737488355328) :
    ∃ v' w' fp', (Builtin.append_ #[t, xt] ty #[v, vx]).run P w = .ok v' w' ∧ Rep w' S E (.k true (.u e (bs ++ new)) v') fp' ∧ UFrame w w' fp fp' := by
  have hsz : ∀ w, (sizeOf e).run P w = .ok 1 w := fun w => by rw [run_sizeOf w hi, show P.cellsOf e = 1 by simp [Program.cellsOf, hi, hs]]
  have hlen0 : (Builtin.lenOf vx).run P w = .ok new.length w := hlen w.drawn
  have hnew0 : (Builtin.firstCells 1 new.length vx).run P w = .ok (byteVals new).toArray w := hnew w.drawn
  obtain ⟨base, cap, rfl, hcap, hcells⟩ : ∃ base cap, v = .slice base bs.length cap ∧ bs.length ≤ cap ∧
      ((base = none ∧ cap = 0 ∧ fp = []) ∨ ∃ g cur, base = some ⟨g, 0, none⟩ ∧ fp = [g] ∧ 0 < cap ∧ cap ≤ 9223372036854775807 ∧ w.heap[g]? = some (.cells cur e (0, 0)) ∧ cur.size = cap ∧ cur.toList.take bs.length = byteVals bs) := by
    cases hv with
    | un => exact ⟨none, 0, rfl, Nat.le_refl _, .inl ⟨rfl, rfl, rfl⟩⟩
    | uo h0 hg hc hm hz ht => exact ⟨_, _, rfl, hc, .inr ⟨_, _, rfl, rfl, h0, hm, hg, hz, ht⟩⟩
  by_cases hfit : bs.length + new.length ≤ cap
  · have hrun : ∀ w', (∀ ad, base = some ad → (storeCells (ad.add bs.length) (byteVals new)).run P w = .ok () w') → (base = none → w' = w) →
        (Builtin.append_ #[t, xt] ty #[.slice base bs.length cap, vx]).run P w = .ok (.slice base (bs.length + new.length) cap) w' := by
      intro w' hst hn
      rcases hxd with rfl | ⟨e', rfl⟩ <;>
      · simp only [Builtin.append_, Z22, Z1, Z2, Sem.run_bind, run_underlying ht, Result.andThen_ok, hsz, run_underlying hxt, Sem.run_pure,
          Bool.false_eq_true, if_false, hlen0, Sem.run_ite, if_pos hfit, Bool.not_false, if_true, hnew0, Nat.mul_one]
        cases base with
        | none => simp [hn rfl]
        | some ad => simp [hst ad rfl]
    rcases hcells with ⟨rfl, rfl, rfl⟩ | ⟨g, cur, rfl, rfl, hc0, hm, hg, hcs, hct⟩
    · have h1 : bs = [] := List.eq_nil_of_length_eq_zero (by omega)
      have h2 : new = [] := List.eq_nil_of_length_eq_zero (by omega)
      subst h1 h2
      exact ⟨_, w, [], hrun w (fun _ h => by cases h) (fun _ => rfl), .un, rfl, rfl, .rf _, Nat.le_refl _, fun _ _ _ => rfl, fun _ h => by cases h⟩
    · have hst0 := run_storeCells_at (P := P) g bs.length e (byteVals new) 0 cur w hg (by rw [byteVals_len]; omega) byteVals_one
      have hst : (storeCells ⟨g, bs.length, none⟩ (byteVals new)).run P w = .ok () (w.setRow g (cur.toList.take bs.length ++ byteVals new ++ cur.toList.drop (bs.length + (byteVals new).length)).toArray) := hst0
      generalize harr : (cur.toList.take bs.length ++ byteVals new ++ cur.toList.drop (bs.length + (byteVals new).length)).toArray = arr at hst
      have hasz : arr.size = cap := by
        rw [← harr]; simp [byteVals_len]; omega
      refine ⟨_, w.setRow g arr, [g], hrun _ (fun ad had => ?_) (fun h => by cases h), ?_, ?_⟩
      · cases had
        rw [addr_add, Nat.zero_add]; exact hst
      · rw [← List.length_append]
        refine .uo hc0 (setRow_heap w g cur arr e _ hg) (by simp; omega) hm hasz ?_
        rw [← harr, hct]
        show List.take (bs ++ new).length (byteVals bs ++ byteVals new ++ _) = byteVals (bs ++ new)
        rw [byteVals_app, List.take_left' (by simp [byteVals_len])]
      · refine ⟨rfl, rfl, ⟨rfl, Nat.le_refl _⟩, by simp [World.setRow], fun k hk hkg => setRow_other w g k arr (fun h => hkg (by simp [h])), fun k hk => ?_⟩
        simp at hk; subst hk
        have : k < w.heap.size := by
          rcases Nat.lt_or_ge k w.heap.size with h | h
          · exact h
          · rw [Array.getElem?_eq_none h] at hg; cases hg
        exact ⟨.inl (by simp), by simpa [World.setRow] using this⟩
  · -- it grows
    have hlt : cap < bs.length + new.length := by omega
    have hgrow : ¬ (Builtin.nextslicecap (bs.length + new.length) cap * i.bytes > 2 ^ 48) := by
      have := growslice_fits (bytes := i.bytes) hlt (by rw [hb]; omega)
      omega
    have hbz : ¬ (((bs.length + new.length : Nat) : Int) > IntKind.i64.max ∧ (False ∨ i.bytes = 0)) := by
      intro hh
      rcases hh.2 with hh | hh
      · exact hh
      · omega
    have holds : (Builtin.firstCells 1 bs.length (.slice base bs.length cap)).run P { w with drawn := w.drawn + 1 } = .ok (byteVals bs).toArray { w with drawn := w.drawn + 1 } := by
      rcases hcells with ⟨rfl, rfl, rfl⟩ | ⟨g, cur, rfl, rfl, hc0, hm, hg, hcs, hct⟩
      · have h1 : bs = [] := List.eq_nil_of_length_eq_zero (by omega)
        subst h1
        simp [Builtin.firstCells, byteVals]
      · refine run_firstCells_some _ 1 bs.length ⟨g, 0, none⟩ bs.length cap (byteVals bs) (by simp [byteVals_len]) (fun j v hj => ?_)
        rw [addr_add, Nat.zero_add]
        have hjl := lt_len hj
        rw [byteVals_len] at hjl
        rw [← hct, List.getElem?_take, if_pos hjl] at hj
        simpa [World.cell?, hg] using hj
    have hneed := Nat.le_add_right (bs.length + new.length) (w.tape w.drawn (.appendCap (bs.length + new.length) cap e) % (2 ^ 63 - (bs.length + new.length)))
    have hmax : (bs.length + new.length) + w.tape w.drawn (.appendCap (bs.length + new.length) cap e) % (2 ^ 63 - (bs.length + new.length)) ≤ 9223372036854775807 := by
      have := Nat.mod_lt (w.tape w.drawn (.appendCap (bs.length + new.length) cap e)) (show 2 ^ 63 - (bs.length + new.length) > 0 by omega)
      omega
    generalize hcapdef : (bs.length + new.length) + w.tape w.drawn (.appendCap (bs.length + new.length) cap e) % (2 ^ 63 - (bs.length + new.length)) = newCap at hneed hmax
    have hroom : ∀ n (w0 : World), (askRoom n).run P w0 = .ok () w0 := by
      intro n w0
      unfold askRoom; split
      · simp [mark, Sem.run]
      · rfl
    have hchoose : (choose (.appendCap (bs.length + new.length) cap e)).run P w = .ok newCap { w with drawn := w.drawn + 1 } := by
      simp [choose, Sem.run, Question.forced, Question.cut, hcapdef]
    have hz1 : ∀ w0 : World, (zeroValue e).run P w0 = .ok (.int .u8 0) w0 := fun w0 => by simp [zeroValue, run_typeInfo w0 hi, hz, Sem.run_bind]
    have t3 := hnew (w.drawn + 1)
    have hzc : (Builtin.zeroCells (Value.int .u8 0).cells (newCap - (bs.length + new.length))).size = newCap - (bs.length + new.length) := by
      rw [zeroCells_len]; simp [Value.cells]
    refine ⟨.slice (some ⟨w.heap.size, 0, none⟩) (bs.length + new.length) newCap, ({ w with drawn := w.drawn + 1 } : World).alloc (.cells ((byteVals bs).toArray ++ (byteVals new).toArray ++ Builtin.zeroCells (Value.int .u8 0).cells (newCap - (bs.length + new.length))) e), [w.heap.size], ?_, ?_, ?_⟩
    · rcases hxd with rfl | ⟨e', rfl⟩ <;>
      · simp only [Builtin.append_, Z22, Z1, Z2, Sem.run_bind, run_underlying ht, Result.andThen_ok, hsz, run_underlying hxt, Sem.run_pure,
          Bool.false_eq_true, if_false, hlen0, Sem.run_ite, if_neg hfit, run_typeInfo w hi]
        rw [if_neg hbz]
        simp only [Result.andThen_ok, if_neg hgrow, hchoose, run_typeInfo _ hi, hroom, holds, Bool.not_false, if_true, t3, hz1, run_newRow]
    · have hl : (bs ++ new).length = bs.length + new.length := List.length_append
      have key := Rep.uo (S := S) (E := E) (dat := true) (T := e) (bs := bs ++ new) (cap := newCap) (w := ({ w with drawn := w.drawn + 1 } : World).alloc (.cells ((byteVals bs).toArray ++ (byteVals new).toArray ++ Builtin.zeroCells (Value.int .u8 0).cells (newCap - (bs.length + new.length))) e)) (g := w.heap.size) (cur := ((byteVals bs).toArray ++ (byteVals new).toArray ++ Builtin.zeroCells (Value.int .u8 0).cells (newCap - (bs.length + new.length)))) (by omega) (heap_alloc_new _ _) (by rw [hl]; exact hneed) hmax (by rw [Array.size_append, hzc]; simp [byteVals_len]; omega)
        (by
          show List.take (bs ++ new).length _ = byteVals (bs ++ new)
          rw [byteVals_app, Array.toList_append, Array.toList_append, List.take_left' (by simp [byteVals_len])])
      rw [hl] at key
      exact key
    · refine ⟨rfl, rfl, ⟨rfl, Nat.le_succ _⟩, ?_, fun k hk hkg => ?_, fun k hk => ?_⟩
      · show w.heap.size ≤ (w.heap.push _).size
        simp
      · show (w.heap.push _)[k]? = _
        rw [Array.getElem?_push, if_neg (by omega)]
      · simp at hk; subst hk
        refine ⟨.inr (Nat.le_refl _), ?_⟩
        show _ < (w.heap.push _).size
        simp

/-- A builder that is made. -/
theorem step_bld {o : Oper} {A : St} {t e : TypeId} (ho : o.op = .alloc t) (hz : ∀ w, (zeroValue t).run P w = .ok (.agg #[.pointer none, .slice none 0 0]) w) :
    Step P o A (fun A' => A' = A.with o.dst (.c (.p A.H.length 0 0), A.H ++ [some ⟨false, 2, [[.b t, .u e []]]⟩])) := by
  intro g a w ⟨S, E, F, hr⟩ next Q hn
  have hv : Rep w S E (.vs [.v (.pointer none), .s true 0 []] [.pointer none, .slice none 0 0]) [] := .vcons (f1 := []) (.v trivial) (.vcons (f1 := []) (.nilO) .vnil)
  have hnew := hr.newRoot (R := ⟨false, 2, [[.v (.pointer none), .s true 0 []]]⟩) (vs := [.pointer none, .slice none 0 0]) (extra := []) (el := t) (m := 1) (by simpa using hv) (by simp) (by simp) (by simp) (by simp)
  rw [List.append_nil] at hnew
  have hb : (w.alloc (.cells #[.pointer none, .slice none 0 0] t)).heap[w.heap.size]? = some (.cells #[.pointer none, .slice none 0 0] t (0, 0)) := heap_alloc_new _ _
  have hlE := hr.lE
  have hlF := hr.lF
  have hroot : RootAt (w.alloc (.cells #[.pointer none, .slice none 0 0] t)) S (E ++ [some ⟨some (w.heap.size, 0), 2, 1, 1⟩]) ⟨false, 2, [[.b t, .u e []]]⟩ ⟨some (w.heap.size, 0), 2, 1, 1⟩ [w.heap.size] := by
    refine ⟨rfl, rfl, Nat.le_refl _, by simp, [], rfl, ⟨_, _, _, hb, Nat.le_refl _, fun o ho => (by simp only [World.frozen?, hb]; simp)⟩, ?_⟩
    have h0 : Rep (w.alloc (.cells #[.pointer none, .slice none 0 0] t)) S (E ++ [some ⟨some (w.heap.size, 0), 2, 1, 1⟩]) (.l false [] w.heap.size 2) [] := .lnil
    have h1 : Rep (w.alloc (.cells #[.pointer none, .slice none 0 0] t)) S (E ++ [some ⟨some (w.heap.size, 0), 2, 1, 1⟩]) (.l false [.u e []] w.heap.size 1) ([] ++ []) := .lcons (v := .slice none 0 0) (by simp only [World.cell?, hb]; rfl) .un h0
    exact .lb hb rfl rfl (.inl rfl) h1
  have hfin := hnew.refoot (r := A.H.length) (R := ⟨false, 2, [[.v (.pointer none), .s true 0 []]]⟩) (R' := ⟨false, 2, [[.b t, .u e []]]⟩) (p := ⟨some (w.heap.size, 0), 2, 1, 1⟩) (f := [w.heap.size]) (f' := [w.heap.size])
    (by simp) (by rw [← hlE]; simp) (by rw [← hlF]; simp) hroot (by simp) (fun b hb => .inl hb) rfl
  have hset : (A.H ++ [some (⟨false, 2, [[.v (.pointer none), .s true 0 []]]⟩ : Root)]).set A.H.length (some ⟨false, 2, [[.b t, .u e []]]⟩) = A.H ++ [some ⟨false, 2, [[.b t, .u e []]]⟩] := by simp
  unfold Oper.wp
  have hrun : (execOp a.eval o).run P w = .ok (.value (.pointer (some ⟨w.heap.size, 0, none⟩))) (w.alloc (.cells #[.pointer none, .slice none 0 0] t)) := by
    simp [execOp, ho, Instr.alloc, hz, newVar, run_newRow]
    rfl
  rw [hrun]
  refine hn _ _ _ rfl ⟨S, _, _, Rel.put (A := { A with H := A.H ++ [some ⟨false, 2, [[.b t, .u e []]]⟩] }) (by simpa only [hset] using hfin) (.c (.p ?_ ?_))⟩
  · rw [List.length_append, hlE]; simp
  · intro pl hpl
    rw [← hlE, List.getElem?_append_right (Nat.le_refl _)] at hpl
    simp at hpl
    subst hpl
    exact ⟨w.heap.size, 0, rfl, by simp⟩

theorem rr_bld {ops : Array Oper} {o : Oper} {os : List Oper} {A : St} {K : St → Prop} {t : TypeId} (e : TypeId) (hg : o.guard = none) (ho : o.op = .alloc t) (hz : ∀ w, (zeroValue t).run P w = .ok (.agg #[.pointer none, .slice none 0 0]) w)
    (h : RunR P ops os (A.with o.dst (.c (.p A.H.length 0 0), A.H ++ [some ⟨false, 2, [[.b t, .u e []]]⟩])) K) : RunR P ops (o :: os) A K :=
  rr_step hg (step_bld ho hz) (by rintro _ rfl; exact h)

end
end Go.Dl

namespace Go.Dl
open Go.RowKit Go.Proofs
set_option linter.unusedSimpArgs false
set_option linter.unusedVariables false
set_option maxHeartbeats 1000000
set_option maxRecDepth 100000

/-- A builder as it lies: its block, its bytes, the blocks of these. -/
structure BdAt (w : World) (b : Nat) (p v : Value) (bs : List UInt8) (fp : List Nat) : Prop where
  blk : w.heap[b]? = some (.cells #[p, v] 69 (0, 0))
  ptr : p = .pointer none ∨ p = .pointer (some ⟨b, 0, none⟩)
  rep : Rep w (fun _ => False) [] (.k true (.u 5 bs) v) fp
  out : b ∉ fp

theorem cc_used (b : Nat) (w : World) (h0 : w.cell? ⟨b, 0, none⟩ = some (.pointer (some ⟨b, 0, none⟩))) :
    Calls Try.prog 60 #[.pointer (some ⟨b, 0, none⟩)] w fun e w' => e = .returned (.tuple #[]) ∧ w' = w := by
  obtain ⟨j, hj, hjs⟩ := Option.map_eq_some_iff.1 (show (Try.prog.info? 69).map (·.size) = some 2 by kernel_rfl)
  have mixed : Try.prog.follows .mixedOrders = true := by kernel_rfl
  have t69 := Try.underlying69; have a69 := Try.isAgg69; have z69 := Try.sizeOf69; have v69 := Try.zeroValue69; have u69 := run_underlying Try.underlying69
  have t67 := Try.underlying67; have a67 := Try.isAgg67; have z67 := Try.sizeOf67; have v67 := Try.zeroValue67; have u67 := run_underlying Try.underlying67
  have t9 := Try.underlying9; have a9 := Try.isAgg9; have z9 := Try.sizeOf9
  have t4 := Try.underlying4; have a4 := Try.isAgg4; have z4 := Try.sizeOf4
  have t110 := Try.underlying110; have a110 := Try.isAgg110; have z110 := Try.sizeOf110
  go_enter Try.func60, Try.ntmps60
  go_wp2
  rw [Lib.run_neq_ptr_same w _ Try.underlying67 hj]
  go_wp2
  go_end0
  exact ⟨rfl, rfl⟩

theorem cc_fresh (b : Nat) (w : World) (h0 : w.cell? ⟨b, 0, none⟩ = some (.pointer none)) (hsh : w.shape? b = some (69, 2)) (hfz : w.frozen? ⟨b, 0, none⟩ = false) :
    Calls Try.prog 60 #[.pointer (some ⟨b, 0, none⟩)] w fun e w' => e = .returned (.tuple #[]) ∧ w' = w.setCell ⟨b, 0, none⟩ (.pointer (some ⟨b, 0, none⟩)) := by
  obtain ⟨j, hj, hjs⟩ := Option.map_eq_some_iff.1 (show (Try.prog.info? 69).map (·.size) = some 2 by kernel_rfl)
  have mixed : Try.prog.follows .mixedOrders = true := by kernel_rfl
  have t69 := Try.underlying69; have a69 := Try.isAgg69; have z69 := Try.sizeOf69; have v69 := Try.zeroValue69; have u69 := run_underlying Try.underlying69
  have t67 := Try.underlying67; have a67 := Try.isAgg67; have z67 := Try.sizeOf67; have v67 := Try.zeroValue67; have u67 := run_underlying Try.underlying67
  have t9 := Try.underlying9; have a9 := Try.isAgg9; have z9 := Try.sizeOf9
  have t4 := Try.underlying4; have a4 := Try.isAgg4; have z4 := Try.sizeOf4
  have t110 := Try.underlying110; have a110 := Try.isAgg110; have z110 := Try.sizeOf110
  go_enter Try.func60, Try.ntmps60
  go_wp2
  rw [Lib.run_to_unsafe w ⟨b, 0, none⟩ Try.underlying67 Try.underlying110 hj (by rw [hjs]; decide) hsh (Nat.zero_lt_succ 1)]
  simp only [Result.andThen]
  rw [Oper.upon_value]
  go_wp2
  rw [run_callFunc_extern Try.func74 (by kernel_rfl) (by kernel_rfl) (by kernel_rfl) (e := Extern.AbiNoEscape.same) (by kernel_rfl)]
  rw [Lib.run_noEscape]
  simp only [Result.andThen]
  rw [Oper.upon_value]
  go_wp2
  rw [Lib.run_from_unsafe w ⟨b, 0, none⟩ Try.underlying110 Try.underlying67 hj hsh (by kernel_rfl)]
  simp only [Result.andThen]
  rw [Oper.upon_value]
  go_wp2
  go_end0
  exact ⟨rfl, rfl⟩

/-- What a method leaves. -/
structure BdKept (w w' : World) (b : Nat) (v : Value) (bs : List UInt8) (fp : List Nat) : Prop where
  at' : ∃ v' fp', BdAt w' b (.pointer (some ⟨b, 0, none⟩)) v' bs fp' ∧ UFrame w w' (b :: fp) fp'

theorem lt_of_heap {w : World} {b : Nat} {o : Go.Obj} (h : w.heap[b]? = some o) : b < w.heap.size := by
  rcases Nat.lt_or_ge b w.heap.size with h' | h'
  · exact h'
  · rw [Array.getElem?_eq_none h'] at h; cases h

theorem BdAt.cc {w : World} {b : Nat} {p v : Value} {bs : List UInt8} {fp : List Nat} (h : BdAt w b p v bs fp) :
    Calls Try.prog 60 #[.pointer (some ⟨b, 0, none⟩)] w fun e w' => e = .returned (.tuple #[]) ∧ BdAt w' b (.pointer (some ⟨b, 0, none⟩)) v bs fp ∧
      w'.os = w.os ∧ w'.tape = w.tape ∧ w'.output = w.output ∧ w'.drawn = w.drawn ∧ w'.heap.size = w.heap.size ∧ ∀ k, k ≠ b → w'.heap[k]? = w.heap[k]? := by
  obtain ⟨hb, hp, hr, ho⟩ := h
  rcases hp with rfl | rfl
  · refine (cc_fresh b w (by simp [World.cell?, hb]) (by simp [World.shape?, hb]) (by simp [World.frozen?, hb])).mono ?_
    rintro e w' ⟨rfl, rfl⟩
    have hlt : b < w.heap.size := lt_of_heap hb
    have hk : ∀ k, k ≠ b → (w.setCell ⟨b, 0, none⟩ (.pointer (some ⟨b, 0, none⟩))).heap[k]? = w.heap[k]? := fun k hk => Below.heap_setCell _ _ _ _ hk
    refine ⟨rfl, ⟨?_, .inr rfl, ?_, ho⟩, rfl, rfl, rfl, rfl, by simp [World.setCell], hk⟩
    · have h' : w.heap[b] = .cells #[.pointer none, v] 69 (0, 0) := by simpa [Array.getElem?_eq_getElem hlt] using hb
      show (w.heap.modify b _)[b]? = _
      rw [Array.getElem?_eq_getElem (by simpa using hlt), Array.getElem_modify_self, h']
      rfl
    · refine hr.mono (fun _ h => h) (.refl _ _) fun k hk' => hk k ?_
      rcases hk' with h | h | h
      · cases h
      · exact fun e => ho (e ▸ h)
      · cases h
  · refine (cc_used b w (by simp [World.cell?, hb])).mono ?_
    rintro e w' ⟨rfl, rfl⟩
    exact ⟨rfl, ⟨hb, .inr rfl, hr, ho⟩, rfl, rfl, rfl, rfl, rfl, fun _ _ => rfl⟩

theorem wpList_appX {P : Program} {ops : Array Oper} {rest : List Oper} {o : Oper} {a : Act} {w : World} {Q : Exit → Act → World → Prop} {v vx : Value} (hgd : o.guard = none) (s x : Operand) (t xt : TypeId)
    (ho : o.op = .call { callee := .builtin .append, args := #[s, x], argTypes := #[t, xt] }) {e : TypeId} {i : TypeInfo} (ht : P.underlying t = some (.slice e)) (hi : P.info? e = some i) (hz : i.zero = some (.int .u8 0)) (hsz : i.size = 1) (hb : i.bytes = 1) {xd : TypeDesc}
    (hxt : P.underlying xt = some xd) (hxd : xd = .string ∨ ∃ e', xd = .slice e') (bs new : List UInt8) (fp : List Nat) (hs : a.eval s = v) (hx : a.eval x = vx) (hv : Rep w (fun _ => False) [] (.k true (.u e bs) v) fp)
    (hlen : ∀ n, (Builtin.lenOf vx).run P { w with drawn := n } = .ok new.length { w with drawn := n }) (hnew : ∀ n, (Builtin.firstCells 1 new.length vx).run P { w with drawn := n } = .ok (byteVals new).toArray { w with drawn := n })
    (hbd : bs.length + new.length ≤ 140737488355328)
    (h : ∀ v' w' fp', Rep w' (fun _ => False) [] (.k true (.u e (bs ++ new)) v') fp' → UFrame w w' fp fp' → wpList P ops Q rest (a.put o.dst v') w') : wpList P ops Q (o :: rest) a w := by
  obtain ⟨v', w', fp', hr, h1, h2⟩ := run_appU (ty := o.type) ht hi hz hsz hb hxt hxd hv hlen hnew hbd
  refine wpList_plain hgd fun K hK => ?_
  unfold Oper.wp execOp
  simp only [ho, resolve, invoke, builtin, Sem.run_bind, Sem.run_pure, Result.andThen_ok, List.map_toArray, Z24, Z13, hs, hx, hr]
  exact hK _ _ (h v' w' fp' h1 h2)

/-- The builder's bytes are put into its second cell. -/
theorem BdAt.put {w : World} {b : Nat} {p v v' : Value} {bs : List UInt8} {fp : List Nat} (hb : w.heap[b]? = some (.cells #[p, v] 69 (0, 0))) (hp : p = .pointer none ∨ p = .pointer (some ⟨b, 0, none⟩))
    (hr : Rep w (fun _ => False) [] (.k true (.u 5 bs) v') fp) (ho : b ∉ fp) : BdAt (w.setCell ⟨b, 1, none⟩ v') b p v' bs fp ∧ ∀ k, k ≠ b → (w.setCell ⟨b, 1, none⟩ v').heap[k]? = w.heap[k]? := by
  have hlt : b < w.heap.size := lt_of_heap hb
  have hk : ∀ k, k ≠ b → (w.setCell ⟨b, 1, none⟩ v').heap[k]? = w.heap[k]? := fun k hk => Below.heap_setCell _ _ _ _ hk
  refine ⟨⟨?_, hp, ?_, ho⟩, hk⟩
  · have h' : w.heap[b] = .cells #[p, v] 69 (0, 0) := by simpa [Array.getElem?_eq_getElem hlt] using hb
    show (w.heap.modify b _)[b]? = _
    rw [Array.getElem?_eq_getElem (by simpa using hlt), Array.getElem_modify_self, h']
    rfl
  · refine hr.mono (fun _ h => h) (.refl _ _) fun k hk' => hk k ?_
    rcases hk' with h | h | h
    · cases h
    · exact fun e => ho (e ▸ h)
    · cases h

theorem u_slice {w : World} {S : Nat → Prop} {E : Env} {d : Bool} {e : TypeId} {l : List UInt8} {v : Value} {fp : List Nat} (h : Rep w S E (.k d (.u e l) v) fp) : ∃ ao n cap, v = .slice ao n cap := by
  cases h <;> exact ⟨_, _, _, rfl⟩

theorem wb_raw {w : World} {b : Nat} {p v : Value} {bs : List UInt8} {fp : List Nat} (h : BdAt w b p v bs fp) (x : UInt8) (hbd : bs.length + 1 ≤ 140737488355328) (hfl : ∀ k ∈ fp, k < w.heap.size) :
    Calls Try.prog 32 #[.pointer (some ⟨b, 0, none⟩), .int .u8 x.toNat] w fun e w' => e = .returned .nilIface ∧ ∃ v' fp', BdAt w' b (.pointer (some ⟨b, 0, none⟩)) v' (bs ++ [x]) fp' ∧ UFrame w w' (b :: fp) fp' := by
  obtain ⟨i0, hi, hz0, hz1, hz2⟩ := info_parts (show (Try.prog.info? 5).map (fun i => (i.zero, i.size, i.bytes)) = some (some (.int .u8 0), 1, 1) by kernel_rfl)
  have mixed : Try.prog.follows .mixedOrders = true := by kernel_rfl
  have t69 := Try.underlying69; have a69 := Try.isAgg69; have z69 := Try.sizeOf69; have v69 := Try.zeroValue69; have u69 := run_underlying Try.underlying69
  have t67 := Try.underlying67; have a67 := Try.isAgg67; have z67 := Try.sizeOf67; have v67 := Try.zeroValue67; have u67 := run_underlying Try.underlying67
  have t5 := Try.underlying5; have a5 := Try.isAgg5; have z5 := Try.sizeOf5; have v5 := Try.zeroValue5; have u5 := run_underlying Try.underlying5
  have t35 := Try.underlying35; have a35 := Try.isAgg35; have z35 := Try.sizeOf35; have v35 := Try.zeroValue35; have u35 := run_underlying Try.underlying35
  have e60 : ∀ args w, (callFunc 60 args).run Try.prog w = .ok (.enter 60 args) w := enters_of Try.func60 (by kernel_rfl) rfl
  have hlt0 : b < w.heap.size := lt_of_heap h.blk
  go_enter Try.func32, Try.ntmps32
  go_wp2_with (go_at_fn 60; refine h.cc.mono ?_)
  rintro e w1 ⟨rfl, h1, c1, c2, c3, c4, c5, c6⟩
  obtain ⟨hb1, hp1, hr1, ho1⟩ := h1
  have hfl1 : ∀ k ∈ fp, k < w1.heap.size := fun k hk => by rw [c5]; exact hfl k hk
  have g0 : w1.cell? ⟨b, 0, none⟩ = some (.pointer (some ⟨b, 0, none⟩)) := by simp [World.cell?, hb1]
  have g1 : w1.cell? ⟨b, 1, none⟩ = some v := by simp [World.cell?, hb1]
  go_wp2_with (at_builtin; refine wpList_appX (v := v) (vx := .slice (some ⟨w.heap.size, 0, none⟩) 1 1) rfl _ _ 35 35 rfl Try.underlying35 hi hz0 hz1 hz2 Try.underlying35 (.inr ⟨_, rfl⟩) bs [x] fp rfl rfl ?c1 ?c2 ?c3 hbd ?_)
  case c1 =>
    refine hr1.mono (fun _ h => h) (.refl _ _) fun k hk' => heap_alloc_lt _ _ ?_
    rcases hk' with h | h | h
    · cases h
    · exact hfl1 k h
    · cases h
  case c2 => intro n; simp [Builtin.lenOf]
  case c3 =>
    intro n
    rw [← c5]
    refine run_firstCells_some _ 1 1 ⟨w1.heap.size, 0, none⟩ 1 1 (byteVals [x]) (by simp [byteVals_len]) (fun j u hj => ?_)
    rw [addr_add, Nat.zero_add]
    have hjl := lt_len hj
    rw [byteVals_len] at hjl
    have : j = 0 := by simp at hjl; omega
    subst this
    have hh := heap_alloc_new w1 (.cells #[.int .u8 x.toNat] 5)
    simp [byteVals] at hj
    subst hj
    simp only [World.cell?]
    rw [show (({ w1.alloc (.cells #[.int .u8 x.toNat] 5) with drawn := n } : World).heap)[w1.heap.size]? = _ from hh]
    rfl
  intro v' w2 fp' hrep hfr
  have hlt1 : b < w1.heap.size := by rw [c5]; exact hlt0
  have hb2 : w2.heap[b]? = some (.cells #[.pointer (some ⟨b, 0, none⟩), v] 69 (0, 0)) := by
    rw [hfr.keep b (by simp; omega) ho1, heap_alloc_lt _ _ hlt1]; exact hb1
  have d0 : w2.cell? ⟨b, 0, none⟩ = some (.pointer (some ⟨b, 0, none⟩)) := by simp [World.cell?, hb2]
  have d1 : w2.cell? ⟨b, 1, none⟩ = some v := by simp [World.cell?, hb2]
  have f1 : w2.frozen? ⟨b, 1, none⟩ = false := by simp [World.frozen?, hb2]
  obtain ⟨ao, n', cap, rfl⟩ := u_slice hrep
  go_wp2
  go_ret
  refine ⟨rfl, ?_⟩
  have hbf : b ∉ fp' := fun hb' => by
    rcases (hfr.new b hb').1 with h | h
    · exact ho1 h
    · simp at h; omega
  obtain ⟨q1, q2⟩ := BdAt.put hb2 (.inr rfl) hrep hbf
  refine ⟨_, fp', q1, hfr.os.trans c1, hfr.tape.trans c2, ⟨hfr.out.1.trans c3, Nat.le_trans (Nat.le_of_eq c4.symm) hfr.out.2⟩, ?_, fun k hk hkf => ?_, fun k hk => ?_⟩
  · have := hfr.size
    simp [World.setCell] at this ⊢
    omega
  · simp only [List.mem_cons, not_or] at hkf
    rw [q2 k hkf.1, hfr.keep k (by simp; omega) hkf.2, heap_alloc_lt _ _ (by omega), c6 k hkf.1]
  · obtain ⟨k1, k2⟩ := hfr.new k hk
    refine ⟨?_, by simpa [World.setCell] using k2⟩
    rcases k1 with h | h
    · exact .inl (List.mem_cons_of_mem _ h)
    · simp at h; exact .inr (by omega)

theorem ws_raw {w : World} {b : Nat} {p v : Value} {bs : List UInt8} {fp : List Nat} (h : BdAt w b p v bs fp) (s : ByteArray) (hbd : bs.length + s.size ≤ 140737488355328) (hfl : ∀ k ∈ fp, k < w.heap.size) :
    Calls Try.prog 34 #[.pointer (some ⟨b, 0, none⟩), .string s] w fun e w' => e = .returned (.tuple #[.int .i64 s.size, .nilIface]) ∧ ∃ v' fp', BdAt w' b (.pointer (some ⟨b, 0, none⟩)) v' (bs ++ s.data.toList) fp' ∧ UFrame w w' (b :: fp) fp' := by
  obtain ⟨i0, hi, hz0, hz1, hz2⟩ := info_parts (show (Try.prog.info? 5).map (fun i => (i.zero, i.size, i.bytes)) = some (some (.int .u8 0), 1, 1) by kernel_rfl)
  have mixed : Try.prog.follows .mixedOrders = true := by kernel_rfl
  have t69 := Try.underlying69; have a69 := Try.isAgg69; have z69 := Try.sizeOf69; have v69 := Try.zeroValue69; have u69 := run_underlying Try.underlying69
  have t67 := Try.underlying67; have a67 := Try.isAgg67; have z67 := Try.sizeOf67; have v67 := Try.zeroValue67; have u67 := run_underlying Try.underlying67
  have t5 := Try.underlying5; have a5 := Try.isAgg5; have z5 := Try.sizeOf5; have v5 := Try.zeroValue5; have u5 := run_underlying Try.underlying5
  have t35 := Try.underlying35; have a35 := Try.isAgg35; have z35 := Try.sizeOf35; have v35 := Try.zeroValue35; have u35 := run_underlying Try.underlying35
  have t9 := Try.underlying9; have a9 := Try.isAgg9; have z9 := Try.sizeOf9; have v9 := Try.zeroValue9; have u9 := run_underlying Try.underlying9
  have t3 := Try.underlying3; have a3 := Try.isAgg3; have z3 := Try.sizeOf3; have v3 := Try.zeroValue3; have u3 := run_underlying Try.underlying3
  have e60 : ∀ args w, (callFunc 60 args).run Try.prog w = .ok (.enter 60 args) w := enters_of Try.func60 (by kernel_rfl) rfl
  have hlt0 : b < w.heap.size := lt_of_heap h.blk
  go_enter Try.func34, Try.ntmps34
  go_wp2_with (go_at_fn 60; refine h.cc.mono ?_)
  rintro e w1 ⟨rfl, h1, c1, c2, c3, c4, c5, c6⟩
  obtain ⟨hb1, hp1, hr1, ho1⟩ := h1
  have hfl1 : ∀ k ∈ fp, k < w1.heap.size := fun k hk => by rw [c5]; exact hfl k hk
  have g0 : w1.cell? ⟨b, 0, none⟩ = some (.pointer (some ⟨b, 0, none⟩)) := by simp [World.cell?, hb1]
  have g1 : w1.cell? ⟨b, 1, none⟩ = some v := by simp [World.cell?, hb1]
  have hl : s.data.toList.length = s.size := by simp
  go_wp2_with (at_builtin; refine wpList_appX (v := v) (vx := .string s) rfl _ _ 35 9 rfl Try.underlying35 hi hz0 hz1 hz2 Try.underlying9 (.inl rfl) bs s.data.toList fp rfl rfl hr1 ?c2 ?c3 (by rw [hl]; exact hbd) ?_)
  case c2 => intro n; simp [Builtin.lenOf]
  case c3 =>
    intro n
    rw [hl]
    simp only [Builtin.firstCells, Sem.run_pure]
    congr 1
    apply Array.toList_inj.1
    have : (s.extract 0 s.size).data = s.data := by rw [ByteArray.extract_zero_size]
    rw [Array.toList_map, this]
    rfl
  intro v' w2 fp' hrep hfr
  have hlt1 : b < w1.heap.size := by rw [c5]; exact hlt0
  have hb2 : w2.heap[b]? = some (.cells #[.pointer (some ⟨b, 0, none⟩), v] 69 (0, 0)) := by
    rw [hfr.keep b hlt1 ho1]; exact hb1
  have d0 : w2.cell? ⟨b, 0, none⟩ = some (.pointer (some ⟨b, 0, none⟩)) := by simp [World.cell?, hb2]
  have d1 : w2.cell? ⟨b, 1, none⟩ = some v := by simp [World.cell?, hb2]
  have f1 : w2.frozen? ⟨b, 1, none⟩ = false := by simp [World.frozen?, hb2]
  obtain ⟨ao, n', cap, rfl⟩ := u_slice hrep
  go_wp2
  go_ret2
  refine ⟨rfl, ?_⟩
  have hbf : b ∉ fp' := fun hb' => by
    rcases (hfr.new b hb').1 with h | h
    · exact ho1 h
    · omega
  obtain ⟨q1, q2⟩ := BdAt.put hb2 (.inr rfl) hrep hbf
  refine ⟨_, fp', q1, hfr.os.trans c1, hfr.tape.trans c2, ⟨hfr.out.1.trans c3, Nat.le_trans (Nat.le_of_eq c4.symm) hfr.out.2⟩, ?_, fun k hk hkf => ?_, fun k hk => ?_⟩
  · have := hfr.size
    simp [World.setCell] at this ⊢
    omega
  · simp only [List.mem_cons, not_or] at hkf
    rw [q2 k hkf.1, hfr.keep k (by omega) hkf.2, c6 k hkf.1]
  · obtain ⟨k1, k2⟩ := hfr.new k hk
    refine ⟨?_, by simpa [World.setCell] using k2⟩
    rcases k1 with h | h
    · exact .inl (List.mem_cons_of_mem _ h)
    · exact .inr (by omega)

/-- What String leaves: the bytes stay as they are from then on. -/
structure StrLeft (w w' : World) (b : Nat) (p v : Value) (bs : List UInt8) (fp : List Nat) : Prop where
  os : w'.os = w.os
  tape : w'.tape = w.tape
  out : OutLe w w'
  size : w.heap.size ≤ w'.heap.size
  keep : ∀ k, k < w.heap.size → k ∉ fp → w'.heap[k]? = w.heap[k]?
  rep : ∀ S : Nat → Prop, (∀ k ∈ fp, S k) → Rep w' S [] (.k true (.s false 1 (bs.map byteRow)) v) []

theorem bytes_l {w : World} {S : Nat → Prop} {g : Nat} {cur : Array Value} {T : TypeId} {z : Nat × Nat} (hg : w.heap[g]? = some (.cells cur T z)) : ∀ (bs : List UInt8) (off : Nat), (∀ (j : Nat) (x : UInt8), bs[j]? = some x → cur[off + j]? = some (.int .u8 x.toNat)) →
    Rep w S [] (.l true (bs.map byteRow).flatten g off) []
  | [], _, _ => .lnil
  | x :: bs, off, h => by
    show Rep w S [] (.l true (C.v (.int .u8 x.toNat) :: (bs.map byteRow).flatten) g off) ([] ++ [])
    refine .lcons (v := .int .u8 x.toNat) ?_ (.v ?_) (bytes_l hg bs (off + 1) fun j y hj => ?_)
    · simp only [World.cell?, hg]; exact h 0 x rfl
    · have := x.toNat_lt
      show (decide (0 ≤ (x.toNat : Int)) && decide ((x.toNat : Int) ≤ 255)) = true
      rw [Bool.and_eq_true, decide_eq_true_eq, decide_eq_true_eq]; omega
    · rw [show off + 1 + j = off + (j + 1) by omega]; exact h (j + 1) y (by simpa using hj)

theorem str_raw {w : World} {b : Nat} {p v : Value} {bs : List UInt8} {fp : List Nat} (h : BdAt w b p v bs fp) :
    Calls Try.prog 35 #[.pointer (some ⟨b, 0, none⟩)] w fun e w' => e = .returned (.string ⟨bs.toArray⟩) ∧ StrLeft w w' b p v bs fp := by
  have mixed : Try.prog.follows .mixedOrders = true := by kernel_rfl
  have t69 := Try.underlying69; have a69 := Try.isAgg69; have z69 := Try.sizeOf69; have v69 := Try.zeroValue69; have u69 := run_underlying Try.underlying69
  have t67 := Try.underlying67; have a67 := Try.isAgg67; have z67 := Try.sizeOf67; have v67 := Try.zeroValue67; have u67 := run_underlying Try.underlying67
  have t5 := Try.underlying5; have a5 := Try.isAgg5; have z5 := Try.sizeOf5; have v5 := Try.zeroValue5; have u5 := run_underlying Try.underlying5
  have t35 := Try.underlying35; have a35 := Try.isAgg35; have z35 := Try.sizeOf35; have v35 := Try.zeroValue35; have u35 := run_underlying Try.underlying35
  have t101 := Try.underlying101; have a101 := Try.isAgg101; have z101 := Try.sizeOf101; have v101 := Try.zeroValue101; have u101 := run_underlying Try.underlying101
  have t9 := Try.underlying9; have a9 := Try.isAgg9; have z9 := Try.sizeOf9; have v9 := Try.zeroValue9; have u9 := run_underlying Try.underlying9
  have t3 := Try.underlying3; have a3 := Try.isAgg3; have z3 := Try.sizeOf3; have v3 := Try.zeroValue3; have u3 := run_underlying Try.underlying3
  obtain ⟨hb, hp, hr, ho⟩ := h
  cases hr with
  | un =>
    have hUS := fun (W : World) (q : Option Addr) => Lib.run_unsafeString_none (P := Try.prog) W 101 3 9 q
    have c1 : w.drew.cell? ⟨b, 1, none⟩ = some (.slice none 0 0) := by
      have : w.drew.heap[b]? = some (.cells #[p, .slice none 0 0] 69 (0, 0)) := hb
      simp [World.cell?, this]
    have hSD : (Builtin.unsafeSliceData_ #[35] 101 #[.slice none 0 0]).run Try.prog w.drew = .ok (.pointer none) w.drew := rfl
    go_enter Try.func35, Try.ntmps35
    go_wp2
    go_region_o
    all_goals (go_wp2; go_ret; exact ⟨rfl, rfl, rfl, ⟨rfl, Nat.le_succ _⟩, Nat.le_refl _, fun _ _ _ => rfl, fun S _ => .nilI⟩)
  | uo h0 hg hc hm hz ht =>
    rename_i g cap cur
    have hcells : ∀ (j : Nat) (x : UInt8), bs[j]? = some x → cur[j]? = some (.int .u8 x.toNat) := by
      intro j x hj
      have hjl := lt_len hj
      have h1 : (cur.toList.take bs.length)[j]? = some (.int .u8 x.toNat) := by rw [ht]; simp [hj]
      rw [List.getElem?_take, if_pos hjl] at h1
      simpa using h1
    have hlen : (bs.map byteRow).length = bs.length := by simp
    by_cases hb0 : bs = []
    · subst hb0
      have hUS := fun (W : World) (q : Option Addr) => Lib.run_unsafeString_none (P := Try.prog) W 101 3 9 q
      have c1 : w.drew.cell? ⟨b, 1, none⟩ = some (.slice (some ⟨g, 0, none⟩) 0 cap) := by
        have : w.drew.heap[b]? = some (.cells #[p, .slice (some ⟨g, 0, none⟩) 0 cap] 69 (0, 0)) := hb
        simp [World.cell?, this]
      have hSD : (Builtin.unsafeSliceData_ #[35] 101 #[.slice (some ⟨g, 0, none⟩) 0 cap]).run Try.prog w.drew = .ok (.pointer (some ⟨g, 0, none⟩)) w.drew := Lib.run_unsafeSliceData_row _ _ _ _ _ _ (by omega)
      clear hz hm hc h0 ht hcells
      go_enter Try.func35, Try.ntmps35
      go_wp2
      go_region_o
      all_goals (go_wp2; go_ret; exact ⟨rfl, rfl, rfl, ⟨rfl, Nat.le_succ _⟩, Nat.le_refl _, fun _ _ _ => rfl, fun S _ => .nilI⟩)
    · have hl0 : bs.length ≠ 0 := by simpa using hb0
      have c1 : w.drew.cell? ⟨b, 1, none⟩ = some (.slice (some ⟨g, 0, none⟩) bs.length cap) := by
        have : w.drew.heap[b]? = some (.cells #[p, .slice (some ⟨g, 0, none⟩) bs.length cap] 69 (0, 0)) := hb
        simp [World.cell?, this]
      have hSD : (Builtin.unsafeSliceData_ #[35] 101 #[.slice (some ⟨g, 0, none⟩) bs.length cap]).run Try.prog w.drew = .ok (.pointer (some ⟨g, 0, none⟩)) w.drew := Lib.run_unsafeSliceData_row _ _ _ _ _ _ (by omega)
      have hUS : (Builtin.unsafeString_ #[101, 3] 9 #[.pointer (some ⟨g, 0, none⟩), .int .i64 bs.length]).run Try.prog w.drew = .ok (.string ⟨bs.toArray⟩) (w.drew.freeze ⟨g, 0, none⟩ bs.length) := by
        refine Lib.run_unsafeString_row w.drew 101 3 9 5 Try.underlying101 (by kernel_rfl) g cur.size (by have hg' : w.drew.heap[g]? = some (.cells cur 5 (0, 0)) := hg; simp [World.shape?, hg']) bs hb0 (by omega) (by omega) ?_
        intro j x hx
        have hg' : w.drew.heap[g]? = some (.cells cur 5 (0, 0)) := hg
        rw [addr_add, Nat.zero_add]
        simp only [World.cell?, hg']
        exact hcells j x hx
      have hlt : g < w.heap.size := lt_of_heap hg
      have hfin : StrLeft w (w.drew.freeze ⟨g, 0, none⟩ bs.length) b p (.slice (some ⟨g, 0, none⟩) bs.length cap) bs [g] := by
        have hk : ∀ k, k ≠ g → (w.drew.freeze ⟨g, 0, none⟩ bs.length).heap[k]? = w.heap[k]? := by
          intro k hk
          simp only [World.freeze, if_neg hl0]
          show (w.heap.modify g _)[k]? = _
          rw [Array.getElem?_modify, if_neg (fun e => hk e.symm)]
        have hfz : ∃ z, (w.drew.freeze ⟨g, 0, none⟩ bs.length).heap[g]? = some (.cells cur 5 z) := by
          simp only [World.freeze, if_neg hl0]
          have h' : w.heap[g] = .cells cur 5 (0, 0) := by simpa [Array.getElem?_eq_getElem hlt] using hg
          refine ⟨(0, 0 + bs.length), ?_⟩
          show (w.heap.modify g _)[g]? = _
          rw [Array.getElem?_eq_getElem (by simpa using hlt), Array.getElem_modify_self, h']
          rfl
        obtain ⟨z, hfz⟩ := hfz
        refine ⟨?_, ?_, ⟨?_, ?_⟩, ?_, fun k _ hkf => hk k (by simpa using hkf), fun S hS => ?_⟩
        · simp only [World.freeze, if_neg hl0]; rfl
        · simp only [World.freeze, if_neg hl0]; rfl
        · simp only [World.freeze, if_neg hl0]; rfl
        · simp only [World.freeze, if_neg hl0]; exact Nat.le_succ _
        · simp only [World.freeze, if_neg hl0]
          show w.heap.size ≤ (w.heap.modify g _).size
          simp
        · have key := Rep.imm (S := S) (E := []) (dat := true) (es := 1) (rows := bs.map byteRow) (cap := cap) (off := 0) (hS g (by simp)) (by rw [hlen]; exact hc) (fun r hr => by obtain ⟨x, _, rfl⟩ := List.mem_map.1 hr; rfl)
            (bytes_l hfz bs 0 fun j x hj => by rw [Nat.zero_add]; exact hcells j x hj)
          rw [hlen] at key
          exact key
      clear hz hm hc h0 ht hcells hg
      go_enter Try.func35, Try.ntmps35
      go_wp2
      go_region_o
      all_goals (go_wp2; go_ret; exact ⟨rfl, hfin⟩)

end Go.Dl

namespace Go.Dl
open Go.RowKit Go.Proofs
set_option linter.unusedSimpArgs false
set_option linter.unusedVariables false

/-- A builder. -/
def bdO (bs : List UInt8) : Obj := ⟨2, [[.b 69, .u 5 bs]]⟩

theorem u_any {w : World} {S S' : Nat → Prop} {E E' : Env} {d d' : Bool} {e : TypeId} {l : List UInt8} {v : Value} {fp : List Nat} (h : Rep w S E (.k d (.u e l) v) fp) : Rep w S' E' (.k d' (.u e l) v) fp := by
  cases h with
  | un => exact .un
  | uo h0 hg hc hm hz ht => exact .uo h0 hg hc hm hz ht
theorem u_nodup {w : World} {S : Nat → Prop} {E : Env} {d : Bool} {e : TypeId} {l : List UInt8} {v : Value} {fp : List Nat} (h : Rep w S E (.k d (.u e l) v) fp) : fp.Nodup := by
  cases h <;> simp
theorem u_lt {w : World} {S : Nat → Prop} {E : Env} {d : Bool} {e : TypeId} {l : List UInt8} {v : Value} {fp : List Nat} (h : Rep w S E (.k d (.u e l) v) fp) : ∀ k ∈ fp, k < w.heap.size := by
  cases h with
  | un => intro k hk; cases hk
  | uo h0 hg hc hm hz ht => intro k hk; rw [List.mem_singleton] at hk; subst hk; exact lt_of_heap hg

/-- A builder that is handed on. -/
theorem bd_open {w : World} {S : Nat → Prop} {bs : List UInt8} {pls : List Pl} {fps : List (List Nat)} {d0 : Value} (ho : ObjsAt w S [bdO bs] pls fps) (hn : fps.flatten.Nodup) (hd : RepD w S (pls.map some) (.c (.p 0 0 0)) d0) :
    ∃ b m p v fp, pls = [⟨some (b, 0), 2, 1, m⟩] ∧ fps = [b :: fp] ∧ d0 = .pointer (some ⟨b, 0, none⟩) ∧ m * 2 ≤ 2 ∧ 1 ≤ m ∧ BdAt w b p v bs fp := by
  obtain ⟨o1, o2, o3⟩ := ho
  obtain ⟨pl, f, h1, h2, g1, g2, g3, g4, g5⟩ := o3 0 _ rfl
  have hp1 : pls = [pl] := by
    cases pls with
    | nil => cases h1
    | cons a t =>
      have ht : t = [] := List.eq_nil_of_length_eq_zero (by simpa using o1)
      subst ht
      cases h1; rfl
  have hf1 : fps = [f] := by
    cases fps with
    | nil => cases h2
    | cons a t =>
      have ht : t = [] := List.eq_nil_of_length_eq_zero (by simpa using o2)
      subst ht
      cases h2; rfl
  subst hp1 hf1
  cases hat : pl.at? with
  | none => rw [hat] at g5; cases g5.1
  | some bo =>
    obtain ⟨b, off⟩ := bo
    rw [hat] at g5
    obtain ⟨fr, rfl, ⟨arr0, el0, z0, k1, k2, k3⟩, hrep⟩ := g5
    have hrep : Rep w S [] (.l true [.b 69, .u 5 bs] b off) fr := hrep
    cases hrep with
    | lcons _ h _ => cases h
    | lb hv hz h0 hb hr =>
      rename_i p arr
      cases hr with
      | lcons hv1 hc1 hr1 =>
        rename_i v f1 f2
        cases hr1
        rw [hv] at k1; cases k1
        obtain ⟨pat, pes, pn, pm⟩ := pl
        simp only at hat g1 g2 g3 k2
        subst hat
        have hes : pes = 2 := g1
        have hn1 : pn = 1 := g2
        subst hes hn1
        have k2' : pm * 2 ≤ 2 := by
          have : 0 + pm * 2 ≤ arr0.size := k2
          omega
        have harr : arr0 = #[p, v] := by
          have h1 : arr0[1]? = some v := by simpa [World.cell?, hv] using hv1
          apply Array.ext_getElem?
          intro i
          match i with
          | 0 => simpa using h0
          | 1 => simpa using h1
          | n + 2 => rw [Array.getElem?_eq_none (by omega), Array.getElem?_eq_none (by simp)]
        subst harr
        rw [List.append_nil] at hn ⊢
        have hn' : (b :: f1).Nodup := by simpa using hn
        refine ⟨b, pm, p, v, f1, rfl, rfl, ?_, k2', g3, hv, hb, u_any hc1, (List.nodup_cons.1 hn').1⟩
        cases hd with
        | c h => cases h with
          | p hr hh =>
            obtain ⟨b', off', e1, rfl⟩ := hh _ rfl
            cases e1
            simp

theorem bd_meets {k : FuncId} {ι : Type} {pre : ι → Prop} {bs bs' : ι → List UInt8} {rest : ι → List Value} {res : ι → Value} {resD : ι → D} (hres : ∀ x, pre x → ∀ w S, RepO w S (resD x) (res x) [])
    (raw : ∀ x, pre x → ∀ w b p v fp, BdAt w b p v (bs x) fp → (∀ k ∈ fp, k < w.heap.size) → Calls Try.prog k (.pointer (some ⟨b, 0, none⟩) :: rest x).toArray w fun e w' => e = .returned (res x) ∧
      ∃ v' fp', BdAt w' b (.pointer (some ⟨b, 0, none⟩)) v' (bs' x) fp' ∧ UFrame w w' (b :: fp) fp') :
    Meets Try.prog k (detS (famO pre (fun x => (.c (.p 0 0 0) :: (rest x).map fun v => .c (.v v), [bdO (bs x)])) (fun x => (resD x, [bdO (bs' x)])))) := by
  rintro args objs Q ⟨d, os, hd, hQ⟩ w S vs pls fps hlen hargs hobjs hnd hfs hS
  obtain ⟨x, h1, h2, h3⟩ := famO_inv hd
  cases h2
  cases h3
  obtain ⟨b, m, p, v, fp, rfl, rfl, hptr, hm2, hm1, hbd⟩ := bd_open hobjs hnd (hargs 0 _ rfl)
  have hvs : vs = (.pointer (some ⟨b, 0, none⟩) :: rest x).toArray := by
    apply Array.ext_getElem?
    intro i
    have hvl : vs.size = (rest x).length + 1 := by simpa using hlen.symm
    by_cases hi : i < vs.size
    · cases i with
      | zero =>
        rw [Array.getElem?_eq_getElem hi]
        have : vs.getD 0 undef = vs[0] := by simp [Array.getD, hi]
        rw [← this, hptr]; rfl
      | succ i =>
        have hil : i < (rest x).length := by omega
        have := hargs (i + 1) (.c (.v ((rest x)[i]))) (by simp [hil])
        obtain ⟨h, _⟩ := v_inv this
        rw [Array.getElem?_eq_getElem hi]
        have h' : vs.getD (i + 1) undef = vs[i + 1] := by simp [Array.getD, hi]
        rw [← h', h]
        simp [hil]
    · rw [Array.getElem?_eq_none (by omega), Array.getElem?_eq_none (by simp; omega)]
  subst hvs
  have hflt : ∀ k ∈ fp, k < w.heap.size := fun k hk => (hfs k (by simp [hk])).2
  refine (raw x h1 w b p v fp hbd hflt).mono ?_
  rintro e w' ⟨rfl, v', fp', hbd', hfr⟩
  obtain ⟨q1, q2, q3, q4⟩ := hbd'
  refine ⟨_, _, _, rfl, hQ, rfl, { size := hfr.size, keep := fun k hk hkf => hfr.keep k hk (by simpa using hkf), os := hfr.os, tape := hfr.tape, output := hfr.out, rest := ⟨S, [⟨some (b, 0), 2, 1, m⟩], [b :: fp'], [], fun _ h => h, fun k hk => ⟨Nat.lt_of_lt_of_le (hS k hk) hfr.size, .inl hk⟩, hres x h1 w' S, ⟨rfl, rfl, ?_⟩, ?_, ?_, ?_⟩ }⟩
  · intro i ob hob
    cases i with
    | succ i => cases hob
    | zero =>
      cases hob
      refine ⟨_, _, rfl, rfl, rfl, rfl, hm1, by simp [bdO], fp', rfl, ⟨_, _, _, q1, (by show 0 + m * 2 ≤ 2; omega), fun o ho => by simp [World.frozen?, q1]⟩, ?_⟩
      have h0 : Rep w' S [] (.l true [] b 2) [] := .lnil
      have h1 : Rep w' S [] (.l true [.u 5 (bs' x)] b 1) (fp' ++ []) := .lcons (by simp [World.cell?, q1]) (u_any q3) h0
      have h2 : Rep w' S [] (.l true [.b 69, .u 5 (bs' x)] b 0) (fp' ++ []) := .lb q1 rfl rfl q2 h1
      rw [List.append_nil] at h2
      exact h2
  · simp only [List.flatten_cons, List.flatten_nil, Z15, Z12]
    exact List.nodup_cons.2 ⟨q4, u_nodup q3⟩
  · intro k hk
    simp only [List.flatten_cons, List.flatten_nil, Z15, Z12] at hk ⊢
    rcases List.mem_cons.1 hk with rfl | hk
    · exact ⟨(hfs k (by simp)).1, Nat.lt_of_lt_of_le (hfs k (by simp)).2 hfr.size, .inl (by simp)⟩
    · obtain ⟨k1, k2⟩ := hfr.new k hk
      rcases k1 with k1 | k1
      · exact ⟨(hfs k (by simpa using k1)).1, k2, .inl k1⟩
      · exact ⟨fun h => absurd (hS k h) (by omega), k2, .inr k1⟩
  · intro i p p' hp hp'
    rw [hp] at hp'; cases hp'; exact p.le_refl

noncomputable def oWB := famO (fun x : List UInt8 × UInt8 => x.1.length + 1 ≤ 140737488355328) (fun x => ([.c (.p 0 0 0), .c (.v (.int .u8 x.2.toNat))], [bdO x.1])) (fun x => (.c (.v .nilIface), [bdO (x.1 ++ [x.2])]))
noncomputable def oWS := famO (fun x : List UInt8 × ByteArray => x.1.length + x.2.size ≤ 140737488355328) (fun x => ([.c (.p 0 0 0), .c (.v (.string x.2))], [bdO x.1])) (fun x => (.t [.c (.v (.int .i64 x.2.size)), .c (.v .nilIface)], [bdO (x.1 ++ x.2.data.toList)]))

theorem meets32 : Meets Try.prog 32 (detS oWB) :=
  bd_meets (rest := fun x : List UInt8 × UInt8 => [.int .u8 x.2.toNat]) (res := fun _ => .nilIface) (fun x _ w S => .v trivial) fun x hx w b p v fp h hl => wb_raw h x.2 hx hl

theorem meets34 : Meets Try.prog 34 (detS oWS) :=
  bd_meets (rest := fun x : List UInt8 × ByteArray => [.string x.2]) (res := fun x => .tuple #[.int .i64 x.2.size, .nilIface]) (fun x hx w S => ⟨_, [[], []], rfl, rfl, rfl, rfl, fun i d f h1 h2 => by
    match i with
    | 0 =>
      cases h1; cases h2
      refine .v ?_
      show (decide (-9223372036854775808 ≤ (x.2.size : Int)) && decide ((x.2.size : Int) ≤ 9223372036854775807)) = true
      rw [Bool.and_eq_true, decide_eq_true_eq, decide_eq_true_eq]
      have : x.1.length + x.2.size ≤ 140737488355328 := hx
      omega
    | 1 => cases h1; cases h2; exact .v trivial
    | n + 2 => cases h1⟩) fun x hx w b p v fp h hl => ws_raw h x.2 hx hl

theorem wb_at (bs : List UInt8) (x : UInt8) (h : bs.length + 1 ≤ 140737488355328) : oWB [.c (.p 0 0 0), .c (.v (.int .u8 x.toNat))] [⟨2, [[.b 69, .u 5 bs]]⟩] = some (.c (.v .nilIface), [⟨2, [[.b 69, .u 5 (bs ++ [x])]]⟩]) :=
  famO_at (by
    rintro ⟨a, b⟩ ⟨c, d⟩ h
    simp only [bdO, Prod.mk.injEq, List.cons.injEq, D.c.injEq, C.v.injEq, Value.int.injEq, Obj.mk.injEq, C.u.injEq, true_and, and_true] at h
    obtain ⟨h1, rfl⟩ := h
    have : b = d := by apply UInt8.toNat_inj.1; omega
    subst this; rfl) (bs, x) h rfl
theorem ws_at (bs : List UInt8) (s : ByteArray) (h : bs.length + s.size ≤ 140737488355328) : oWS [.c (.p 0 0 0), .c (.v (.string s))] [⟨2, [[.b 69, .u 5 bs]]⟩] = some (.t [.c (.v (.int .i64 s.size)), .c (.v .nilIface)], [⟨2, [[.b 69, .u 5 (bs ++ s.data.toList)]]⟩]) :=
  famO_at (by
    rintro ⟨a, b⟩ ⟨c, d⟩ h
    simp only [bdO, Prod.mk.injEq, List.cons.injEq, D.c.injEq, C.v.injEq, Value.string.injEq, Obj.mk.injEq, C.u.injEq, true_and, and_true] at h
    obtain ⟨rfl, rfl⟩ := h
    rfl) (bs, s) h rfl

/-- A builder whose bytes a text shares. -/
def bdS (bs : List UInt8) : Obj := ⟨2, [[.b 69, .s false 1 (bs.map byteRow)]]⟩
noncomputable def oStr := famO (fun x : List UInt8 => x.length ≤ 9223372036854775807) (fun x => ([.c (.p 0 0 0)], [bdO x])) (fun x => (.c (.v (.string ⟨x.toArray⟩)), [bdS x]))

theorem meets35 : Meets Try.prog 35 (detS oStr) := by
  rintro args objs Q ⟨d, os, hd, hQ⟩ w S vs pls fps hlen hargs hobjs hnd hfs hS
  obtain ⟨bs, h1, h2, h3⟩ := famO_inv hd
  cases h2
  cases h3
  obtain ⟨b, m, p, v, fp, rfl, rfl, hptr, hm2, hm1, hbd⟩ := bd_open hobjs hnd (hargs 0 _ rfl)
  have hvs : vs = #[.pointer (some ⟨b, 0, none⟩)] := by
    have hvl : vs.size = 1 := by simpa using hlen.symm
    apply Array.ext_getElem?
    intro i
    cases i with
    | zero =>
      rw [Array.getElem?_eq_getElem (by omega)]
      have : vs.getD 0 undef = vs[0] := by simp [Array.getD, hvl]
      rw [← this, hptr]; rfl
    | succ i => rw [Array.getElem?_eq_none (by omega), Array.getElem?_eq_none (by simp)]
  subst hvs
  have hb0 := hbd.blk
  have hout := hbd.out
  have hpp := hbd.ptr
  have hulen := u_lt hbd.rep
  refine (str_raw hbd).mono ?_
  rintro e w' ⟨rfl, hl⟩
  have hb' : w'.heap[b]? = some (.cells #[p, v] 69 (0, 0)) := by rw [hl.keep b (lt_of_heap hb0) hout]; exact hb0
  refine ⟨_, _, _, rfl, hQ, rfl, { size := hl.size, keep := fun k hk hkf => hl.keep k hk (fun h => hkf (by simp [h])), os := hl.os, tape := hl.tape, output := hl.out, rest := ⟨fun k => S k ∨ k ∈ fp, [⟨some (b, 0), 2, 1, m⟩], [[b]], [], fun _ h => .inl h, fun k hk => ?_, .v h1, ⟨rfl, rfl, ?_⟩, by simp, ?_, ?_⟩ }⟩
  · rcases hk with hk | hk
    · exact ⟨Nat.lt_of_lt_of_le (hS k hk) hl.size, .inl hk⟩
    · exact ⟨Nat.lt_of_lt_of_le (hulen k hk) hl.size, .inr (.inl (by simp [hk]))⟩
  · intro i ob hob
    cases i with
    | succ i => cases hob
    | zero =>
      cases hob
      refine ⟨_, _, rfl, rfl, rfl, rfl, hm1, by simp [bdS], [], rfl, ⟨_, _, _, hb', (by show 0 + m * 2 ≤ 2; omega), fun o ho => by simp [World.frozen?, hb']⟩, ?_⟩
      have h0 : Rep w' (fun k => S k ∨ k ∈ fp) [] (.l true [] b 2) [] := .lnil
      have h1 : Rep w' (fun k => S k ∨ k ∈ fp) [] (.l true [.s false 1 (bs.map byteRow)] b 1) ([] ++ []) := .lcons (by simp [World.cell?, hb']) (hl.rep _ fun k hk => .inr hk) h0
      exact Rep.lb hb' rfl rfl hpp h1
  · intro k hk
    simp only [List.flatten_cons, List.flatten_nil, Z15, Z12, List.mem_singleton] at hk ⊢
    subst hk
    refine ⟨?_, Nat.lt_of_lt_of_le (hfs k (by simp)).2 hl.size, .inl (by simp)⟩
    rintro (h | h)
    · exact (hfs k (by simp)).1 h
    · exact hout h
  · intro i p p' hp hp'
    rw [hp] at hp'; cases hp'; exact p.le_refl

theorem str_at (bs : List UInt8) (h : bs.length ≤ 9223372036854775807) : oStr [.c (.p 0 0 0)] [⟨2, [[.b 69, .u 5 bs]]⟩] = some (.c (.v (.string ⟨bs.toArray⟩)), [⟨2, [[.b 69, .s false 1 (bs.map byteRow)]]⟩]) :=
  famO_at (by
    rintro a c h
    simp only [bdO, Prod.mk.injEq, List.cons.injEq, Obj.mk.injEq, C.u.injEq, true_and, and_true] at h
    subst h; rfl) bs h rfl

end Go.Dl

namespace Go.Dl
open Go.RowKit
open Go.Proofs
set_option linter.unusedSimpArgs false
set_option linter.unusedVariables false

def isPlain (c : Int) : Bool := decide (32 ≤ c) && decide (c < 127) && !decide (c = 34) && !decide (c = 92)

theorem meets33 : Meets Try.prog 33 (pureS (pU8 isPlain)) := by
  refine meets_of_tri (show Try.prog.funcs[33]? = some Try.f33 by kernel_rfl) rfl (n := 17) rfl (rs := [ResultVar.tmp 2]) rfl ?_
  rintro args objs Q ⟨rfl, d, hd, hQ⟩
  unfold pU8 at hd
  split at hd
  · rename_i c
    cases hd
    refine seq_run ok0 rfl (by repeat (first | with_reducible exact runf_nil | refine runf_cons (by simp only [xstep, stepf, stepx, qev, St.ev, St.put, constD, constC, Z5, Z6, List.replicate, Z9, Z10, Z23, Z12, Z13, Z4, Nat.reduceSub, Z3, Z14]; rfl) ?_)) ?_
    by_cases a0 : (32 ≤ c)
    ·
      by_cases a1 : (c < 127)
      ·
        by_cases a2 : (c = 34)
        ·
          refine seq_run ok0 rfl (by repeat (first | with_reducible exact runf_nil | refine runf_cons (by simp only [xstep, stepf, stepx, qev, St.ev, St.put, qpick, qint, qshift, isEq, qeq, isShift, qbin, constD, constC, Z1, Z2, Z5, Z6, Z8, Z4, Z11, if_true, if_false, decide_true, Bool.not_true, cond_true, cond_false, Z22, Z3, Z7, eq_true a0, eq_true a1, eq_true a2]; rfl) ?_)) ?_
          refine tri_ret (ends_ret (by simp only [outRes, resDs, resD, outD, outC, C.dat, Z1, Z2, Z4, if_true, Z3]; rfl) rfl (by simp) (by simp) ?_)
          (simp only [decide_true, Bool.and_true, Bool.false_and, Bool.and_false, Bool.not_true, isPlain, eq_true a0, eq_true a1, eq_true a2] at hQ; exact hQ)
        ·
          refine seq_run ok0 rfl (by repeat (first | with_reducible exact runf_nil | refine runf_cons (by simp only [xstep, stepf, stepx, qev, St.ev, St.put, qpick, qint, qshift, isShift, qbin, constD, constC, Z1, Z2, Z5, Z6, Z8, Z4, Z11, if_true, if_false, decide_true, decide_false, Bool.not_false, cond_true, Z22, Z3, Z7, eq_true a0, eq_true a1, eq_false a2]; rfl) ?_)) ?_
          refine tri_ret (ends_ret (by simp only [outRes, resDs, resD, outD, outC, C.dat, Z1, Z2, Z4, if_true, Z3]; rfl) rfl (by simp) (by simp) ?_)
          (simp only [decide_true, decide_false, Bool.and_true, Bool.true_and, Bool.not_false, isPlain, eq_true a0, eq_true a1, eq_false a2] at hQ; exact hQ)
      ·
        refine seq_run ok0 rfl (by repeat (first | with_reducible exact runf_nil | refine runf_cons (by simp only [xstep, stepf, stepx, qev, St.ev, St.put, qpick, qint, qshift, isEq, qeq, isShift, qbin, constD, constC, Z1, Z2, Z5, Z6, Z8, Z4, Z11, if_true, if_false, decide_true, decide_false, cond_true, cond_false, Z22, Z3, Z7, eq_true a0, eq_false a1]; rfl) ?_)) ?_
        refine tri_ret (ends_ret (by simp only [outRes, resDs, resD, outD, outC, C.dat, Z1, Z2, Z4, if_true, Z3]; rfl) rfl (by simp) (by simp) ?_)
        (simp only [decide_true, decide_false, Bool.false_and, Bool.and_false, isPlain, eq_true a0, eq_false a1] at hQ; exact hQ)
    ·
      refine seq_run ok0 rfl (by repeat (first | with_reducible exact runf_nil | refine runf_cons (by simp only [xstep, stepf, stepx, qev, St.ev, St.put, qpick, qint, qshift, isEq, qeq, isShift, qbin, constD, constC, Z1, Z2, Z5, Z6, Z8, Z4, Z11, if_true, if_false, decide_false, cond_false, Z22, Z3, Z7, eq_false a0]; rfl) ?_)) ?_
      refine tri_ret (ends_ret (by simp only [outRes, resDs, resD, outD, outC, C.dat, Z1, Z2, Z4, if_true, Z3]; rfl) rfl (by simp) (by simp) ?_)
      (simp only [decide_false, Bool.false_and, isPlain, eq_false a0] at hQ; exact hQ)
  · cases hd

def hexT : ByteArray := ⟨#[48, 49, 50, 51, 52, 53, 54, 55, 56, 57, 97, 98, 99, 100, 101, 102]⟩
def escV (a b : Int) : Int := IntKind.u8.wrap (IntKind.i64.wrap ((BitVec.ofInt IntKind.i64.bits (IntKind.i64.wrap (a * 2 ^ min 4 IntKind.i64.bits)) ||| BitVec.ofInt IntKind.i64.bits b).toNat))
def escF (s : ByteArray) : Int × Bool := if (s.size : Int) < 2 then (0, false)
  else (escV (idxB hexT (s.data.toList.getD 0 0).toNat) (idxB hexT (s.data.toList.getD 1 0).toNat), decide (0 ≤ idxB hexT (s.data.toList.getD 0 0).toNat) && decide (0 ≤ idxB hexT (s.data.toList.getD 1 0).toNat))
noncomputable def pEsc : List D → Option D := famP (fun s : ByteArray => s.size ≤ 1000000) (fun s => [.c (.v (.string s))]) (fun s => .t [.c (.v (.int .u8 (escF s).1)), dB (escF s).2])

theorem idx_at (s : ByteArray) (c : Int) (h : s.size ≤ 1000000) : pIdxB [.c (.v (.string s)), .c (.v (.int .u8 c))] = some (dI (idxB s c)) := if_pos h
theorem meets72 : Meets Try.prog 72 (pureS pEsc) := by
  refine meets_famP (show Try.prog.funcs[72]? = some Try.f72 by kernel_rfl) rfl (n := 26) rfl (rs := [ResultVar.tmp 2, ResultVar.tmp 3]) rfl ?_
  rintro s hs Q hQ
  have hx : ∀ c, pIdxB [.c (.v (.string ⟨#[48, 49, 50, 51, 52, 53, 54, 55, 56, 57, 97, 98, 99, 100, 101, 102]⟩)), .c (.v (.int .u8 c))] = some (dI (idxB hexT c)) := fun c => idx_at _ c (by decide)
  refine seq_run okL5 rfl (by repeat (first | with_reducible exact runf_nil | refine runf_cons (by simp only [xstep, stepf, stepx, qev, St.ev, St.put, constD, constC, Z5, Z6, List.replicate, Z9, Z10, Z23, Z12, Z4, Nat.reduceSub, Z3, Z14]; rfl) ?_)) ?_
  refine seq_in ?_
  refine seq_run okL5 rfl (by repeat (first | with_reducible exact runf_nil | refine runf_cons (by simp only [xstep, stepf, stepx, qev, St.ev, St.put, qint, qshift, isShift, qbin, qlen, qbuiltin, constD, constC, Z1, Z2, Z5, Z6, Z8, Z4, Z11, if_true, if_false, Z3, Z7, tk9]; rfl) ?_)) ?_
  refine tri_cond rfl (fun a0 => ?_) (fun a0 => ?_)
  ·
    simp only [decide_eq_true_eq] at a0
    refine seq_run okL5 rfl (by repeat (first | with_reducible exact runf_nil | refine runf_cons (by simp only [xstep, stepf, stepx, qev, St.ev, St.put, constD, constC, Z5, Z6, Z4, decide_true, Z3, a0]; rfl) ?_)) ?_
    refine tri_ret (ends_ret (by simp only [outRes, resDs, resD, outDs, outD, outC, C.dat, Z1, Z2, Z4, if_true, Z3]; rfl) rfl (by simp) (by simp) ?_)
    (simp only [reduceIte, ↓reduceIte, escF, a0] at hQ; exact hQ)
  ·
    simp only [decide_eq_false_iff_not] at a0
    refine then_skip ?_
    refine seq_anyE mixed okL5 rfl (by kernel_rfl) ?_
    refine ⟨_, (by repeat (first | with_reducible exact runf_nil | refine runf_cons (by simp only [xstep, stepf, stepx, evsA, qev, St.ev, St.put, St.with, D.int, C.cpy, qindex, C.cp, C.dat, constD, constC, Z1, Z2, Z5, Z6, Z15, Z13, Z8, Z4, Nat.reduceEqDiff, if_true, if_false, and_self, decide_false, Z3, Int.reduceLE, Int.reduceToNat, Z26, Bool.or_true, callP, argDs, argD, argC, D.ni, D.ni1, C.ni, settle, settle1, settleC, Z25, dI, FsL5, hx, tk9, a0, show (0 < (↑s.size : Int)) = True from eq_true (by omega), show (1 < (↑s.size : Int)) = True from eq_true (by omega)]; rfl) ?_)), ?_⟩
    by_cases a1 : (0 ≤ idxB hexT (↑(s.data.toList.getD 0 0).toNat : Int))
    ·
      refine seq_run okL5 rfl (by repeat (first | with_reducible exact runf_nil | refine runf_cons (by simp only [xstep, stepf, stepx, qev, St.ev, St.put, qpick, qint, qshift, isShift, qbin, qconv, constD, constC, Z1, Z2, Z5, Z6, Z8, Z4, Z11, if_true, if_false, decide_true, cond_true, Z22, Z3, reduceCtorEq, Int.reduceLT, Int.reduceToNat, Z7, tk5, tk3, eq_true a1]; rfl) ?_)) ?_
      refine tri_ret (ends_ret (by simp only [outRes, resDs, resD, outDs, outD, outC, C.dat, Z1, Z2, Z4, if_true, Z3]; rfl) rfl (by simp) (by simp) ?_)
      (simp only [decide_true, Bool.true_and, reduceIte, ↓reduceIte, escF, escV, a0, eq_true a1] at hQ; exact hQ)
    ·
      refine seq_run okL5 rfl (by repeat (first | with_reducible exact runf_nil | refine runf_cons (by simp only [xstep, stepf, stepx, qev, St.ev, St.put, qpick, qint, qshift, isEq, isShift, qbin, qconv, constD, constC, Z1, Z2, Z5, Z6, Z8, Z4, Z11, if_true, if_false, decide_false, cond_false, Z22, Z3, reduceCtorEq, Int.reduceLT, Int.reduceToNat, Z7, tk5, tk3, eq_false a1]; rfl) ?_)) ?_
      refine tri_ret (ends_ret (by simp only [outRes, resDs, resD, outDs, outD, outC, C.dat, Z1, Z2, Z4, if_true, Z3]; rfl) rfl (by simp) (by simp) ?_)
      (simp only [decide_false, Bool.false_and, reduceIte, ↓reduceIte, escF, escV, a0, eq_false a1] at hQ; exact hQ)
end Go.Dl

namespace Go.Dl
open Go.RowKit
open Go.Proofs
set_option linter.unusedSimpArgs false
set_option linter.unusedVariables false

def byU (s : ByteArray) (p : Nat) : UInt8 := s.data.toList.getD p 0
def escB (s : ByteArray) : UInt8 := UInt8.ofNat (escF s).1.toNat
/-- A quote's text from a place on; is it whole? where it ends. -/
def quoteN : Nat → ByteArray → Nat → List UInt8 → ByteArray × Bool × Nat
  | 0, _, p, _ => (noText, false, p)
  | n + 1, s, p, acc =>
    if (p : Int) < (s.size : Int) then
      if ((byU s p).toNat : Int) = 34 then (⟨acc.toArray⟩, true, p + 1)
      else if ((byU s p).toNat : Int) = 92 then
        if (s.size : Int) ≤ ((p + 1 : Nat) : Int) then (noText, false, p)
        else if ((byU s (p + 1)).toNat : Int) = 120 then
          if (escF (s.extract (p + 2) s.size)).2 = true then
            if isPlain (escB (s.extract (p + 2) s.size)).toNat = true then (noText, false, p) else quoteN n s (p + 4) (acc ++ [escB (s.extract (p + 2) s.size)])
          else (noText, false, p)
        else (noText, false, p)
      else if isPlain (byU s p).toNat = true then quoteN n s (p + 1) (acc ++ [byU s p]) else (noText, false, p)
    else (noText, false, p)
def quoteF (s : ByteArray) (p : Nat) : ByteArray × Bool × Nat := quoteN (s.size + 1) s (p + 1) []

noncomputable def oQuote := famO (fun x : ByteArray × Nat => x.1.size ≤ 1000000 ∧ x.2 < x.1.size) (fun x => ([.c (.p 0 0 0)], [lxObj x.1 x.2]))
  (fun x => (.t [.c (.v (.string (quoteF x.1 x.2).1)), dB (quoteF x.1 x.2).2.1], [lxObj x.1 (quoteF x.1 x.2).2.2]))

theorem escF_u8 (s : ByteArray) : (escF s).1 = ((escB s).toNat : Int) := by
  have h : 0 ≤ (escF s).1 ∧ (escF s).1 ≤ 255 := by
    unfold escF
    split
    · simp
    · have := wrap_inR .u8 (IntKind.i64.wrap ((BitVec.ofInt IntKind.i64.bits (IntKind.i64.wrap (idxB hexT (s.data.toList.getD 0 0).toNat * 2 ^ min 4 IntKind.i64.bits)) ||| BitVec.ofInt IntKind.i64.bits (idxB hexT (s.data.toList.getD 1 0).toNat)).toNat))
      simp only [inR, Bool.and_eq_true, decide_eq_true_eq] at this
      exact this
  unfold escB
  rw [UInt8.toNat_ofNat']
  omega

theorem esc_at (s : ByteArray) (h : s.size ≤ 1000000) : pEsc [.c (.v (.string s))] = some (.t [.c (.v (.int .u8 (escF s).1)), dB (escF s).2]) :=
  famP_at (by
    intro a b h
    simp only [List.cons.injEq, D.c.injEq, C.v.injEq, Value.string.injEq, and_true] at h
    subst h; rfl) s h rfl
theorem plain_at (c : Int) : pU8 isPlain [.c (.v (.int .u8 c))] = some (dB (isPlain c)) := rfl

noncomputable def FsM1 : Fs := { pure := fun k => if k = 33 then some (pU8 isPlain) else if k = 72 then some pEsc else none, objs := fun k => if k = 32 then some oWB else if k = 35 then some oStr else none }
theorem okM1 : FsOK Try.prog FsM1 := by
  refine ⟨fun k f h => ?_, fun k f h => ?_⟩
  · simp only [FsM1] at h
    split at h
    · rename_i hk; subst hk; cases h; exact ⟨by kernel_rfl, meets33⟩
    split at h
    · rename_i hk; subst hk; cases h; exact ⟨by kernel_rfl, meets72⟩
    · cases h
  · simp only [FsM1] at h
    split at h
    · rename_i hk; subst hk; cases h; exact ⟨by kernel_rfl, meets32⟩
    split at h
    · rename_i hk; subst hk; cases h; exact ⟨by kernel_rfl, meets35⟩
    · cases h

theorem meets57 : Meets Try.prog 57 (detS oQuote) := by
  refine meets_famO (show Try.prog.funcs[57]? = some Try.f57 by kernel_rfl) rfl (n := 114) rfl (rs := [ResultVar.tmp 2, ResultVar.tmp 3]) rfl ?_
  intro x hx Q hQ
  obtain ⟨s, p⟩ := x
  obtain ⟨hs, hp⟩ := hx
  dsimp only at hs hp hQ
  simp only [lxObj] at hQ
  have hsm : s.size ≤ maxStr := by unfold maxStr; omega
  refine seq_run ok0 rfl (by repeat (first | with_reducible exact runf_nil | refine runf_cons (by simp only [xstep, stepf, stepx, qev, St.ev, St.put, constD, constC, Z5, Z6, List.replicate, Z9, Z10, Z23, Z12, Z13, Z24, Z4, Nat.reduceSub, Z3, Z14, lxObj]; rfl) ?_)) ?_
  refine seq_runR ?_
  refine rr_bld 5 rfl rfl Try.zeroValue69 (rr_nil ?_)
  refine seq_in ?_
  refine seq_run ok0 rfl (by repeat (first | with_reducible exact runf_nil | refine runf_cons (by simp only [xstep, stepf, stepx, qev, St.ev, St.put, St.with, D.cells, qload, cellsAt, qmk, C.cpy, TK.agg, qnil, qfieldAddr, qint, qshift, isShift, qbin, liveR, C.st, C.cp, C.dat, storeA, putCells, constD, constC, Z1, Z2, Z5, Z6, Z9, Z10, Z23, Z12, Z15, Z13, Z24, Z16, Z18, Z17, Z20, Z19, Z21, Z8, Z4, Z11, Nat.reduceAdd, if_true, if_false, and_self, Z3, ne_eq, not_false_eq_true, reduceCtorEq, Nat.le_refl, Z7, implies_true, Z14, Z26, tk3, tsz3, tk61, wrap_succ p s.size hp hsm]; rfl) ?_)) ?_
  refine tri_block ?_
  refine tri_loop_le (fun n A => ∃ (f p : Nat) (acc : List UInt8), p ≤ s.size ∧ acc.length ≤ p ∧ n = s.size - p ∧ n < f ∧
      Q (.t [.c (.v (.string (quoteN f s p acc).1)), dB (quoteN f s p acc).2.1]) [⟨2, [[.v (.string s), .v (.int .i64 (quoteN f s p acc).2.2)]]⟩] ∧
      A = ⟨[.c (.p 0 0 0), .top, .c (.v (.string ⟨#[]⟩)), dB false, .c (.p 1 0 0), .top, .top, .top, .top, .top, .top, .top, .top, .top, .top, .top, .top, .top, .top, .top, .top, .top, .top, .top, .top, .top, .top, .top, .top, .top, .top, .top, .top, .top, .top, .top, .top, .top, .top, .top, .top, .top, .top, .top, .top, .top, .top, .top, .top, .top, .top, .top, .top, .top, .top, .top, .top, .top, .top, .top, .top, .top, .top, .top, .top, .top, .top, .top, .top, .top, .top, .top, .top, .top, .top, .top, .top, .top, .top, .top, .top, .top, .top, .top, .top, .top, .top, .top, .top, .top, .top, .top, .top, .top, .top, .top, .top, .top, .top, .top, .top, .top, .top, .top, .top, .top, .top, .top, .top, .top, .top, .top, .top, .top], [some ⟨false, 2, [[.v (.string s), .v (.int .i64 p)]]⟩, some ⟨false, 2, [[.b 69, .u 5 acc]]⟩]⟩) (s.size - (p + 1))
    (B := ⟨[.c (.p 0 0 0), .top, .c (.v (.string ⟨#[]⟩)), dB false, .c (.p 1 0 0), .top, .top, .top, .top, .top, .top, .top, .top, .top, .top, .top, .top, .top, .top, .top, .top, .top, .top, .top, .top, .top, .top, .top, .top, .top, .top, .top, .top, .top, .top, .top, .top, .top, .top, .top, .top, .top, .top, .top, .top, .top, .top, .top, .top, .top, .top, .top, .top, .top, .top, .top, .top, .top, .top, .top, .top, .top, .top, .top, .top, .top, .top, .top, .top, .top, .top, .top, .top, .top, .top, .top, .top, .top, .top, .top, .top, .top, .top, .top, .top, .top, .top, .top, .top, .top, .top, .top, .top, .top, .top, .top, .top, .top, .top, .top, .top, .top, .top, .top, .top, .top, .top, .top, .top, .top, .top, .top, .top, .top], [some ⟨false, 2, [[.v (.string s), .v (.int .i64 (p + 1 : Nat))]]⟩, some ⟨false, 2, [[.b 69, .u 5 []]]⟩]⟩)
    ⟨by repeat (first | exact .nil | refine .same ?_ | refine .top ?_), rfl⟩ ⟨s.size + 1, p + 1, [], by omega, by simp, rfl, by omega, hQ, rfl⟩ ?_
  rintro n A ⟨f, p, acc, hp, hacc, rfl, hf, hQ, rfl⟩
  obtain ⟨f, rfl⟩ : ∃ f', f = f' + 1 := ⟨f - 1, by omega⟩
  have hW : ∀ x, oWB [.c (.p 0 0 0), .c (.v (.int .u8 x.toNat))] [⟨2, [[.b 69, .u 5 acc]]⟩] = some (.c (.v .nilIface), [⟨2, [[.b 69, .u 5 (acc ++ [x])]]⟩]) := fun x => wb_at acc x (by omega)
  have hS := str_at acc (by omega)
  have hE := esc_at (s.extract (p + 2) s.size) (by simp; omega)
  have hE1 := escF_u8 (s.extract (p + 2) s.size)
  have hb0 : s.data.toList.getD p 0 = byU s p := rfl
  have hb1 : s.data.toList.getD (p + 1) 0 = byU s (p + 1) := rfl
  have hL : (escF (s.extract (p + 2) s.size)).2 = true → p + 4 ≤ s.size := by
    intro h
    unfold escF at h
    split at h
    · cases h
    · rename_i h2
      simp at h2
      omega
  have hq1 : (p : Int) + 1 = ((p + 1 : Nat) : Int) := by omega
  have hq2 : (p : Int) + 2 = ((p + 2 : Nat) : Int) := by omega
  have hq4 : (p : Int) + 4 = ((p + 4 : Nat) : Int) := by omega
  refine seq_in ?_
  refine seq_anyE mixed okM1 rfl (by kernel_rfl) ?_
  refine ⟨_, (by repeat (first | with_reducible exact runf_nil | refine runf_cons (by simp only [xstep, stepf, stepx, qev, St.ev, St.put, qload, cellsAt, qmk, C.cpy, TK.agg, qnil, qfieldAddr, qint, qshift, isShift, qbin, qlen, qbuiltin, liveR, C.cp, Z1, Z2, Z5, Z6, Z9, Z10, Z13, Z24, Z16, Z18, Z17, Z20, Z19, Z21, Z8, Z4, Z11, if_true, if_false, and_self, Z3, reduceCtorEq, Z7, Nat.add_zero, Z14, Z26, dB, tk61, tsz3, tk3, tsz9, tk9]; rfl) ?_)), ?_⟩
  refine tri_cond rfl (fun a0 => ?_) (fun a0 => ?_)
  ·
    simp only [decide_eq_true_eq] at a0
    refine then_skip ?_
    refine tri_block ?_
    refine seq_anyE mixed okM1 rfl (by kernel_rfl) ?_
    refine ⟨_, (by repeat (first | with_reducible exact runf_nil | refine runf_cons (by simp only [xstep, stepf, stepx, qev, St.ev, St.put, D.int, qload, cellsAt, qmk, C.cpy, TK.agg, qnil, qfieldAddr, qindex, liveR, C.cp, Z1, Z2, Z5, Z6, Z9, Z10, Z13, Z24, Z16, Z18, Z17, Z20, Z19, Z21, Z8, Z4, if_true, if_false, and_self, decide_true, Z3, reduceCtorEq, Z7, Nat.add_zero, Z14, Z26, Int.toNat_natCast, Int.natCast_nonneg, hb0, tk61, tsz3, tk3, tsz9, tk9, a0]; rfl) ?_)), ?_⟩
    refine tri_block ?_
    refine seq_run okM1 rfl (by repeat (first | with_reducible exact runf_nil | refine runf_cons (by simp only [xstep, stepf, stepx, qev, St.ev, St.put, qint, qshift, isShift, qbin, constD, constC, Z1, Z2, Z5, Z6, Z4, Z11, if_true, if_false, Z3, Z7]; rfl) ?_)) ?_
    refine tri_cond rfl (fun a1 => ?_) (fun a1 => ?_)
    ·
      simp only [decide_eq_true_eq] at a1
      refine seq_run okM1 rfl (by repeat (first | with_reducible exact runf_nil | refine runf_cons (by simp only [xstep, stepf, stepx, qev, St.ev, St.put, D.cells, qload, cellsAt, qmk, C.cpy, TK.agg, qnil, qfieldAddr, qint, qshift, isShift, qbin, liveR, C.st, C.cp, C.dat, storeA, putCells, constD, constC, Z1, Z2, Z5, Z6, Z9, Z10, Z23, Z12, Z15, Z13, Z24, Z16, Z18, Z17, Z20, Z19, Z21, Z8, Z4, Z11, Nat.reduceAdd, if_true, if_false, and_self, decide_true, Z3, ne_eq, not_false_eq_true, reduceCtorEq, Nat.le_refl, Z7, implies_true, Z14, Z26, hq1, tk61, tsz3, tk3, a1, show IntKind.i64.wrap (↑(p + 1) : Int) = _ from wrap_i64 _ (by omega) (by omega)]; rfl) ?_)) ?_
      refine seq_run okM1 rfl (by repeat (first | with_reducible exact runf_nil | refine runf_cons (by simp only [xstep, stepf, stepx, evsA, qev, St.ev, St.put, St.with, D.cell, C.dat, constD, constC, Z1, Z2, Z5, Z6, Z9, Z10, Z12, Z15, Z13, Z16, Z18, Z8, Z4, Bool.and_true, Bool.true_and, Nat.reduceEqDiff, if_true, if_false, and_self, Z3, Z7, Z14, beq_self_eq_true, Z26, Bool.true_or, callP, callO, dedup, rootsD, rootsC, List.flatMap_cons, List.flatMap_nil, List.filterMap_cons, List.filterMap_nil, argDs, argD, argC, List.contains_nil, objsAt, objOf, List.idxOf?, List.findIdx?, List.findIdx?.go, setObjs, D.ni, D.ni1, C.ni, settle, settle1, settleC, Z25, FsM1, hS]; rfl) ?_)) ?_
      refine tri_ret (ends_ret (by simp only [outRes, resDs, resD, outDs, outD, outC, C.dat, Z1, Z2, Z4, if_true, Z3]; rfl) rfl (by simp) (by simp) ?_)
      simp only [Z12]
      (simp only [reduceIte, ↓reduceIte, quoteN, dB, a0, a1] at hQ; with_reducible exact hQ)
    ·
      simp only [decide_eq_false_iff_not] at a1
      refine seq_run okM1 rfl (by repeat (first | with_reducible exact runf_nil | refine runf_cons (by simp only [xstep, stepf, stepx, qev, St.ev, St.put, qint, qshift, isShift, qbin, constD, constC, Z1, Z2, Z5, Z6, Z4, Z11, if_true, if_false, decide_false, Z3, Z7, a1]; rfl) ?_)) ?_
      refine tri_cond rfl (fun a2 => ?_) (fun a2 => ?_)
      ·
        simp only [decide_eq_true_eq] at a2
        refine seq_in ?_
        refine seq_anyE mixed okM1 rfl (by kernel_rfl) ?_
        by_cases a3 : ((↑s.size : Int) ≤ (↑(p + 1) : Int))
        ·
          refine ⟨_, (by repeat (first | with_reducible exact runf_nil | refine runf_cons (by simp only [xstep, stepf, stepx, qev, St.ev, St.put, D.int, qload, cellsAt, qmk, C.cpy, TK.agg, qnil, qfieldAddr, qpick, qint, qshift, isEq, qeq, isShift, qbin, qlen, qbuiltin, liveR, C.cp, constD, constC, Z1, Z2, Z5, Z6, Z9, Z10, Z13, Z24, Z16, Z18, Z17, Z20, Z19, Z21, Z8, Option.bind_none, Z4, Z11, if_true, if_false, and_self, decide_true, cond_true, Z22, Z3, reduceCtorEq, Z7, Nat.add_zero, Z14, Z26, hq1, tk61, tsz3, tk3, tsz9, tk9, a2, show IntKind.i64.wrap (↑(p + 1) : Int) = _ from wrap_i64 _ (by omega) (by omega), eq_true a3]; rfl) ?_)), ?_⟩
          refine tri_cond (b := true) rfl (fun _ => ?_) (fun h => by cases h)
          refine seq_run okM1 rfl (by repeat (first | with_reducible exact runf_nil | refine runf_cons (by simp only [xstep, stepf, stepx, qev, St.ev, St.put, constD, constC, Z5, Z6, Z4, Z3]; rfl) ?_)) ?_
          refine tri_ret (ends_ret (by simp only [outRes, resDs, resD, outDs, outD, outC, C.dat, Z1, Z2, Z4, if_true, Z3]; rfl) rfl (by simp) (by simp) ?_)
          simp only [Z12]
          (simp only [reduceIte, ↓reduceIte, Int.reduceEq, quoteN, noText, dB, a0, a2, eq_true a3] at hQ; with_reducible exact hQ)
        ·
          refine ⟨_, (by repeat (first | with_reducible exact runf_nil | refine runf_cons (by simp only [xstep, stepf, stepx, qev, St.ev, St.put, D.int, qload, cellsAt, qmk, C.cpy, TK.agg, qnil, qfieldAddr, qindex, qpick, qint, qshift, isShift, qbin, qlen, qbuiltin, liveR, C.cp, constD, constC, Z1, Z2, Z5, Z6, Z9, Z10, Z13, Z24, Z16, Z18, Z17, Z20, Z19, Z21, Z8, Z4, Z11, if_true, if_false, and_self, decide_true, decide_false, cond_false, Z22, Z3, reduceCtorEq, Z7, Nat.add_zero, Z14, Z26, Int.toNat_natCast, Int.natCast_nonneg, hb1, hq1, tk61, tsz3, tk3, tsz9, tk9, a2, show IntKind.i64.wrap (↑(p + 1) : Int) = _ from wrap_i64 _ (by omega) (by omega), eq_false a3, show ((↑(p + 1) : Int) < (↑s.size : Int)) = True from eq_true (by omega)]; rfl) ?_)), ?_⟩
          refine tri_cond rfl (fun a4 => ?_) (fun a4 => ?_)
          ·
            simp only [decide_eq_false_iff_not, Bool.not_eq_true'] at a4
            refine seq_run okM1 rfl (by repeat (first | with_reducible exact runf_nil | refine runf_cons (by simp only [xstep, stepf, stepx, qev, St.ev, St.put, constD, constC, Z5, Z6, Z4, decide_false, Bool.not_false, Z3, a4]; rfl) ?_)) ?_
            refine tri_ret (ends_ret (by simp only [outRes, resDs, resD, outDs, outD, outC, C.dat, Z1, Z2, Z4, if_true, Z3]; rfl) rfl (by simp) (by simp) ?_)
            simp only [Z12]
            (simp only [reduceIte, ↓reduceIte, Int.reduceEq, quoteN, noText, dB, a0, a2, eq_false a3, a4] at hQ; with_reducible exact hQ)
          ·
            simp only [decide_eq_true_eq, Bool.not_eq_false'] at a4
            refine then_skip ?_
            refine seq_anyE mixed okM1 rfl (by kernel_rfl) ?_
            refine ⟨_, (by repeat (first | with_reducible exact runf_nil | refine runf_cons (by simp only [xstep, stepf, stepx, evsA, qev, St.ev, St.put, St.with, D.int, qload, cellsAt, qmk, C.cpy, TK.agg, qnil, qfieldAddr, qint, qshift, isShift, qbin, qbounds, qslice, qext, omap, liveR, C.cp, C.dat, constD, constC, Z1, Z2, Z5, Z6, Z9, Z10, Z15, Z13, Z24, Z16, Z18, Z17, Z20, Z19, Z21, Z8, Z4, Z11, Nat.reduceEqDiff, if_true, if_false, and_self, decide_true, Bool.not_true, Z3, reduceCtorEq, Z7, Nat.add_zero, Z14, Z26, Bool.or_true, callP, argDs, argD, argC, D.ni, D.ni1, C.ni, settle, settle1, settleC, settleDs, Z25, dB, Int.toNat_natCast, Int.natCast_nonneg, FsM1, hE, hE1, hq2, tk61, tsz3, tk3, tsz9, tk9, a4, show IntKind.i64.wrap (↑(p + 2) : Int) = _ from wrap_i64 _ (by omega) (by omega), show ((↑(p + 2) : Int) ≤ (↑s.size : Int)) = True from eq_true (by omega)]; rfl) ?_)), ?_⟩
            refine seq_in ?_
            by_cases a5 : (((escF (s.extract (p + 2) s.size)).snd) = true)
            ·
              refine seq_run okM1 rfl (by repeat (first | with_reducible exact runf_nil | refine runf_cons (by simp only [xstep, stepf, stepx, evsA, qev, St.ev, St.put, St.with, C.cpy, qpick, qun, C.cp, C.dat, constD, constC, Z1, Z2, Z5, Z6, Z15, Z13, Z8, Z4, Nat.reduceEqDiff, if_true, if_false, Bool.not_true, cond_false, Z22, Z3, Z26, Bool.or_true, callP, argDs, argD, argC, D.ni, D.ni1, C.ni, settle, settle1, settleC, Z25, dB, FsM1, plain_at, a5]; rfl) ?_)) ?_
              refine tri_cond rfl (fun a6 => ?_) (fun a6 => ?_)
              ·
                refine seq_run okM1 rfl (by repeat (first | with_reducible exact runf_nil | refine runf_cons (by simp only [xstep, stepf, stepx, qev, St.ev, St.put, constD, constC, Z5, Z6, Z4, Z3, a6]; rfl) ?_)) ?_
                refine tri_ret (ends_ret (by simp only [outRes, resDs, resD, outDs, outD, outC, C.dat, Z1, Z2, Z4, if_true, Z3]; rfl) rfl (by simp) (by simp) ?_)
                simp only [Z12]
                (simp only [reduceIte, ↓reduceIte, Int.reduceEq, quoteN, noText, dB, a0, a2, eq_false a3, a4, a5, a6] at hQ; with_reducible exact hQ)
              ·
                refine then_skip ?_
                refine seq_run okM1 rfl (by repeat (first | with_reducible exact runf_nil | refine runf_cons (by simp only [xstep, stepf, stepx, evsA, qev, St.ev, St.put, St.with, D.cell, C.cpy, C.cp, C.dat, Z1, Z2, Z5, Z6, Z9, Z10, Z12, Z15, Z13, Z16, Z18, Z8, Z4, Bool.and_true, Bool.true_and, Nat.reduceEqDiff, if_true, if_false, and_self, Z3, Z7, Z14, beq_self_eq_true, Z26, Bool.true_or, callP, callO, dedup, rootsD, rootsC, List.flatMap_cons, List.flatMap_nil, List.filterMap_cons, List.filterMap_nil, argDs, argD, argC, List.contains_nil, objsAt, objOf, List.idxOf?, List.findIdx?, List.findIdx?.go, setObjs, D.ni, D.ni1, C.ni, settle, settle1, settleC, Z25, FsM1, hW, a6]; rfl) ?_)) ?_
                refine run_end okM1 rfl (by repeat (first | with_reducible exact runf_nil | refine runf_cons (by simp only [xstep, stepf, stepx, qev, St.ev, St.put, D.cells, qload, cellsAt, qmk, C.cpy, TK.agg, qnil, qfieldAddr, qint, qshift, isShift, qbin, liveR, C.st, C.cp, C.dat, storeA, putCells, constD, constC, Z1, Z2, Z5, Z6, Z9, Z10, Z23, Z12, Z15, Z13, Z24, Z16, Z18, Z17, Z20, Z19, Z21, Z8, Z4, Z11, Nat.reduceAdd, if_true, if_false, and_self, Z3, ne_eq, not_false_eq_true, reduceCtorEq, Nat.le_refl, Z7, implies_true, Z14, Z26, hq4, tk61, tsz3, tk3, show IntKind.i64.wrap (↑(p + 4) : Int) = _ from wrap_i64 _ (by omega) (by omega)]; rfl) ?_)) ?_
                simp only []
                (have hL' := hL (by assumption); simp only [quoteN, dB, a0, a2, eq_false a3, a4, a5, a6, reduceIte, Z7, ↓reduceIte, Int.reduceEq] at hQ; exact ⟨s.size - (p + 4), by omega, ⟨[.c (.p 0 0 0), .top, .c (.v (.string ⟨#[]⟩)), dB false, .c (.p 1 0 0), .top, .top, .top, .top, .top, .top, .top, .top, .top, .top, .top, .top, .top, .top, .top, .top, .top, .top, .top, .top, .top, .top, .top, .top, .top, .top, .top, .top, .top, .top, .top, .top, .top, .top, .top, .top, .top, .top, .top, .top, .top, .top, .top, .top, .top, .top, .top, .top, .top, .top, .top, .top, .top, .top, .top, .top, .top, .top, .top, .top, .top, .top, .top, .top, .top, .top, .top, .top, .top, .top, .top, .top, .top, .top, .top, .top, .top, .top, .top, .top, .top, .top, .top, .top, .top, .top, .top, .top, .top, .top, .top, .top, .top, .top, .top, .top, .top, .top, .top, .top, .top, .top, .top, .top, .top, .top, .top, .top, .top], [some ⟨false, 2, [[.v (.string s), .v (.int .i64 (p + 4 : Nat))]]⟩, some ⟨false, 2, [[.b 69, .u 5 (acc ++ [escB (s.extract (p + 2) s.size)])]]⟩]⟩, ⟨by repeat (first | exact .nil | refine .same ?_ | refine .top ?_), rfl⟩, f, p + 4, acc ++ [escB (s.extract (p + 2) s.size)], by omega, by simp; omega, rfl, by omega, hQ, rfl⟩)
            ·
              refine seq_run okM1 rfl (by repeat (first | with_reducible exact runf_nil | refine runf_cons (by simp only [xstep, stepf, stepx, evsA, qev, St.ev, St.put, qpick, qun, constD, constC, Z1, Z2, Z5, Z6, Z15, Z13, Z8, Z4, Z11, Nat.reduceEqDiff, if_true, if_false, Bool.not_false, cond_true, Z22, Z3, reduceCtorEq, callP, callO, argDs, argD, FsM1, eq_false_of_ne_true a5]; rfl) ?_)) ?_
              refine tri_cond (b := true) rfl (fun _ => ?_) (fun h => by cases h)
              refine seq_run okM1 rfl (by repeat (first | with_reducible exact runf_nil | refine runf_cons (by simp only [xstep, stepf, stepx, qev, St.ev, St.put, constD, constC, Z5, Z6, Z4, Z3]; rfl) ?_)) ?_
              refine tri_ret (ends_ret (by simp only [outRes, resDs, resD, outDs, outD, outC, C.dat, Z1, Z2, Z4, if_true, Z3]; rfl) rfl (by simp) (by simp) ?_)
              simp only [Z12]
              (simp only [reduceIte, Z7, ↓reduceIte, Int.reduceEq, quoteN, noText, dB, a0, a2, eq_false a3, a4, eq_false_of_ne_true a5] at hQ; with_reducible exact hQ)
      ·
        simp only [decide_eq_false_iff_not] at a2
        refine seq_run okM1 rfl (by repeat (first | with_reducible exact runf_nil | refine runf_cons (by simp only [xstep, stepf, stepx, evsA, qev, St.ev, St.put, St.with, C.cpy, qun, C.cp, C.dat, Z1, Z2, Z5, Z6, Z15, Z13, Z8, Z4, Nat.reduceEqDiff, if_true, if_false, decide_false, Z3, Z26, Bool.or_true, callP, argDs, argD, argC, D.ni, D.ni1, C.ni, settle, settle1, settleC, Z25, dB, FsM1, plain_at, a2]; rfl) ?_)) ?_
        refine tri_cond rfl (fun a7 => ?_) (fun a7 => ?_)
        ·
          simp only [Bool.not_eq_true'] at a7
          refine seq_run okM1 rfl (by repeat (first | with_reducible exact runf_nil | refine runf_cons (by simp only [xstep, stepf, stepx, qev, St.ev, St.put, constD, constC, Z5, Z6, Z4, Bool.not_false, Z3, a7]; rfl) ?_)) ?_
          refine tri_ret (ends_ret (by simp only [outRes, resDs, resD, outDs, outD, outC, C.dat, Z1, Z2, Z4, if_true, Z3]; rfl) rfl (by simp) (by simp) ?_)
          simp only [Z12]
          (simp only [reduceIte, Z7, ↓reduceIte, quoteN, noText, dB, a0, a1, a2, a7] at hQ; with_reducible exact hQ)
        ·
          simp only [Bool.not_eq_false'] at a7
          refine seq_run okM1 rfl (by repeat (first | with_reducible exact runf_nil | refine runf_cons (by simp only [xstep, stepf, stepx, evsA, qev, St.ev, St.put, St.with, D.cell, C.cpy, C.cp, C.dat, Z1, Z2, Z5, Z6, Z9, Z10, Z12, Z15, Z13, Z16, Z18, Z8, Z4, Bool.and_true, Bool.true_and, Nat.reduceEqDiff, if_true, if_false, and_self, Bool.not_true, Z3, Z7, Z14, beq_self_eq_true, Z26, Bool.true_or, callP, callO, dedup, rootsD, rootsC, List.flatMap_cons, List.flatMap_nil, List.filterMap_cons, List.filterMap_nil, argDs, argD, argC, List.contains_nil, objsAt, objOf, List.idxOf?, List.findIdx?, List.findIdx?.go, setObjs, D.ni, D.ni1, C.ni, settle, settle1, settleC, Z25, FsM1, hW, a7]; rfl) ?_)) ?_
          refine run_end okM1 rfl (by repeat (first | with_reducible exact runf_nil | refine runf_cons (by simp only [xstep, stepf, stepx, qev, St.ev, St.put, D.cells, qload, cellsAt, qmk, C.cpy, TK.agg, qnil, qfieldAddr, qint, qshift, isShift, qbin, liveR, C.st, C.cp, C.dat, storeA, putCells, constD, constC, Z1, Z2, Z5, Z6, Z9, Z10, Z23, Z12, Z15, Z13, Z24, Z16, Z18, Z17, Z20, Z19, Z21, Z8, Z4, Z11, Nat.reduceAdd, if_true, if_false, and_self, Z3, ne_eq, not_false_eq_true, reduceCtorEq, Nat.le_refl, Z7, implies_true, Z14, Z26, hq1, tk61, tsz3, tk3, show IntKind.i64.wrap (↑(p + 1) : Int) = _ from wrap_i64 _ (by omega) (by omega)]; rfl) ?_)) ?_
          simp only []
          (simp only [quoteN, dB, a0, a1, a2, a7, reduceIte, ↓reduceIte] at hQ; exact ⟨s.size - (p + 1), by omega, ⟨[.c (.p 0 0 0), .top, .c (.v (.string ⟨#[]⟩)), dB false, .c (.p 1 0 0), .top, .top, .top, .top, .top, .top, .top, .top, .top, .top, .top, .top, .top, .top, .top, .top, .top, .top, .top, .top, .top, .top, .top, .top, .top, .top, .top, .top, .top, .top, .top, .top, .top, .top, .top, .top, .top, .top, .top, .top, .top, .top, .top, .top, .top, .top, .top, .top, .top, .top, .top, .top, .top, .top, .top, .top, .top, .top, .top, .top, .top, .top, .top, .top, .top, .top, .top, .top, .top, .top, .top, .top, .top, .top, .top, .top, .top, .top, .top, .top, .top, .top, .top, .top, .top, .top, .top, .top, .top, .top, .top, .top, .top, .top, .top, .top, .top, .top, .top, .top, .top, .top, .top, .top, .top, .top, .top, .top, .top], [some ⟨false, 2, [[.v (.string s), .v (.int .i64 (p + 1 : Nat))]]⟩, some ⟨false, 2, [[.b 69, .u 5 (acc ++ [byU s p])]]⟩]⟩, ⟨by repeat (first | exact .nil | refine .same ?_ | refine .top ?_), rfl⟩, f, p + 1, acc ++ [byU s p], by omega, by simp; omega, rfl, by omega, hQ, rfl⟩)
  ·
    simp only [decide_eq_false_iff_not] at a0
    refine tri_exit ?_
    show Tri _ _ _ _
    refine seq_run okM1 rfl (by repeat (first | with_reducible exact runf_nil | refine runf_cons (by simp only [xstep, stepf, stepx, qev, St.ev, St.put, constD, constC, Z5, Z6, Z4, decide_false, Z3, a0]; rfl) ?_)) ?_
    refine tri_ret (ends_ret (by simp only [outRes, resDs, resD, outDs, outD, outC, C.dat, Z1, Z2, Z4, if_true, Z3]; rfl) rfl (by simp) (by simp) ?_)
    simp only [Z12]
    (simp only [reduceIte, ↓reduceIte, quoteN, noText, dB, a0] at hQ; with_reducible exact hQ)
end Go.Dl
