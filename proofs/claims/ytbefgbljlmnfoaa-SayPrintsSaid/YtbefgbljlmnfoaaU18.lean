/- The walk of the law's same: are two steps one?; Plain law: a step cut to few is printed, and read again as it is; The walks of the reference's Word, names, paper; The walk of the reference's paper. -/
import Derived.Test.YtbefgbljlmnfoaaU16
import Derived.Test.YtbefgbljlmnfoaaU17
set_option linter.all false
namespace Go.Dl
open Go.RowKit
open Go.Proofs
set_option linter.unusedSimpArgs false
set_option linter.unusedVariables false
theorem ft91B : flatT Try.prog 91 = some [.str, (.int .i64), .bool, (.int .i64), (.int .u64), .str] := by kernel_rfl
theorem eqF (a0 b0 : ByteArray) (a1 b1 : Int) (a2 b2 : Bool) (a3 b3 a4 b4 : Int) (a5 b5 : ByteArray) : eqCs [.str, (.int .i64), .bool, (.int .i64), (.int .u64), .str] [.v (.string a0), .v (.int .i64 a1), .v (.bool a2), .v (.int .i64 a3), .v (.int .u64 a4), .v (.string a5)] [.v (.string b0), .v (.int .i64 b1), .v (.bool b2), .v (.int .i64 b3), .v (.int .u64 b4), .v (.string b5)] = some (decide (((a0, a1, a2, a3, a4, a5) : Fld) = (b0, b1, b2, b3, b4, b5))) := by
 simp only [eqCs, eqC, if_true, strEq_dec, Z3]
 rw [Bool.eq_iff_iff]
 simp
theorem dec_cons {α : Type} [DecidableEq α] (x y : α) (r s : List α) : decide (x :: r = y :: s) = if x = y then decide (r = s) else false := by
 by_cases h : x = y
 · rw [if_pos h, h]; simp
 · rw [if_neg h]; simp [h]
theorem if_cons {α : Type} [DecidableEq α] (x y : α) (r s : List α) (z : Bool) : (if x :: r = y :: s then z else false) = if x = y then (if r = s then z else false) else false := by
 by_cases h : x = y
 · rw [if_pos h, h]; simp
 · rw [if_neg h]; simp [h]
/-- Are two steps one? -/
def sameA (a b : ActM) : Bool :=
 if a.kind = b.kind then (if a.id = b.id then (if a.name = b.name then (if a.draw = b.draw then (if a.n = b.n then (if a.m = b.m then (if a.keep = b.keep then (if a.tear = b.tear then (if a.pid = b.pid then (if a.cls = b.cls then
 (if (((a.names.getD []).length : Nat) : Int) = (((b.names.getD []).length : Nat) : Int) then (if (((a.flds.getD []).length : Nat) : Int) = (((b.flds.getD []).length : Nat) : Int) then
 (if a.names.getD [] = b.names.getD [] then decide (a.flds.getD [] = b.flds.getD []) else false) else false) else false) else false) else false) else false) else false) else false) else false) else false) else false) else false) else false
def sameOk (x : ActM × ActM) : Prop := ((x.1.flds.getD []).length ≤ maxStr ∧ (x.1.names.getD []).length ≤ maxStr) ∧ ((x.2.flds.getD []).length ≤ maxStr ∧ (x.2.names.getD []).length ≤ maxStr)
noncomputable def pSame : List D → Option D := famP sameOk (fun x => [.agg (actC false x.1), .agg (actC false x.2)]) (fun x => dB (sameA x.1 x.2))
theorem same_at (a b : ActM) (h : sameOk (a, b)) : pSame [.agg (actC false a), .agg (actC false b)] = some (dB (sameA a b)) := Ym (fun x y h => by
 simp only [List.cons.injEq, D.agg.injEq, and_true] at h
 rw [actC_inj0 h.1, actC_inj0 h.2]) (a, b) h rfl
theorem act_gen (a : ActM) : ∃ (l : List Fld) (es : Nat) (ns : List ByteArray) (en : Nat), fldsC false a.flds = .s false es (l.map fldC) ∧ a.flds.getD [] = l ∧ (0 < l.length → es = 6) ∧ namesC false a.names = .s false en (ns.map strC) ∧ a.names.getD [] = ns ∧ (0 < ns.length → en = 1) := by
 cases hf : a.flds with
 | none =>
  cases hn : a.names with
  | none => exact ⟨[], 0, [], 0, rfl, rfl, fun h => absurd h (by simp), rfl, rfl, fun h => absurd h (by simp)⟩
  | some ns => exact ⟨[], 0, ns, 1, rfl, rfl, fun h => absurd h (by simp), rfl, rfl, fun _ => rfl⟩
 | some l =>
  cases hn : a.names with
  | none => exact ⟨l, 6, [], 0, rfl, rfl, fun _ => rfl, rfl, rfl, fun h => absurd h (by simp)⟩
  | some ns => exact ⟨l, 6, ns, 1, rfl, rfl, fun _ => rfl, rfl, rfl, fun _ => rfl⟩
set_option maxRecDepth 100000 in
set_option maxHeartbeats 4000000 in
theorem meets23 : Meets Try.prog 23 (pureS pSame) := by
 refine Yn (show Try.prog.funcs[23]? = some Try.f23 by kernel_rfl) rfl (n := 138) rfl (rs := [ResultVar.tmp 4]) rfl ?_
 rintro ⟨a, b⟩ ⟨⟨hla, hma⟩, hlb, hmb⟩ Q hQ
 have hc0 : ((0 : Nat) : Int) = 0 := rfl
 dsimp only at hla hma hlb hmb hQ
 obtain ⟨fa, ea, na, ka, hf1, hf2, hf3, hf4, hf5, hf6⟩ := act_gen a
 obtain ⟨fb, eb, nb, kb, hg1, hg2, hg3, hg4, hg5, hg6⟩ := act_gen b
 unfold sameA at hQ
 rw [hf2] at hla hQ
 rw [hg2] at hlb hQ
 rw [hf5] at hma hQ
 rw [hg5] at hmb hQ
 have hlx : fa.length ≤ 9223372036854775807 := hla
 have hmx : na.length ≤ 9223372036854775807 := hma
 simp only [actC, hf1, hf4, hg1, hg4]
 clear hf1 hf2 hf4 hf5 hg1 hg2 hg4 hg5
 obtain ⟨k1, p1, c1, fl1, i1, w1, nn1, d1, n1, m1, u1, t1⟩ := a
 obtain ⟨k2, p2, c2, fl2, i2, w2, nn2, d2, n2, m2, u2, t2⟩ := b
 dsimp only
 dsimp only at hQ
 obtain ⟨res, hres⟩ : ∃ res, (if k1 = k2 then (if i1 = i2 then (if w1 = w2 then (if d1 = d2 then (if n1 = n2 then (if m1 = m2 then (if u1 = u2 then (if t1 = t2 then (if p1 = p2 then (if c1 = c2 then
  (if ((na.length : Nat) : Int) = ((nb.length : Nat) : Int) then (if ((fa.length : Nat) : Int) = ((fb.length : Nat) : Int) then
  (if na = nb then decide (fa = fb) else false) else false) else false) else false) else false) else false) else false) else false) else false) else false) else false) else false) else false) = res := ⟨_, rfl⟩
 rw [hres] at hQ
 have hH : k1 = k2 → i1 = i2 → w1 = w2 → d1 = d2 → n1 = n2 → m1 = m2 → u1 = u2 → t1 = t2 → p1 = p2 → c1 = c2 → ((na.length : Nat) : Int) = ((nb.length : Nat) : Int) → ((fa.length : Nat) : Int) = ((fb.length : Nat) : Int) → (if na = nb then decide (fa = fb) else false) = res := by
  intro h1 h2 h3 h4 h5 h6 h7 h8 h9 h10 h11 h12
  rw [← hres, if_pos h1, if_pos h2, if_pos h3, if_pos h4, if_pos h5, if_pos h6, if_pos h7, if_pos h8, if_pos h9, if_pos h10, if_pos h11, if_pos h12]
 have hQ2 : ∀ r : Bool, r = res → Q (.c (.v (.bool r))) [] := by
  rintro r rfl
  exact hQ
 clear hQ
 simp only [List.append_eq, Z23, Z12]
 refine Y3 ok0 rfl (by repeat first | with_reducible exact Y2 | refine Y1 (by simp only [Y5, Y4, Y6, qev, St.ev, St.put, St.with, D.cells, boxA, C.st, Y8, Y7, List.replicate, Nat.reduceAdd, Nat.reduceSub, if_true, ZA]; rfl) ?_) ?_
 refine seq_in ?_
 by_cases a0 : (k1 = k2)
 ·
  by_cases a1 : (i1 = i2)
  ·
   by_cases a2 : (w1 = w2)
   ·
    by_cases a3 : (d1 = d2)
    ·
     by_cases a4 : (n1 = n2)
     ·
      by_cases a5 : (m1 = m2)
      ·
       by_cases a6 : (u1 = u2)
       ·
        by_cases a7 : (t1 = t2)
        ·
         by_cases a8 : (p1 = p2)
         ·
          by_cases a9 : (c1 = c2)
          ·
           by_cases a10 : ((↑na.length : Int) = (↑nb.length : Int))
           ·
            refine Y3 ok0 rfl (by repeat first | with_reducible exact Y2 | refine Y1 (by simp only [Y5, Y4, Y6, qev, St.ev, St.put, qload, Y9, qmk, C.cpy, TK.agg, Yb, qpick, qint, Yc, qstr, Ya, qbin, qlen, qbuiltin, liveR, C.cp, Y8, Y7, Nat.reduceAdd, if_true, if_false, decide_true, Bool.not_true, cond_false, reduceCtorEq, Nat.add_zero, strEq_dec, tk48, tsz48, tk50, tk37, tk28, tk46, List.length_map, tsz3, tk3, tsz9, eq_true a0, tk9, eq_true a1, eq_true a2, eq_true a3, eq_true a4, tsz37, eq_true a5, eq_true a6, eq_true a7, eq_true a8, tsz28, eq_true a9, show (na.length ≤ maxStr) = True from eq_true (by omega), show (nb.length ≤ maxStr) = True from eq_true (by omega), eq_true a10, tsz46, show (fa.length ≤ maxStr) = True from eq_true (by omega), show (fb.length ≤ maxStr) = True from eq_true (by omega), ZA]; rfl) ?_) ?_
            refine Yf rfl (fun a11 => ?_) (fun a11 => ?_)
            ·
             simp only [decide_eq_false_iff_not, Bool.not_eq_true'] at a11
             refine Y3 ok0 rfl (by repeat first | with_reducible exact Y2 | refine Y1 (by simp only [Y5, Y4, Y6, qev, St.ev, St.put, Y8, Y7, decide_false, Bool.not_false, a11, ZA]; rfl) ?_) ?_
             refine Yo (Yp (by simp only [outRes, Yi, resD, outD, outC, C.dat, if_true, ZA]; rfl) rfl (by simp) (by simp) ?_)
             (simp only [reduceIte, ↓reduceIte, eq_true a0, eq_true a1, eq_true a2, eq_true a3, eq_true a4, eq_true a5, eq_true a6, eq_true a7, eq_true a8, eq_true a9, eq_true a10, a11] at hres; with_reducible exact hQ2 _ hres)
            ·
             simp only [decide_eq_true_eq, Bool.not_eq_false'] at a11
             refine Ye ?_
             refine seq_in ?_
             refine Y3 ok0 rfl (by repeat first | with_reducible exact Y2 | refine Y1 (by simp only [Y5, Y4, Y6, qev, St.ev, St.put, Y8, Y7, decide_true, Bool.not_true, a11, ZA]; rfl) ?_) ?_
             refine tri_block ?_
             have hk0 := hH (by assumption) (by assumption) (by assumption) (by assumption) (by assumption) (by assumption) (by assumption) (by assumption) (by assumption) (by assumption) (by assumption) (by assumption)
             have ln : ((na.length : Nat) : Int) = ((nb.length : Nat) : Int) := by assumption
             have lf : ((fa.length : Nat) : Int) = ((fb.length : Nat) : Int) := by assumption
             clear hres hH
             obtain rfl : k1 = k2 := by assumption
             obtain rfl : i1 = i2 := by assumption
             obtain rfl : w1 = w2 := by assumption
             obtain rfl : d1 = d2 := by assumption
             obtain rfl : n1 = n2 := by assumption
             obtain rfl : m1 = m2 := by assumption
             obtain rfl : u1 = u2 := by assumption
             obtain rfl : t1 = t2 := by assumption
             obtain rfl : p1 = p2 := by assumption
             obtain rfl : c1 = c2 := by assumption
             refine tri_loop_le (fun m A => ∃ (j : Nat), m + j = na.length ∧ (if na.drop j = nb.drop j then decide (fa = fb) else false) = res ∧ A = ⟨[.o, .o, .c (.p 0 0 0), .c (.p 1 0 0), .c (.v (.bool false)), .c (.v (.int .i64 (j : Nat))), .o, .o, .o, .o, .o, .o, .o, .o, .o, .o, .o, .o, .o, .o, .o, .o, .o, .o, .o, .o, .o, .o, .o, .o, .o, .o, .o, .o, .o, .o, .o, .o, .o, .o, .o, .o, .o, .o, .o, .o, .o, .o, .o, .o, .o, .o, .o, .o, .o, .o, .o, .o, .o, .o, .o, .o, .o, .o, .o, .o, .o, .o, .o, .o, .o, .o, .o, .o, .o, .o, .o, .o, .o, .o, .o, .o, .o, .o, .o, .o, .o, .o, .o, .o, .o, .o, .o, .o, .o, .o, .o, .o, .o, .o, .o, .o, .o, .o, .o, .o, .o, .o, .o, .o, .o, .o, .o, .o, .o, .o, .o, .o, .o, .o, .o, .o, .o, .o, .o, .o, .o, .o, .o, .o, .o, .o, .o, .o, .o, .o, .o, .o], [some ⟨false, 12, [[.v (.int .i64 k1), .v (.string p1), .v (.int .i64 c1), .s false ea (fa.map fldC), .v (.string i1), .v (.string w1), .s false ka (na.map strC), .v (.string d1), .v (.int .i64 n1), .v (.int .i64 m1), .v (.int .u64 u1), .v (.int .i64 t1)]]⟩, some ⟨false, 12, [[.v (.int .i64 k1), .v (.string p1), .v (.int .i64 c1), .s false eb (fb.map fldC), .v (.string i1), .v (.string w1), .s false kb (nb.map strC), .v (.string d1), .v (.int .i64 n1), .v (.int .i64 m1), .v (.int .u64 u1), .v (.int .i64 t1)]]⟩]⟩) na.length (B := ⟨[.o, .o, .c (.p 0 0 0), .c (.p 1 0 0), .c (.v (.bool false)), .c (.v (.int .i64 (0 : Nat))), .o, .o, .o, .o, .o, .o, .o, .o, .o, .o, .o, .o, .o, .o, .o, .o, .o, .o, .o, .o, .o, .o, .o, .o, .o, .o, .o, .o, .o, .o, .o, .o, .o, .o, .o, .o, .o, .o, .o, .o, .o, .o, .o, .o, .o, .o, .o, .o, .o, .o, .o, .o, .o, .o, .o, .o, .o, .o, .o, .o, .o, .o, .o, .o, .o, .o, .o, .o, .o, .o, .o, .o, .o, .o, .o, .o, .o, .o, .o, .o, .o, .o, .o, .o, .o, .o, .o, .o, .o, .o, .o, .o, .o, .o, .o, .o, .o, .o, .o, .o, .o, .o, .o, .o, .o, .o, .o, .o, .o, .o, .o, .o, .o, .o, .o, .o, .o, .o, .o, .o, .o, .o, .o, .o, .o, .o, .o, .o, .o, .o, .o, .o], [some ⟨false, 12, [[.v (.int .i64 k1), .v (.string p1), .v (.int .i64 c1), .s false ea (fa.map fldC), .v (.string i1), .v (.string w1), .s false ka (na.map strC), .v (.string d1), .v (.int .i64 n1), .v (.int .i64 m1), .v (.int .u64 u1), .v (.int .i64 t1)]]⟩, some ⟨false, 12, [[.v (.int .i64 k1), .v (.string p1), .v (.int .i64 c1), .s false eb (fb.map fldC), .v (.string i1), .v (.string w1), .s false kb (nb.map strC), .v (.string d1), .v (.int .i64 n1), .v (.int .i64 m1), .v (.int .u64 u1), .v (.int .i64 t1)]]⟩]⟩) ⟨by repeat (first | exact .nil | refine .same ?_ | refine .o ?_), rfl⟩ ⟨0, rfl, hk0, rfl⟩ ?_
             rintro m A ⟨j, hm, hk, rfl⟩
             have hj1 : (j : Int) + 1 = ((j + 1 : Nat) : Int) := by omega
             obtain ⟨x, hx⟩ : ∃ x, na.getD j noText = x := ⟨_, rfl⟩
             obtain ⟨y, hy⟩ : ∃ y, nb.getD j noText = y := ⟨_, rfl⟩
             have hgx : ((j : Nat) : Int) < ((na.length : Nat) : Int) → na[j]? = some x := (by intro h; rw [← hx]; exact get_at _ (by omega))
             have hgy : ((j : Nat) : Int) < ((na.length : Nat) : Int) → nb[j]? = some y := (by intro h; rw [← hy]; exact get_at _ (by omega))
             have hEa : ((j : Nat) : Int) < ((na.length : Nat) : Int) → ka = 1 := fun h => hf6 (by omega)
             have hEb : ((j : Nat) : Int) < ((na.length : Nat) : Int) → kb = 1 := fun h => hg6 (by omega)
             refine seq_in ?_
             refine Y3 ok0 rfl (by repeat first | with_reducible exact Y2 | refine Y1 (by simp only [Y5, Y4, Y6, qev, St.ev, St.put, qload, Y9, qmk, C.cpy, TK.agg, Yb, qint, Yc, Ya, qbin, qlen, qbuiltin, liveR, C.cp, if_true, if_false, reduceCtorEq, tk50, tk28, List.length_map, List.length_map, tk28, tsz28, show (na.length ≤ maxStr) = True from eq_true (by omega), ZA]; rfl) ?_) ?_
             refine Yf rfl (fun a12 => ?_) (fun a12 => ?_)
             ·
              simp only [decide_eq_true_eq] at a12
              refine Ye ?_
              refine seq_in (tri_block ?_)
              refine Yj mixed ok0 rfl (by kernel_rfl) ?_
              refine ⟨_, (by repeat first | with_reducible exact Y2 | refine Y1 (by simp only [Y5, Y4, Y6, qev, St.ev, St.put, D.int, qload, Y9, qmk, C.cpy, TK.agg, Yb, qindexAddr, qstr, qbin, liveR, C.cp, if_true, if_false, decide_true, ne_eq, reduceCtorEq, strEq_dec, tk50, tk28, Int.toNat_natCast, Int.natCast_nonneg, List.length_map, hgx, hgy, hEa, hEb, List.length_map, strC, List.getElem?_map, tk28, tsz9, tk9, tsz28, a12, show ((↑j : Int) < (↑nb.length : Int)) = True from eq_true (by omega), ZA]; rfl) ?_), ?_⟩
              refine Yf rfl (fun a13 => ?_) (fun a13 => ?_)
              ·
               simp only [decide_eq_false_iff_not, Bool.not_eq_true'] at a13
               refine Y3 ok0 rfl (by repeat first | with_reducible exact Y2 | refine Y1 (by simp only [Y5, Y4, Y6, qev, St.ev, St.put, Y8, Y7, decide_false, Bool.not_false, a13, ZA]; rfl) ?_) ?_
               refine Yo (Yp (by simp only [outRes, Yi, resD, outD, outC, C.dat, if_true, ZA]; rfl) rfl (by simp) (by simp) ?_)
               (rw [drop_at noText (show j < na.length by omega), drop_at noText (show j < nb.length by omega), hx, hy, if_cons] at hk; simp only [reduceIte, ↓reduceIte, a13] at hk; with_reducible exact hQ2 _ hk)
              ·
               simp only [decide_eq_true_eq, Bool.not_eq_false'] at a13
               refine tri_skip ?_
               show Tri _ _ _ _
               refine Yk ok0 rfl (by repeat first | with_reducible exact Y2 | refine Y1 (by simp only [Y5, Y4, Y6, qev, St.ev, St.put, qint, Yc, Ya, qbin, Y8, Y7, if_true, if_false, decide_true, Bool.not_true, hj1, a13, show IntKind.i64.wrap (↑(j + 1) : Int) = _ from wrap_i64 _ (by omega) (by omega), ZA]; rfl) ?_) ?_
               simp only []
               (rw [drop_at noText (show j < na.length by omega), drop_at noText (show j < nb.length by omega), hx, hy, if_cons] at hk; simp only [reduceIte, ↓reduceIte, a13, eq_self] at hk; exact ⟨m - 1, by omega, ⟨[.o, .o, .c (.p 0 0 0), .c (.p 1 0 0), .c (.v (.bool false)), .c (.v (.int .i64 (j + 1 : Nat))), .o, .o, .o, .o, .o, .o, .o, .o, .o, .o, .o, .o, .o, .o, .o, .o, .o, .o, .o, .o, .o, .o, .o, .o, .o, .o, .o, .o, .o, .o, .o, .o, .o, .o, .o, .o, .o, .o, .o, .o, .o, .o, .o, .o, .o, .o, .o, .o, .o, .o, .o, .o, .o, .o, .o, .o, .o, .o, .o, .o, .o, .o, .o, .o, .o, .o, .o, .o, .o, .o, .o, .o, .o, .o, .o, .o, .o, .o, .o, .o, .o, .o, .o, .o, .o, .o, .o, .o, .o, .o, .o, .o, .o, .o, .o, .o, .o, .o, .o, .o, .o, .o, .o, .o, .o, .o, .o, .o, .o, .o, .o, .o, .o, .o, .o, .o, .o, .o, .o, .o, .o, .o, .o, .o, .o, .o, .o, .o, .o, .o, .o, .o], [some ⟨false, 12, [[.v (.int .i64 k1), .v (.string p1), .v (.int .i64 c1), .s false ea (fa.map fldC), .v (.string i1), .v (.string w1), .s false ka (na.map strC), .v (.string d1), .v (.int .i64 n1), .v (.int .i64 m1), .v (.int .u64 u1), .v (.int .i64 t1)]]⟩, some ⟨false, 12, [[.v (.int .i64 k1), .v (.string p1), .v (.int .i64 c1), .s false eb (fb.map fldC), .v (.string i1), .v (.string w1), .s false kb (nb.map strC), .v (.string d1), .v (.int .i64 n1), .v (.int .i64 m1), .v (.int .u64 u1), .v (.int .i64 t1)]]⟩]⟩, ⟨(by (try rw [hEa (by omega), hEb (by omega)]); repeat (first | exact .nil | refine .same ?_ | refine .o ?_)), (by (try rw [hEa (by omega), hEb (by omega)]); try rfl)⟩, j + 1, by omega, hk, rfl⟩)
             ·
              simp only [decide_eq_false_iff_not] at a12
              refine tri_exit ?_
              show Tri _ _ _ _
              refine seq_in ?_
              refine Y3 ok0 rfl (by repeat first | with_reducible exact Y2 | refine Y1 (by simp only [Y5, Y4, Y6, qev, St.ev, St.put, Y8, Y7, decide_false, a12, ZA]; rfl) ?_) ?_
              refine tri_block ?_
              rw [List.drop_of_length_le (by omega), List.drop_of_length_le (by omega), if_pos rfl] at hk
              refine tri_loop_le (fun m A => ∃ (j : Nat), m + j = fa.length ∧ decide (fa.drop j = fb.drop j) = res ∧ A = ⟨[.o, .o, .c (.p 0 0 0), .c (.p 1 0 0), .c (.v (.bool false)), .o, .c (.v (.int .i64 (j : Nat))), .o, .o, .o, .o, .o, .o, .o, .o, .o, .o, .o, .o, .o, .o, .o, .o, .o, .o, .o, .o, .o, .o, .o, .o, .o, .o, .o, .o, .o, .o, .o, .o, .o, .o, .o, .o, .o, .o, .o, .o, .o, .o, .o, .o, .o, .o, .o, .o, .o, .o, .o, .o, .o, .o, .o, .o, .o, .o, .o, .o, .o, .o, .o, .o, .o, .o, .o, .o, .o, .o, .o, .o, .o, .o, .o, .o, .o, .o, .o, .o, .o, .o, .o, .o, .o, .o, .o, .o, .o, .o, .o, .o, .o, .o, .o, .o, .o, .o, .o, .o, .o, .o, .o, .o, .o, .o, .o, .o, .o, .o, .o, .o, .o, .o, .o, .o, .o, .o, .o, .o, .o, .o, .o, .o, .o, .o, .o, .o, .o, .o, .o], [some ⟨false, 12, [[.v (.int .i64 k1), .v (.string p1), .v (.int .i64 c1), .s false ea (fa.map fldC), .v (.string i1), .v (.string w1), .s false ka (na.map strC), .v (.string d1), .v (.int .i64 n1), .v (.int .i64 m1), .v (.int .u64 u1), .v (.int .i64 t1)]]⟩, some ⟨false, 12, [[.v (.int .i64 k1), .v (.string p1), .v (.int .i64 c1), .s false eb (fb.map fldC), .v (.string i1), .v (.string w1), .s false kb (nb.map strC), .v (.string d1), .v (.int .i64 n1), .v (.int .i64 m1), .v (.int .u64 u1), .v (.int .i64 t1)]]⟩]⟩) fa.length (B := ⟨[.o, .o, .c (.p 0 0 0), .c (.p 1 0 0), .c (.v (.bool false)), .o, .c (.v (.int .i64 (0 : Nat))), .o, .o, .o, .o, .o, .o, .o, .o, .o, .o, .o, .o, .o, .o, .o, .o, .o, .o, .o, .o, .o, .o, .o, .o, .o, .o, .o, .o, .o, .o, .o, .o, .o, .o, .o, .o, .o, .o, .o, .o, .o, .o, .o, .o, .o, .o, .o, .o, .o, .o, .o, .o, .o, .o, .o, .o, .o, .o, .o, .o, .o, .o, .o, .o, .o, .o, .o, .o, .o, .o, .o, .o, .o, .o, .o, .o, .o, .o, .o, .o, .o, .o, .o, .o, .o, .o, .o, .o, .o, .o, .o, .o, .o, .o, .o, .o, .o, .o, .o, .o, .o, .o, .o, .o, .o, .o, .o, .o, .o, .o, .o, .o, .o, .o, .o, .o, .o, .o, .o, .o, .o, .o, .o, .o, .o, .o, .o, .o, .o, .o, .o], [some ⟨false, 12, [[.v (.int .i64 k1), .v (.string p1), .v (.int .i64 c1), .s false ea (fa.map fldC), .v (.string i1), .v (.string w1), .s false ka (na.map strC), .v (.string d1), .v (.int .i64 n1), .v (.int .i64 m1), .v (.int .u64 u1), .v (.int .i64 t1)]]⟩, some ⟨false, 12, [[.v (.int .i64 k1), .v (.string p1), .v (.int .i64 c1), .s false eb (fb.map fldC), .v (.string i1), .v (.string w1), .s false kb (nb.map strC), .v (.string d1), .v (.int .i64 n1), .v (.int .i64 m1), .v (.int .u64 u1), .v (.int .i64 t1)]]⟩]⟩) ⟨by repeat (first | exact .nil | refine .same ?_ | refine .o ?_), rfl⟩ ⟨0, rfl, hk, rfl⟩ ?_
              clear hj1 hgx hgy hEa hEb hx hy hk hm
              rintro m3 A3 ⟨j3, hm, hk, rfl⟩
              have hj1 : (j3 : Int) + 1 = ((j3 + 1 : Nat) : Int) := by omega
              obtain ⟨x3, hx⟩ : ∃ x, fa.getD j3 (noText, val0) = x := ⟨_, rfl⟩
              obtain ⟨y3, hy⟩ : ∃ y, fb.getD j3 (noText, val0) = y := ⟨_, rfl⟩
              have hgx : ((j3 : Nat) : Int) < ((fa.length : Nat) : Int) → fa[j3]? = some x3 := (by intro h; rw [← hx]; exact get_at _ (by omega))
              have hgy : ((j3 : Nat) : Int) < ((fa.length : Nat) : Int) → fb[j3]? = some y3 := (by intro h; rw [← hy]; exact get_at _ (by omega))
              have hEa : ((j3 : Nat) : Int) < ((fa.length : Nat) : Int) → ea = 6 := fun h => hf3 (by omega)
              have hEb : ((j3 : Nat) : Int) < ((fa.length : Nat) : Int) → eb = 6 := fun h => hg3 (by omega)
              obtain ⟨x0, x1, x2, x4, x5, x6⟩ := x3
              obtain ⟨y0, y1, y2, y4, y5, y6⟩ := y3
              refine seq_in ?_
              refine Y3 ok0 rfl (by repeat first | with_reducible exact Y2 | refine Y1 (by simp only [Y5, Y4, Y6, qev, St.ev, St.put, qload, Y9, qmk, C.cpy, TK.agg, Yb, qint, Yc, Ya, qbin, qlen, qbuiltin, liveR, C.cp, Nat.reduceAdd, if_true, if_false, reduceCtorEq, tk48, tsz48, tk50, tk46, List.length_map, List.length_map, tk46, List.length_map, tk46, tsz46, a11, show (fa.length ≤ maxStr) = True from eq_true (by omega), ZA]; rfl) ?_) ?_
              refine Yf rfl (fun a14 => ?_) (fun a14 => ?_)
              ·
               simp only [decide_eq_true_eq] at a14
               refine Ye ?_
               refine seq_in (tri_block ?_)
               refine Yj mixed ok0 rfl (by kernel_rfl) ?_
               refine ⟨_, (by repeat first | with_reducible exact Y2 | refine Y1 (by simp only [Y5, Y4, Y6, qev, St.ev, St.put, D.int, qload, Y9, qmk, C.cpy, TK.agg, Yb, qindexAddr, isEq, qbin, liveR, C.cp, Nat.reduceAdd, if_true, if_false, decide_true, ne_eq, reduceCtorEq, eqF, tk48, tsz48, tk50, tk91, tsz91, tk46, Int.toNat_natCast, Int.natCast_nonneg, List.length_map, List.length_map, fldC, List.getElem?_map, tk91, tsz91, tk46, ft91B, eqF, hgx, hgy, hEa, hEb, List.length_map, fldC, List.getElem?_map, tk91, tsz91, tk46, ft91B, eqF, tsz46, a11, a14, ZA]; rfl) ?_), ?_⟩
               refine Yf rfl (fun a15 => ?_) (fun a15 => ?_)
               ·
                simp only [decide_eq_false_iff_not, Bool.not_eq_true'] at a15
                refine Y3 ok0 rfl (by repeat first | with_reducible exact Y2 | refine Y1 (by simp only [Y5, Y4, Y6, qev, St.ev, St.put, Y8, Y7, decide_false, Bool.not_false, a15, ZA]; rfl) ?_) ?_
                refine Yo (Yp (by simp only [outRes, Yi, resD, outD, outC, C.dat, if_true, ZA]; rfl) rfl (by simp) (by simp) ?_)
                (rw [drop_at (noText, val0) (show j3 < fa.length by omega), drop_at (noText, val0) (show j3 < fb.length by omega), hx, hy, dec_cons] at hk; simp only [reduceIte, ↓reduceIte, a15] at hk; with_reducible exact hQ2 _ hk)
               ·
                simp only [decide_eq_true_eq, Bool.not_eq_false'] at a15
                refine tri_skip ?_
                show Tri _ _ _ _
                refine Yk ok0 rfl (by repeat first | with_reducible exact Y2 | refine Y1 (by simp only [Y5, Y4, Y6, qev, St.ev, St.put, qint, Yc, Ya, qbin, Y8, Y7, if_true, if_false, decide_true, Bool.not_true, hj1, a15, show IntKind.i64.wrap (↑(j3 + 1) : Int) = _ from wrap_i64 _ (by omega) (by omega), ZA]; rfl) ?_) ?_
                simp only []
                (rw [drop_at (noText, val0) (show j3 < fa.length by omega), drop_at (noText, val0) (show j3 < fb.length by omega), hx, hy, dec_cons] at hk; simp only [reduceIte, ↓reduceIte, a15, eq_self] at hk; exact ⟨m3 - 1, by omega, ⟨[.o, .o, .c (.p 0 0 0), .c (.p 1 0 0), .c (.v (.bool false)), .o, .c (.v (.int .i64 (j3 + 1 : Nat))), .o, .o, .o, .o, .o, .o, .o, .o, .o, .o, .o, .o, .o, .o, .o, .o, .o, .o, .o, .o, .o, .o, .o, .o, .o, .o, .o, .o, .o, .o, .o, .o, .o, .o, .o, .o, .o, .o, .o, .o, .o, .o, .o, .o, .o, .o, .o, .o, .o, .o, .o, .o, .o, .o, .o, .o, .o, .o, .o, .o, .o, .o, .o, .o, .o, .o, .o, .o, .o, .o, .o, .o, .o, .o, .o, .o, .o, .o, .o, .o, .o, .o, .o, .o, .o, .o, .o, .o, .o, .o, .o, .o, .o, .o, .o, .o, .o, .o, .o, .o, .o, .o, .o, .o, .o, .o, .o, .o, .o, .o, .o, .o, .o, .o, .o, .o, .o, .o, .o, .o, .o, .o, .o, .o, .o, .o, .o, .o, .o, .o, .o], [some ⟨false, 12, [[.v (.int .i64 k1), .v (.string p1), .v (.int .i64 c1), .s false ea (fa.map fldC), .v (.string i1), .v (.string w1), .s false ka (na.map strC), .v (.string d1), .v (.int .i64 n1), .v (.int .i64 m1), .v (.int .u64 u1), .v (.int .i64 t1)]]⟩, some ⟨false, 12, [[.v (.int .i64 k1), .v (.string p1), .v (.int .i64 c1), .s false eb (fb.map fldC), .v (.string i1), .v (.string w1), .s false kb (nb.map strC), .v (.string d1), .v (.int .i64 n1), .v (.int .i64 m1), .v (.int .u64 u1), .v (.int .i64 t1)]]⟩]⟩, ⟨(by (try rw [hEa (by omega), hEb (by omega)]); repeat (first | exact .nil | refine .same ?_ | refine .o ?_)), (by (try rw [hEa (by omega), hEb (by omega)]); try rfl)⟩, j3 + 1, by omega, hk, rfl⟩)
              ·
               simp only [decide_eq_false_iff_not] at a14
               refine tri_exit ?_
               show Tri _ _ _ _
               refine Y3 ok0 rfl (by repeat first | with_reducible exact Y2 | refine Y1 (by simp only [Y5, Y4, Y6, qev, St.ev, St.put, Y8, Y7, decide_false, a14, ZA]; rfl) ?_) ?_
               refine Yo (Yp (by simp only [outRes, Yi, resD, outD, outC, C.dat, if_true, ZA]; rfl) rfl (by simp) (by simp) ?_)
               (rw [List.drop_of_length_le (by omega), List.drop_of_length_le (by omega)] at hk; simp only [decide_true] at hk; with_reducible exact hQ2 _ hk)
           ·
            refine Y3 ok0 rfl (by repeat first | with_reducible exact Y2 | refine Y1 (by simp only [Y5, Y4, Y6, qev, St.ev, St.put, qload, Y9, qmk, C.cpy, TK.agg, Yb, qpick, qint, Yc, qstr, isEq, qeq, Ya, qbin, qlen, qbuiltin, liveR, C.cp, Y8, Y7, Option.bind_none, Nat.reduceAdd, if_true, if_false, decide_true, decide_false, Bool.not_true, Bool.not_false, cond_true, cond_false, reduceCtorEq, Nat.add_zero, strEq_dec, tk48, tsz48, tk50, tk37, tk28, List.length_map, tsz3, tk3, tsz9, eq_true a0, tk9, eq_true a1, eq_true a2, eq_true a3, eq_true a4, tsz37, eq_true a5, eq_true a6, eq_true a7, eq_true a8, tsz28, eq_true a9, show (na.length ≤ maxStr) = True from eq_true (by omega), show (nb.length ≤ maxStr) = True from eq_true (by omega), eq_false a10, ZA]; rfl) ?_) ?_
            refine Yf (b := true) rfl (fun _ => ?_) (fun h => by cases h)
            refine Y3 ok0 rfl (by repeat first | with_reducible exact Y2 | refine Y1 (by simp only [Y5, Y4, Y6, qev, St.ev, St.put, Y8, Y7, ZA]; rfl) ?_) ?_
            refine Yo (Yp (by simp only [outRes, Yi, resD, outD, outC, C.dat, if_true, ZA]; rfl) rfl (by simp) (by simp) ?_)
            (simp only [reduceIte, ↓reduceIte, eq_true a0, eq_true a1, eq_true a2, eq_true a3, eq_true a4, eq_true a5, eq_true a6, eq_true a7, eq_true a8, eq_true a9, eq_false a10] at hres; with_reducible exact hQ2 _ hres)
          ·
           refine Y3 ok0 rfl (by repeat first | with_reducible exact Y2 | refine Y1 (by simp only [Y5, Y4, Y6, qev, St.ev, St.put, qload, Y9, qmk, C.cpy, TK.agg, Yb, qpick, qint, Yc, qstr, isEq, qeq, Ya, qbin, qlen, qbuiltin, liveR, C.cp, Y8, Y7, Option.bind_none, Nat.reduceAdd, if_true, if_false, decide_true, decide_false, Bool.not_true, Bool.not_false, cond_true, cond_false, reduceCtorEq, Nat.add_zero, strEq_dec, tk48, tsz48, tk50, tk37, tsz3, tk3, tsz9, eq_true a0, tk9, eq_true a1, eq_true a2, eq_true a3, eq_true a4, tsz37, eq_true a5, eq_true a6, eq_true a7, eq_true a8, tsz28, eq_false a9, ZA]; rfl) ?_) ?_
           refine Yf (b := true) rfl (fun _ => ?_) (fun h => by cases h)
           refine Y3 ok0 rfl (by repeat first | with_reducible exact Y2 | refine Y1 (by simp only [Y5, Y4, Y6, qev, St.ev, St.put, Y8, Y7, ZA]; rfl) ?_) ?_
           refine Yo (Yp (by simp only [outRes, Yi, resD, outD, outC, C.dat, if_true, ZA]; rfl) rfl (by simp) (by simp) ?_)
           (simp only [reduceIte, ↓reduceIte, eq_true a0, eq_true a1, eq_true a2, eq_true a3, eq_true a4, eq_true a5, eq_true a6, eq_true a7, eq_true a8, eq_false a9] at hres; with_reducible exact hQ2 _ hres)
         ·
          refine Y3 ok0 rfl (by repeat first | with_reducible exact Y2 | refine Y1 (by simp only [Y5, Y4, Y6, qev, St.ev, St.put, qload, Y9, qmk, C.cpy, TK.agg, Yb, qpick, qint, Yc, qstr, isEq, qeq, Ya, qbin, qlen, qbuiltin, liveR, C.cp, Y8, Y7, Option.bind_none, if_true, if_false, decide_true, decide_false, Bool.not_true, Bool.not_false, cond_true, cond_false, reduceCtorEq, Nat.add_zero, strEq_dec, tk48, tsz48, tk50, tk37, tsz3, tk3, tsz9, eq_true a0, tk9, eq_true a1, eq_true a2, eq_true a3, eq_true a4, tsz37, eq_true a5, eq_true a6, eq_true a7, eq_false a8, ZA]; rfl) ?_) ?_
          refine Yf (b := true) rfl (fun _ => ?_) (fun h => by cases h)
          refine Y3 ok0 rfl (by repeat first | with_reducible exact Y2 | refine Y1 (by simp only [Y5, Y4, Y6, qev, St.ev, St.put, Y8, Y7, ZA]; rfl) ?_) ?_
          refine Yo (Yp (by simp only [outRes, Yi, resD, outD, outC, C.dat, if_true, ZA]; rfl) rfl (by simp) (by simp) ?_)
          (simp only [reduceIte, ↓reduceIte, eq_true a0, eq_true a1, eq_true a2, eq_true a3, eq_true a4, eq_true a5, eq_true a6, eq_true a7, eq_false a8] at hres; with_reducible exact hQ2 _ hres)
        ·
         refine Y3 ok0 rfl (by repeat first | with_reducible exact Y2 | refine Y1 (by simp only [Y5, Y4, Y6, qev, St.ev, St.put, qload, Y9, qmk, C.cpy, TK.agg, Yb, qpick, qint, Yc, qstr, isEq, qeq, Ya, qbin, qlen, qbuiltin, liveR, C.cp, Y8, Y7, Option.bind_none, if_true, if_false, decide_true, decide_false, Bool.not_true, Bool.not_false, cond_true, cond_false, reduceCtorEq, Nat.add_zero, strEq_dec, tk48, tsz48, tk50, tk37, tsz3, tk3, tsz9, eq_true a0, tk9, eq_true a1, eq_true a2, eq_true a3, eq_true a4, tsz37, eq_true a5, eq_true a6, eq_false a7, ZA]; rfl) ?_) ?_
         refine Yf (b := true) rfl (fun _ => ?_) (fun h => by cases h)
         refine Y3 ok0 rfl (by repeat first | with_reducible exact Y2 | refine Y1 (by simp only [Y5, Y4, Y6, qev, St.ev, St.put, Y8, Y7, ZA]; rfl) ?_) ?_
         refine Yo (Yp (by simp only [outRes, Yi, resD, outD, outC, C.dat, if_true, ZA]; rfl) rfl (by simp) (by simp) ?_)
         (simp only [reduceIte, ↓reduceIte, eq_true a0, eq_true a1, eq_true a2, eq_true a3, eq_true a4, eq_true a5, eq_true a6, eq_false a7] at hres; with_reducible exact hQ2 _ hres)
       ·
        refine Y3 ok0 rfl (by repeat first | with_reducible exact Y2 | refine Y1 (by simp only [Y5, Y4, Y6, qev, St.ev, St.put, qload, Y9, qmk, C.cpy, TK.agg, Yb, qpick, qint, Yc, qstr, isEq, qeq, Ya, qbin, qlen, qbuiltin, liveR, C.cp, Y8, Y7, Option.bind_none, if_true, if_false, decide_true, decide_false, Bool.not_true, Bool.not_false, cond_true, cond_false, reduceCtorEq, Nat.add_zero, strEq_dec, tk48, tsz48, tk50, tk37, tsz3, tk3, tsz9, eq_true a0, tk9, eq_true a1, eq_true a2, eq_true a3, eq_true a4, tsz37, eq_true a5, eq_false a6, ZA]; rfl) ?_) ?_
        refine Yf (b := true) rfl (fun _ => ?_) (fun h => by cases h)
        refine Y3 ok0 rfl (by repeat first | with_reducible exact Y2 | refine Y1 (by simp only [Y5, Y4, Y6, qev, St.ev, St.put, Y8, Y7, ZA]; rfl) ?_) ?_
        refine Yo (Yp (by simp only [outRes, Yi, resD, outD, outC, C.dat, if_true, ZA]; rfl) rfl (by simp) (by simp) ?_)
        (simp only [reduceIte, ↓reduceIte, eq_true a0, eq_true a1, eq_true a2, eq_true a3, eq_true a4, eq_true a5, eq_false a6] at hres; with_reducible exact hQ2 _ hres)
      ·
       refine Y3 ok0 rfl (by repeat first | with_reducible exact Y2 | refine Y1 (by simp only [Y5, Y4, Y6, qev, St.ev, St.put, qload, Y9, qmk, C.cpy, TK.agg, Yb, qpick, qint, Yc, qstr, isEq, qeq, Ya, qbin, qlen, qbuiltin, liveR, C.cp, Y8, Y7, Option.bind_none, if_true, if_false, decide_true, decide_false, Bool.not_true, Bool.not_false, cond_true, cond_false, reduceCtorEq, Nat.add_zero, strEq_dec, tk48, tsz48, tk50, tk37, tsz3, tk3, tsz9, eq_true a0, tk9, eq_true a1, eq_true a2, eq_true a3, eq_true a4, tsz37, eq_false a5, ZA]; rfl) ?_) ?_
       refine Yf (b := true) rfl (fun _ => ?_) (fun h => by cases h)
       refine Y3 ok0 rfl (by repeat first | with_reducible exact Y2 | refine Y1 (by simp only [Y5, Y4, Y6, qev, St.ev, St.put, Y8, Y7, ZA]; rfl) ?_) ?_
       refine Yo (Yp (by simp only [outRes, Yi, resD, outD, outC, C.dat, if_true, ZA]; rfl) rfl (by simp) (by simp) ?_)
       (simp only [reduceIte, ↓reduceIte, eq_true a0, eq_true a1, eq_true a2, eq_true a3, eq_true a4, eq_false a5] at hres; with_reducible exact hQ2 _ hres)
     ·
      refine Y3 ok0 rfl (by repeat first | with_reducible exact Y2 | refine Y1 (by simp only [Y5, Y4, Y6, qev, St.ev, St.put, qload, Y9, qmk, C.cpy, TK.agg, Yb, qpick, qint, Yc, qstr, isEq, qeq, Ya, qbin, qlen, qbuiltin, liveR, C.cp, Y8, Y7, Option.bind_none, if_true, if_false, decide_true, decide_false, Bool.not_true, Bool.not_false, cond_true, cond_false, reduceCtorEq, Nat.add_zero, strEq_dec, tk48, tsz48, tk50, tk37, tsz3, tk3, tsz9, eq_true a0, tk9, eq_true a1, eq_true a2, eq_true a3, eq_false a4, ZA]; rfl) ?_) ?_
      refine Yf (b := true) rfl (fun _ => ?_) (fun h => by cases h)
      refine Y3 ok0 rfl (by repeat first | with_reducible exact Y2 | refine Y1 (by simp only [Y5, Y4, Y6, qev, St.ev, St.put, Y8, Y7, ZA]; rfl) ?_) ?_
      refine Yo (Yp (by simp only [outRes, Yi, resD, outD, outC, C.dat, if_true, ZA]; rfl) rfl (by simp) (by simp) ?_)
      (simp only [reduceIte, ↓reduceIte, eq_true a0, eq_true a1, eq_true a2, eq_true a3, eq_false a4] at hres; with_reducible exact hQ2 _ hres)
    ·
     refine Y3 ok0 rfl (by repeat first | with_reducible exact Y2 | refine Y1 (by simp only [Y5, Y4, Y6, qev, St.ev, St.put, qload, Y9, qmk, C.cpy, TK.agg, Yb, qpick, qint, Yc, qstr, isEq, qeq, Ya, qbin, qlen, qbuiltin, liveR, C.cp, Y8, Y7, Option.bind_none, if_true, if_false, decide_true, decide_false, Bool.not_true, Bool.not_false, cond_true, cond_false, reduceCtorEq, Nat.add_zero, strEq_dec, tk48, tsz48, tk50, tk37, tsz3, tk3, tsz9, eq_true a0, tk9, eq_true a1, eq_true a2, eq_false a3, ZA]; rfl) ?_) ?_
     refine Yf (b := true) rfl (fun _ => ?_) (fun h => by cases h)
     refine Y3 ok0 rfl (by repeat first | with_reducible exact Y2 | refine Y1 (by simp only [Y5, Y4, Y6, qev, St.ev, St.put, Y8, Y7, ZA]; rfl) ?_) ?_
     refine Yo (Yp (by simp only [outRes, Yi, resD, outD, outC, C.dat, if_true, ZA]; rfl) rfl (by simp) (by simp) ?_)
     (simp only [reduceIte, ↓reduceIte, eq_true a0, eq_true a1, eq_true a2, eq_false a3] at hres; with_reducible exact hQ2 _ hres)
   ·
    refine Y3 ok0 rfl (by repeat first | with_reducible exact Y2 | refine Y1 (by simp only [Y5, Y4, Y6, qev, St.ev, St.put, qload, Y9, qmk, C.cpy, TK.agg, Yb, qpick, qint, Yc, qstr, isEq, qeq, Ya, qbin, qlen, qbuiltin, liveR, C.cp, Y8, Y7, Option.bind_none, if_true, if_false, decide_true, decide_false, Bool.not_true, Bool.not_false, cond_true, cond_false, reduceCtorEq, Nat.add_zero, strEq_dec, tk48, tsz48, tk50, tk37, tsz3, tk3, tsz9, eq_true a0, tk9, eq_true a1, eq_false a2, ZA]; rfl) ?_) ?_
    refine Yf (b := true) rfl (fun _ => ?_) (fun h => by cases h)
    refine Y3 ok0 rfl (by repeat first | with_reducible exact Y2 | refine Y1 (by simp only [Y5, Y4, Y6, qev, St.ev, St.put, Y8, Y7, ZA]; rfl) ?_) ?_
    refine Yo (Yp (by simp only [outRes, Yi, resD, outD, outC, C.dat, if_true, ZA]; rfl) rfl (by simp) (by simp) ?_)
    (simp only [reduceIte, ↓reduceIte, eq_true a0, eq_true a1, eq_false a2] at hres; with_reducible exact hQ2 _ hres)
  ·
   refine Y3 ok0 rfl (by repeat first | with_reducible exact Y2 | refine Y1 (by simp only [Y5, Y4, Y6, qev, St.ev, St.put, qload, Y9, qmk, C.cpy, TK.agg, Yb, qpick, qint, Yc, qstr, isEq, qeq, Ya, qbin, qlen, qbuiltin, liveR, C.cp, Y8, Y7, Option.bind_none, if_true, if_false, decide_true, decide_false, Bool.not_true, Bool.not_false, cond_true, cond_false, reduceCtorEq, Nat.add_zero, strEq_dec, tk48, tsz48, tk50, tk37, tsz3, tk3, tsz9, eq_true a0, tk9, eq_false a1, ZA]; rfl) ?_) ?_
   refine Yf (b := true) rfl (fun _ => ?_) (fun h => by cases h)
   refine Y3 ok0 rfl (by repeat first | with_reducible exact Y2 | refine Y1 (by simp only [Y5, Y4, Y6, qev, St.ev, St.put, Y8, Y7, ZA]; rfl) ?_) ?_
   refine Yo (Yp (by simp only [outRes, Yi, resD, outD, outC, C.dat, if_true, ZA]; rfl) rfl (by simp) (by simp) ?_)
   (simp only [reduceIte, ↓reduceIte, eq_true a0, eq_false a1] at hres; with_reducible exact hQ2 _ hres)
 ·
  refine Y3 ok0 rfl (by repeat first | with_reducible exact Y2 | refine Y1 (by simp only [Y5, Y4, Y6, qev, St.ev, St.put, qload, Y9, qmk, C.cpy, TK.agg, Yb, qpick, qint, Yc, isEq, qeq, Ya, qbin, qlen, qbuiltin, liveR, C.cp, Y8, Y7, Option.bind_none, if_true, if_false, decide_false, Bool.not_false, cond_true, reduceCtorEq, Nat.add_zero, tk48, tsz48, tk50, tk37, tsz3, tk3, tsz9, eq_false a0, ZA]; rfl) ?_) ?_
  refine Yf (b := true) rfl (fun _ => ?_) (fun h => by cases h)
  refine Y3 ok0 rfl (by repeat first | with_reducible exact Y2 | refine Y1 (by simp only [Y5, Y4, Y6, qev, St.ev, St.put, Y8, Y7, ZA]; rfl) ?_) ?_
  refine Yo (Yp (by simp only [outRes, Yi, resD, outD, outC, C.dat, if_true, ZA]; rfl) rfl (by simp) (by simp) ?_)
  (simp only [reduceIte, ↓reduceIte, eq_false a0] at hres; with_reducible exact hQ2 _ hres)
end Go.Dl

namespace Go.Dl
open Go.RowKit
open Go.Proofs
set_option linter.unusedVariables false
/-- What any step given is. -/
structure inOk (a : ActM) : Prop where
 few : fewOk a
 kind : inR .i64 a.kind = true
 cls : inR .i64 a.cls = true
 n : inR .i64 a.n = true
 m : inR .i64 a.m = true
 keep : inR .u64 a.keep = true
 tear : inR .i64 a.tear = true
 fld : ∀ f ∈ a.flds.getD [], inR .i64 f.2.2.2.1 = true ∧ inR .u64 f.2.2.2.2.1 = true
theorem cut3_size (s : ByteArray) : (cut3 s).size ≤ 300 := by
 unfold cut3
 split
 · rw [ByteArray.size_extract]; omega
 · omega
theorem cutA_size (s : ByteArray) : (cutA s).size ≤ 500 := by
 unfold cutA
 split
 · rw [ByteArray.size_extract]; omega
 · omega
/-- A step of few. -/
structure fewS (a : ActM) : Prop where
 pid : a.pid.size ≤ 300
 fl : (a.flds.getD []).length ≤ 30
 fld : ∀ f ∈ a.flds.getD [], f.1.size ≤ 300 ∧ f.2.2.2.2.2.size ≤ 300
 id : a.id.size ≤ 500
 name : a.name.size ≤ 500
 nm : (a.names.getD []).length ≤ 20
 nms : ∀ s ∈ a.names.getD [], s.size ≤ 500
 draw : a.draw.size ≤ 500
 say : sayOk a
theorem few_s {a : ActM} (h : inOk a) : fewS (fewA a) := by
 have hfl : ((fewA a).flds.getD []).length ≤ 30 := by
  show (fewL (a.flds.getD [])).length ≤ 30
  unfold fewL
  rw [List.length_map, List.length_take]; omega
 have hfd : ∀ f ∈ (fewA a).flds.getD [], (f.1.size ≤ 300 ∧ f.2.2.2.2.2.size ≤ 300) ∧ inR .i64 f.2.2.2.1 = true ∧ inR .u64 f.2.2.2.2.1 = true := by
  intro f hf
  obtain ⟨x, hx, rfl⟩ := List.mem_map.1 (show f ∈ ((a.flds.getD []).take 30).map fewFld from hf)
  exact ⟨⟨cut3_size _, cut3_size _⟩, h.fld x (List.mem_of_mem_take hx)⟩
 have hnm : ((fewA a).names.getD []).length ≤ 20 := by
  show (((a.names.getD []).take 20).map cutA).length ≤ 20
  rw [List.length_map, List.length_take]; omega
 have hns : ∀ s ∈ (fewA a).names.getD [], s.size ≤ 500 := by
  intro s hs
  obtain ⟨x, hx, rfl⟩ := List.mem_map.1 (show s ∈ ((a.names.getD []).take 20).map cutA from hs)
  exact cutA_size x
 have hp := cut3_size a.pid
 have hi := cutA_size a.id
 have hn := cutA_size a.name
 have hd := cutA_size a.draw
 refine ⟨hp, hfl, fun f hf => (hfd f hf).1, hi, hn, hnm, hns, hd, ⟨⟨⟨by show (cut3 a.pid).size ≤ 100000; omega, h.cls, by show ((fewA a).flds.getD []).length ≤ 200; omega, fun f hf => ?_⟩, by show (cutA a.id).size ≤ 100000; omega, by show (cutA a.name).size ≤ 100000; omega,
  ⟨by omega, fun s hs => by have := hns s hs; omega⟩, by show (cutA a.draw).size ≤ 100000; omega, h.n, h.m, h.keep, h.tear⟩, by omega, by omega⟩⟩
 have hf' := hfd f hf
 exact ⟨by omega, hf'.2.1, hf'.2.2, by omega⟩
theorem cat_le {α : Type} {sep : ByteArray} {B : α → ByteArray} {c : Nat} : ∀ (l : List α), (∀ x ∈ l, (B x).size ≤ c) → (catB (l.map (sep ++ B ·))).size ≤ l.length * (sep.size + c)
 | [], h => Nat.zero_le _
 | x :: r, h => by
  have h1 := h x (List.mem_cons_self ..)
  have h2 := cat_le (sep := sep) r (fun y hy => h y (List.mem_cons_of_mem _ hy))
  rw [List.map_cons, catB, ByteArray.size_append, ByteArray.size_append, List.length_cons, Nat.succ_mul]
  omega
theorem join_le {α : Type} {sep : ByteArray} {B : α → ByteArray} {c : Nat} (l : List α) (h : ∀ x ∈ l, (B x).size ≤ c) : (joinB sep (l.map B)).size ≤ l.length * (sep.size + c) := by
 cases l with
 | nil => exact Nat.zero_le _
 | cons x r =>
  have hE : joinB sep ((x :: r).map B) = B x ++ catB (r.map (sep ++ B ·)) := by rw [List.map_cons, joinB_eq, List.map_map]; rfl
  have h1 := h x (List.mem_cons_self ..)
  have h2 := cat_le (sep := sep) r (fun y hy => h y (List.mem_cons_of_mem _ hy))
  rw [hE, ByteArray.size_append, List.length_cons, Nat.succ_mul]
  omega
theorem value_le3 {v : Val} (hp : v.2.2.2.2.size ≤ 300) : (valueB v).size ≤ 1300 := by
 have hw := wholeB_size v.2.2.1
 have hq := quoted_le v.2.2.2.2
 have hh := quoted_le (hexB v.2.2.2.1.toNat)
 have hx16 : (hexB v.2.2.2.1.toNat).size = 16 := by show ((hexN 16 _).toArray).size = 16; rw [List.size_toArray, hexN_len]
 unfold valueB
 split
 · decide
 split
 · split <;> decide
 split
 · omega
 split
 · rw [ByteArray.size_append, ByteArray.size_append]; show 6 + _ + 1 ≤ 1300; omega
 split
 · omega
 · decide
theorem arg_le {a : ActM} (h : fewS a) (k : Int) : (argB a k).size ≤ 80000 := by
 have q1 := quoted_le a.id
 have q2 := quoted_le a.name
 have q3 := quoted_le a.draw
 have q4 := quoted_le a.pid
 have w1 := wholeB_size a.n
 have w2 := wholeB_size a.m
 have w3 := wholeB_size a.tear
 have w4 := wholeB_size a.cls
 have w5 := decB_size a.keep.toNat
 have i1 := h.id
 have i2 := h.name
 have i3 := h.draw
 have i4 := h.pid
 have n1 : (namesB (a.names.getD [])).size ≤ 80000 := by
  have := join_le (sep := comSp) (B := quotedF) (c := 2002) (a.names.getD []) (fun x hx => by have := quoted_le x; have := h.nms x hx; omega)
  have h2 : (a.names.getD []).length * (comSp.size + 2002) ≤ 20 * 2004 := Nat.mul_le_mul h.nm (Nat.le_refl 2004)
  replace this := Nat.le_trans this h2
  clear h2
  unfold namesB
  rw [ByteArray.size_append, ByteArray.size_append, show (⟨#[91]⟩ : ByteArray).size = 1 from rfl, show (⟨#[93]⟩ : ByteArray).size = 1 from rfl]
  omega
 have n2 : (paperB (a.pid, a.cls, a.flds.getD [])).size ≤ 80000 := by
  have := join_le (sep := comSp) (B := fldB) (c := 2503) (a.flds.getD []) (fun x hx => by
   have h1 := quoted_le x.1
   have h2 := h.fld x hx
   have h3 := value_le3 h2.2
   show (quotedF x.1 ++ (⟨#[61]⟩ : ByteArray) ++ valueB x.2).size ≤ 2503
   rw [ByteArray.size_append, ByteArray.size_append, show (⟨#[61]⟩ : ByteArray).size = 1 from rfl]
   omega)
  have h2 : (a.flds.getD []).length * (comSp.size + 2503) ≤ 30 * 2505 := Nat.mul_le_mul h.fl (Nat.le_refl 2505)
  replace this := Nat.le_trans this h2
  clear h2
  have e1 : (papHead (a.pid, a.cls, a.flds.getD [])).size = (quotedF a.pid).size + 1 + (wholeB a.cls).size + 2 := by
   unfold papHead
   rw [ByteArray.size_append, ByteArray.size_append, ByteArray.size_append]; rfl
  rw [paperB_eq, ByteArray.size_append, ByteArray.size_append, e1, show rpar.size = 1 from rfl]
  dsimp only
  omega
 unfold argB
 repeat' split
 all_goals omega
theorem argsK_le (k : Int) : (argsK k).length ≤ 3 := by
 unfold argsK
 (repeat' split) <;> simp
theorem form_le : ∀ k : Fin 16, (formB k.val).size ≤ 10 := by decide +kernel
theorem print_le {a : ActM} (h : fewS a) : (printB a).size ≤ 1000000 := by
 by_cases hk : 1 ≤ a.kind ∧ a.kind ≤ 15
 · have hB : printB a = formB a.kind.toNat ++ catB ((argsK a.kind).map (sp1 ++ argB a ·)) ++ semi := by
    unfold printB wordsOf
    rw [if_pos hk.1, if_pos hk.2, joinB_eq, List.map_map]; rfl
   have h1 := cat_le (sep := sp1) (B := argB a) (argsK a.kind) (fun x _ => arg_le h x)
   have h2 : (argsK a.kind).length * (sp1.size + 80000) ≤ 3 * 80001 := Nat.mul_le_mul (argsK_le _) (Nat.le_refl 80001)
   replace h1 := Nat.le_trans h1 h2
   clear h2
   have h3 := form_le ⟨a.kind.toNat, by omega⟩
   dsimp only at h3
   rw [hB, ByteArray.size_append, ByteArray.size_append, show semi.size = 1 from rfl]
   omega
 · rw [print_none hk]; decide
theorem wantC_eq {v : Val} (h0 : 0 ≤ v.1) (h4 : v.1 ≤ 4) : wantC v = wantV v := by
 obtain ⟨k, fl, n, b, t⟩ := v
 dsimp only at h0 h4
 unfold wantC wantV cleanF
 dsimp only
 by_cases k1 : k = 1
 · subst k1; simp
 by_cases k2 : k = 2
 · subst k2; simp
 by_cases k3 : k = 3
 · subst k3
   by_cases hn : nanB b = true <;> simp [hn]
 by_cases k4 : k = 4
 · subst k4; simp
 · have : k = 0 := by omega
   subst this; simp
theorem plain_all : ∀ {l : List Fld}, plainL l = true → (∀ f ∈ l, kindOk f) ∧ l.map wantFl = l
 | [], h => ⟨(by intro f hf; cases hf), rfl⟩
 | f :: r, h => by
  unfold plainL at h
  split at h
  · cases h
  · split at h
    · cases h
    · split at h
      · rename_i h1 h2 h3
        obtain ⟨g1, g2⟩ := plain_all h
        have hk : kindOk f := ⟨by omega, by omega⟩
        refine ⟨?_, ?_⟩
        · intro x hx
          rcases List.mem_cons.1 hx with rfl | hx
          · exact hk
          · exact g1 x hx
        · rw [List.map_cons, g2]
          congr 1
          show (f.1, wantV f.2) = f
          rw [← wantC_eq hk.1 hk.2, ← h3]
      · cases h
theorem same_self (a : ActM) : sameA a a = true := by unfold sameA; simp
/-- What is read of a step is the step with just what it has. -/
theorem read_clean {a : ActM} (h1 : 1 ≤ a.kind) (h2 : a.kind ≤ 15) (hp : a.kind = 1 → (a.flds.getD []).map wantFl = a.flds.getD []) : sameA (readA a) (cleanA a) = true := by
 obtain ⟨k, p, c, fl, i, w, nn, d, n, m, q, t⟩ := a
 dsimp only at h1 h2 hp
 by_cases k1 : k = 1
 · subst k1
   have hf := hp rfl
   have e1 : readA ⟨1, p, c, fl, i, w, nn, d, n, m, q, t⟩ = { act0 1 with pid := p, cls := c, flds := some ((fl.getD []).map wantFl), draw := d } := rfl
   have e2 : cleanA ⟨1, p, c, fl, i, w, nn, d, n, m, q, t⟩ = { act0 1 with pid := p, cls := c, flds := fl, draw := d } := rfl
   rw [e1, e2, hf]
   unfold sameA
   simp [act0]
 by_cases k14 : k = 14
 · subst k14
   have e1 : readA ⟨14, p, c, fl, i, w, nn, d, n, m, q, t⟩ = { act0 14 with id := i, names := some (nn.getD []), n := n } := rfl
   have e2 : cleanA ⟨14, p, c, fl, i, w, nn, d, n, m, q, t⟩ = { act0 14 with id := i, names := nn, n := n } := rfl
   rw [e1, e2]
   unfold sameA
   simp [act0]
 have hE : readA ⟨k, p, c, fl, i, w, nn, d, n, m, q, t⟩ = cleanA ⟨k, p, c, fl, i, w, nn, d, n, m, q, t⟩ := by
  have hk : k = 2 ∨ k = 3 ∨ k = 4 ∨ k = 5 ∨ k = 6 ∨ k = 7 ∨ k = 8 ∨ k = 9 ∨ k = 10 ∨ k = 11 ∨ k = 12 ∨ k = 13 ∨ k = 15 := by omega
  rcases hk with rfl | rfl | rfl | rfl | rfl | rfl | rfl | rfl | rfl | rfl | rfl | rfl | rfl <;> rfl
 rw [hE]
 exact same_self _
theorem rc_len {a : ActM} (h1 : 1 ≤ a.kind) (h2 : a.kind ≤ 15) : (((readA a).flds.getD []).length ≤ (a.flds.getD []).length ∧ ((readA a).names.getD []).length ≤ (a.names.getD []).length) ∧ ((cleanA a).flds.getD []).length ≤ (a.flds.getD []).length ∧ ((cleanA a).names.getD []).length ≤ (a.names.getD []).length := by
 obtain ⟨k, p, c, fl, i, w, nn, d, n, m, q, t⟩ := a
 dsimp only at h1 h2
 have hk : k = 1 ∨ k = 2 ∨ k = 3 ∨ k = 4 ∨ k = 5 ∨ k = 6 ∨ k = 7 ∨ k = 8 ∨ k = 9 ∨ k = 10 ∨ k = 11 ∨ k = 12 ∨ k = 13 ∨ k = 14 ∨ k = 15 := by omega
 rcases hk with rfl | rfl | rfl | rfl | rfl | rfl | rfl | rfl | rfl | rfl | rfl | rfl | rfl | rfl | rfl <;> simp [readA, cleanA, argsK, setA, act0]
/-- A plain step of few is read again. -/
theorem few_read {a : ActM} (h : fewS a) (h1 : 1 ≤ a.kind) (h2 : a.kind ≤ 15) (hp : a.kind = 1 → plainL (a.flds.getD []) = true) (hz : (printB a).size ≤ 65536) : scriptF (printB a) = (some [readA a], 0, 0) ∧ sameA (readA a) (cleanA a) = true :=
 ⟨print_read ⟨h.say, h1, h2, fun hk => (plain_all (hp hk)).1⟩ hz, read_clean h1 h2 fun hk => (plain_all (hp hk)).2⟩
end Go.Dl

namespace Go.Dl
open Go.RowKit
open Go.Proofs
set_option linter.unusedSimpArgs false
set_option linter.unusedVariables false
def wordR (k : Int) : ByteArray := if k < 1 then ⟨#[]⟩ else if 15 < k then ⟨#[]⟩ else formB k.toNat
noncomputable def pWordR : List D → Option D := famP (fun k : Int => inR .i64 k = true) (fun k => [.c (.v (.int .i64 k))]) (fun k => .c (.v (.string (wordR k))))
theorem wordR_at (k : Int) (h : inR .i64 k = true) : pWordR [.c (.v (.int .i64 k))] = some (.c (.v (.string (wordR k)))) := Ym (fun a b h => by
 simp only [List.cons.injEq, D.c.injEq, C.v.injEq, Value.int.injEq, and_true, true_and] at h
 subst h; rfl) k h rfl
theorem word_get {k : Nat} (h : k < 16) : ([[C.v (.string ⟨#[]⟩)], [C.v (.string ⟨#[97, 112, 112, 101, 110, 100]⟩)], [C.v (.string ⟨#[103, 101, 116]⟩)], [C.v (.string ⟨#[101, 114, 97, 115, 101]⟩)], [C.v (.string ⟨#[100, 114, 111, 112]⟩)], [C.v (.string ⟨#[104, 111, 108, 100]⟩)], [C.v (.string ⟨#[114, 101, 108, 101, 97, 115, 101]⟩)], [C.v (.string ⟨#[112, 111, 105, 110, 116]⟩)], [C.v (.string ⟨#[116, 105, 99, 107]⟩)], [C.v (.string ⟨#[115, 116, 101, 112]⟩)], [C.v (.string ⟨#[115, 119, 101, 101, 112]⟩)], [C.v (.string ⟨#[99, 114, 97, 115, 104]⟩)], [C.v (.string ⟨#[97, 114, 109]⟩)], [C.v (.string ⟨#[111, 112, 101, 110]⟩)], [C.v (.string ⟨#[115, 104, 111, 119]⟩)], [C.v (.string ⟨#[112, 114, 111, 118, 101]⟩)]] : List (List C))[k]? = some [C.v (.string (formB k))] := by
 match k, h with
 | 0, _ => rfl
 | 1, _ => rfl
 | 2, _ => rfl
 | 3, _ => rfl
 | 4, _ => rfl
 | 5, _ => rfl
 | 6, _ => rfl
 | 7, _ => rfl
 | 8, _ => rfl
 | 9, _ => rfl
 | 10, _ => rfl
 | 11, _ => rfl
 | 12, _ => rfl
 | 13, _ => rfl
 | 14, _ => rfl
 | 15, _ => rfl
 | k + 16, h => exact absurd h (by omega)
set_option maxRecDepth 100000 in
theorem meets48 : Meets Try.prog 48 (pureS pWordR) := by
 refine Yn (show Try.prog.funcs[48]? = some Try.f48 by kernel_rfl) rfl (n := 15) rfl (rs := [ResultVar.tmp 2]) rfl ?_
 intro k hk Q hQ
 obtain ⟨hk1, hk2⟩ := i64_rng hk
 unfold wordR at hQ
 by_cases h1 : k < 1
 · rw [if_pos h1] at hQ
   refine Y3 ok0 rfl (by repeat first | with_reducible exact Y2 | refine Y1 (by simp only [Y5, Y4, Y6, qev, St.ev, St.put, Y8, Y7, List.replicate, Nat.reduceSub, ZA]; rfl) ?_) ?_
   refine Y3 ok0 rfl (by repeat first | with_reducible exact Y2 | refine Y1 (by simp only [Y5, Y4, Y6, qev, St.ev, St.put, St.with, D.cells, C.st, C.dat, putCells, Y8, Y7, Nat.reduceAdd, Nat.reduceMul, if_true, ne_eq, reduceCtorEq, Nat.reduceLeDiff, Nat.le_refl, buildSliceA, partsA, fillA, reps, chop, tk28, tz9, tsz9, ZA]; rfl) ?_) ?_
   refine seq_in ?_
   refine Y3 ok0 rfl (by repeat first | with_reducible exact Y2 | refine Y1 (by simp only [Y5, Y4, Y6, qev, St.ev, St.put, qpick, qint, Yc, isEq, Ya, qbin, Y8, Y7, if_true, if_false, decide_true, cond_true, reduceCtorEq, h1, ZA]; rfl) ?_) ?_
   refine Yf (b := true) rfl (fun _ => ?_) (fun h => by cases h)
   refine Y3 ok0 rfl (by repeat first | with_reducible exact Y2 | refine Y1 (by simp only [Y5, Y4, Y6, qev, St.ev, St.put, Y8, Y7, ZA]; rfl) ?_) ?_
   refine Yo (Yp (by simp only [outRes, Yi, resD, outD, outC, C.dat, if_true, ZA]; rfl) rfl (by simp) (by simp) ?_)
   with_reducible exact hQ
 · by_cases h2 : 15 < k
   · rw [if_neg h1, if_pos h2] at hQ
     refine Y3 ok0 rfl (by repeat first | with_reducible exact Y2 | refine Y1 (by simp only [Y5, Y4, Y6, qev, St.ev, St.put, Y8, Y7, List.replicate, Nat.reduceSub, ZA]; rfl) ?_) ?_
     refine Y3 ok0 rfl (by repeat first | with_reducible exact Y2 | refine Y1 (by simp only [Y5, Y4, Y6, qev, St.ev, St.put, St.with, D.cells, C.st, C.dat, putCells, Y8, Y7, Nat.reduceAdd, Nat.reduceMul, if_true, ne_eq, reduceCtorEq, Nat.reduceLeDiff, Nat.le_refl, buildSliceA, partsA, fillA, reps, chop, tk28, tz9, tsz9, ZA]; rfl) ?_) ?_
     refine seq_in ?_
     refine Y3 ok0 rfl (by repeat first | with_reducible exact Y2 | refine Y1 (by simp only [Y5, Y4, Y6, qev, St.ev, St.put, qpick, qint, Yc, Ya, qbin, Y8, Y7, if_true, if_false, decide_true, decide_false, cond_false, h1, h2, ZA]; rfl) ?_) ?_
     refine Yf (b := true) rfl (fun _ => ?_) (fun h => by cases h)
     refine Y3 ok0 rfl (by repeat first | with_reducible exact Y2 | refine Y1 (by simp only [Y5, Y4, Y6, qev, St.ev, St.put, Y8, Y7, ZA]; rfl) ?_) ?_
     refine Yo (Yp (by simp only [outRes, Yi, resD, outD, outC, C.dat, if_true, ZA]; rfl) rfl (by simp) (by simp) ?_)
     with_reducible exact hQ
   · rw [if_neg h1, if_neg h2] at hQ
     obtain ⟨kn, rfl⟩ : ∃ kn : Nat, k = (kn : Int) := ⟨k.toNat, by omega⟩
     rw [Int.toNat_natCast] at hQ
     have hg := word_get (k := kn) (by omega)
     have hkl : (kn : Int) < 16 := by omega
     have hkl2 : (kn : Int) < ((16 : Nat) : Int) := by omega
     refine Y3 ok0 rfl (by repeat first | with_reducible exact Y2 | refine Y1 (by simp only [Y5, Y4, Y6, qev, St.ev, St.put, Y8, Y7, List.replicate, Nat.reduceSub, ZA]; rfl) ?_) ?_
     refine Y3 ok0 rfl (by repeat first | with_reducible exact Y2 | refine Y1 (by simp only [Y5, Y4, Y6, qev, St.ev, St.put, St.with, D.cells, C.st, C.dat, putCells, Y8, Y7, Nat.reduceAdd, Nat.reduceMul, if_true, ne_eq, reduceCtorEq, Nat.reduceLeDiff, Nat.le_refl, buildSliceA, partsA, fillA, reps, chop, tk28, tz9, tsz9, ZA]; rfl) ?_) ?_
     refine seq_in ?_
     refine Y3 ok0 rfl (by repeat first | with_reducible exact Y2 | refine Y1 (by simp only [Y5, Y4, Y6, qev, St.ev, St.put, qpick, qint, Yc, Ya, qbin, Y8, Y7, if_true, if_false, decide_false, cond_false, h1, h2, ZA]; rfl) ?_) ?_
     refine Yf (b := false) rfl (fun h => by cases h) (fun _ => ?_)
     refine Ye ?_
     refine Y3 ok0 rfl (by repeat first | with_reducible exact Y2 | refine Y1 (by simp only [Y5, Y4, Y6, qev, St.ev, St.put, D.int, qload, Y9, qmk, C.cpy, TK.agg, qindexAddr, C.cp, if_true, if_false, ne_eq, reduceCtorEq, hg, hkl2, Int.toNat_natCast, Int.natCast_nonneg, tk28, tsz9, tk9, ZA]; rfl) ?_) ?_
     refine Yo (Yp (by simp only [outRes, Yi, resD, outD, outC, C.dat, if_true, ZA]; rfl) rfl (by simp) (by simp) ?_)
     with_reducible exact hQ
def nmGo : List ByteArray → Nat → List UInt8 → List UInt8
 | [], _, a => a
 | x :: r, i, a => nmGo r (i + 1) ((if 0 < i then a ++ [44, 32] else a) ++ (quotedF x).data.toList)
theorem nmGo_eq : ∀ (r : List ByteArray) (i : Nat) (a : List UInt8), 0 < i → nmGo r i a = joinGo comSp (r.map quotedF) a
 | [], _, a, _ => rfl
 | x :: r, i, a, h => by
  rw [nmGo, if_pos h, nmGo_eq r (i + 1) _ (by omega)]
  rfl
theorem joinGo_pre (sep : ByteArray) : ∀ (l : List ByteArray) (p a : List UInt8), joinGo sep l (p ++ a) = p ++ joinGo sep l a
 | [], p, a => rfl
 | x :: r, p, a => by
  rw [joinGo, joinGo, ← joinGo_pre sep r]
  simp only [List.append_assoc]
theorem names_ref (l : List ByteArray) : (⟨(nmGo l 0 [91]).toArray⟩ : ByteArray) ++ ⟨#[93]⟩ = namesB l := by
 unfold namesB
 congr 1
 match l with
 | [] => rfl
 | [x] =>
  apply ByteArray.ext
  rw [ByteArray.data_append]
  show ([91] ++ (quotedF x).data.toList).toArray = #[91] ++ (quotedF x).data
  apply Array.ext'
  simp
 | x :: y :: r =>
  rw [nmGo, if_neg (by omega), nmGo_eq _ _ _ (by omega), joinGo_pre]
  apply ByteArray.ext
  rw [ByteArray.data_append]
  show ([91] ++ joinGo comSp ((y :: r).map quotedF) (quotedF x).data.toList).toArray = #[91] ++ (joinGo comSp ((y :: r).map quotedF) (quotedF x).data.toList).toArray
  apply Array.ext'
  simp
theorem appB (a : List UInt8) (b : ByteArray) : (⟨a.toArray⟩ : ByteArray) ++ b = ⟨(a ++ b.data.toList).toArray⟩ := by
 apply ByteArray.ext
 rw [ByteArray.data_append]
 apply Array.ext'
 simp
noncomputable def FsJg : Fs := { Fs.none with pure := fun k => if k = 15 then some pQuoted else if k = 38 then some pWhole else if k = 17 then some pValueB else none }
theorem okJg : FsOK Try.prog FsJg := by
 refine ⟨fun k f h => ?_, fun _ _ h => (by cases h)⟩
 simp only [FsJg] at h
 split at h
 · rename_i hk; subst hk; cases h; exact ⟨by kernel_rfl, meets15⟩
 split at h
 · rename_i hk; subst hk; cases h; exact ⟨by kernel_rfl, meets38⟩
 split at h
 · rename_i hk; subst hk; cases h; exact ⟨by kernel_rfl, meets17⟩
 · cases h
set_option maxHeartbeats 2000000 in
theorem meets51 : Meets Try.prog 51 (pureS pList) := by
 refine Yn (show Try.prog.funcs[51]? = some Try.f51 by kernel_rfl) rfl (n := 24) rfl (rs := [ResultVar.tmp 2]) rfl ?_
 intro o hpre Q hQ
 have hgen : ∃ (l : List ByteArray) (es : Nat), namesC false o = .s false es (l.map strC) ∧ o.getD [] = l ∧ (0 < l.length → es = 1) := by
  cases o with
  | none => exact ⟨[], 0, rfl, rfl, fun h => absurd h (by simp)⟩
  | some l => exact ⟨l, 1, rfl, rfl, fun _ => rfl⟩
 obtain ⟨l, es, ho, hol, hes⟩ := hgen
 rw [hol] at hpre hQ
 rw [ho]
 obtain ⟨hl, hsz⟩ := hpre
 have hlm : l.length ≤ maxStr := by unfold maxStr; omega
 have hc0 : ((0 : Nat) : Int) = 0 := rfl
 rw [← names_ref] at hQ
 refine Y3 okJg rfl (by repeat first | with_reducible exact Y2 | refine Y1 (by simp only [Y5, Y4, Y6, qev, St.ev, St.put, Y8, Y7, List.replicate, Nat.reduceSub, ZA]; rfl) ?_) ?_
 refine Y3 okJg rfl (by repeat first | with_reducible exact Y2 | refine Y1 (by simp only [Y5, Y4, Y6, qev, St.ev, St.put, Y8, Y7, ZA]; rfl) ?_) ?_
 refine seq_in ?_
 refine Y3 okJg rfl (by repeat first | with_reducible exact Y2 | refine Y1 (by simp only [Y5, Y4, Y6, qev, St.ev, St.put, Y8, Y7, ZA]; rfl) ?_) ?_
 refine tri_block ?_
 refine tri_loop_le (fun m A => ∃ (j : Nat) (acc : List UInt8), m + j = l.length ∧ acc.length ≤ 1 + j * 400010 ∧ nmGo (l.drop j) j acc = nmGo l 0 [91] ∧ A = ⟨[.c (.s false es (l.map strC)), .o, .c (.v (.string ⟨#[]⟩)), .c (.v (.string ⟨(acc).toArray⟩)), .c (.v (.int .i64 (j : Nat))), .o, .o, .o, .o, .o, .o, .o, .o, .o, .o, .o, .o, .o, .o, .o, .o, .o, .o, .o], []⟩) l.length (B := ⟨[.c (.s false es (l.map strC)), .o, .c (.v (.string ⟨#[]⟩)), .c (.v (.string ⟨([91]).toArray⟩)), .c (.v (.int .i64 (0 : Nat))), .o, .o, .o, .o, .o, .o, .o, .o, .o, .o, .o, .o, .o, .o, .o, .o, .o, .o, .o], []⟩) ⟨by repeat (first | exact .nil | refine .same ?_ | refine .o ?_), rfl⟩ ⟨0, [91], rfl, by decide, rfl, rfl⟩ ?_
 rintro m A ⟨j, acc, hm, hacc, hk, rfl⟩
 have hj1 : (j : Int) + 1 = ((j + 1 : Nat) : Int) := by omega
 have hjb : j ≤ 200 := by omega
 have hg : ((j : Nat) : Int) < ((l.length : Nat) : Int) → l[j]? = some (l.getD j ⟨#[]⟩) := fun h => get_at _ (by omega)
 have hE : ((j : Nat) : Int) < ((l.length : Nat) : Int) → es = 1 := fun h => hes (by omega)
 have hgz := getD_size hsz j
 have hQd := quoted_at (l.getD j ⟨#[]⟩) (by omega)
 have hqz := quotedB_le (l.getD j ⟨#[]⟩) hgz
 have hqdl := dl_len (quotedF (l.getD j ⟨#[]⟩))
 have hz0 : (⟨acc.toArray⟩ : ByteArray).size = acc.length := (by show acc.toArray.size = _; simp)
 have hA1 : (⟨acc.toArray⟩ : ByteArray).size + (⟨#[44, 32]⟩ : ByteArray).size ≤ maxStr := (by rw [hz0]; show _ + 2 ≤ _; unfold maxStr; omega)
 have hA2 : (⟨acc.toArray⟩ : ByteArray).size + (quotedF (l.getD j ⟨#[]⟩)).size ≤ maxStr := (by rw [hz0]; unfold maxStr; omega)
 have hA3 : ((⟨acc.toArray⟩ : ByteArray) ++ ⟨#[44, 32]⟩).size + (quotedF (l.getD j ⟨#[]⟩)).size ≤ maxStr := (by rw [ByteArray.size_append, hz0]; show _ + 2 + _ ≤ _; unfold maxStr; omega)
 have hA4 : (⟨acc.toArray⟩ : ByteArray).size + (⟨#[93]⟩ : ByteArray).size ≤ maxStr := (by rw [hz0]; show _ + 1 ≤ _; unfold maxStr; omega)
 refine seq_in ?_
 refine Y3 okJg rfl (by repeat first | with_reducible exact Y2 | refine Y1 (by simp only [Y5, Y4, Y6, qev, St.ev, St.put, qint, Yc, Ya, qbin, qlen, qbuiltin, if_true, if_false, hlm, List.length_map, tk28, ZA]; rfl) ?_) ?_
 refine Yf rfl (fun a0 => ?_) (fun a0 => ?_)
 ·
  simp only [decide_eq_true_eq] at a0
  refine Ye ?_
  refine seq_in (tri_block ?_)
  refine seq_in ?_
  refine Y3 okJg rfl (by repeat first | with_reducible exact Y2 | refine Y1 (by simp only [Y5, Y4, Y6, qev, St.ev, St.put, qint, Yc, Ya, qbin, Y8, Y7, if_true, if_false, decide_true, hE, a0, ZA]; rfl) ?_) ?_
  refine Yf rfl (fun a1 => ?_) (fun a1 => ?_)
  ·
   simp only [decide_eq_true_eq] at a1
   refine Yk okJg rfl (by repeat first | with_reducible exact Y2 | refine Y1 (by simp only [Y5, Y4, Y6, qev, St.ev, St.put, qstr, qbin, Y8, Y7, if_true, decide_true, hA1, a1, ZA]; rfl) ?_) ?_
   show Tri _ _ _ _
   refine Yk okJg rfl (by repeat first | with_reducible exact Y2 | refine Y1 (by simp only [Y5, Y4, Y6, evsA, qev, St.ev, St.put, St.with, D.int, qload, Y9, qmk, C.cpy, TK.agg, qindexAddr, qstr, qbin, C.cp, C.dat, Nat.reduceEqDiff, if_true, if_false, ne_eq, reduceCtorEq, Bool.true_or, callP, Fs.none, Yg, argD, argC, settle, settle1, settleC, FsJg, Int.toNat_natCast, Int.natCast_nonneg, List.length_map, hg, hQd, hA3, List.getElem?_map, strC, tk28, a0, tsz9, tk9, ZA]; rfl) ?_) ?_
   show Tri _ _ _ _
   refine Yk okJg rfl (by repeat first | with_reducible exact Y2 | refine Y1 (by simp only [Y5, Y4, Y6, qev, St.ev, St.put, qint, Yc, Ya, qbin, Y8, Y7, if_true, if_false, hj1, show IntKind.i64.wrap (↑(j + 1) : Int) = _ from wrap_i64 _ (by omega) (by omega), ZA]; rfl) ?_) ?_
   (rw [drop_at ⟨#[]⟩ (show j < l.length by omega), nmGo, if_pos (by omega)] at hk; exact ⟨m - 1, by omega, ⟨[.c (.s false es (l.map strC)), .o, .c (.v (.string ⟨#[]⟩)), .c (.v (.string ⟨(acc ++ [44, 32] ++ (quotedF (l.getD j ⟨#[]⟩)).data.toList).toArray⟩)), .c (.v (.int .i64 (j + 1 : Nat))), .o, .o, .o, .o, .o, .o, .o, .o, .o, .o, .o, .o, .o, .o, .o, .o, .o, .o, .o], []⟩, ⟨(by rw [hE (by omega)]; simp only [appB]; repeat (first | exact .nil | refine .same ?_ | refine .o ?_)), rfl⟩, j + 1, acc ++ [44, 32] ++ (quotedF (l.getD j ⟨#[]⟩)).data.toList, by omega, (by simp only [List.length_append, Z9, Z10]; omega), hk, rfl⟩)
  ·
   simp only [decide_eq_false_iff_not] at a1
   refine Ye ?_
   refine Yk okJg rfl (by repeat first | with_reducible exact Y2 | refine Y1 (by simp only [Y5, Y4, Y6, evsA, qev, St.ev, St.put, St.with, D.int, qload, Y9, qmk, C.cpy, TK.agg, qindexAddr, qstr, qbin, C.cp, C.dat, Nat.reduceEqDiff, if_true, if_false, decide_false, ne_eq, reduceCtorEq, Bool.true_or, callP, Fs.none, Yg, argD, argC, settle, settle1, settleC, FsJg, Int.toNat_natCast, Int.natCast_nonneg, List.length_map, hg, hQd, hA2, List.getElem?_map, strC, tk28, a0, a1, tsz9, tk9, ZA]; rfl) ?_) ?_
   show Tri _ _ _ _
   refine Yk okJg rfl (by repeat first | with_reducible exact Y2 | refine Y1 (by simp only [Y5, Y4, Y6, qev, St.ev, St.put, qint, Yc, Ya, qbin, Y8, Y7, if_true, if_false, hj1, show IntKind.i64.wrap (↑(j + 1) : Int) = _ from wrap_i64 _ (by omega) (by omega), ZA]; rfl) ?_) ?_
   (rw [drop_at ⟨#[]⟩ (show j < l.length by omega), nmGo, if_neg (by omega)] at hk; exact ⟨m - 1, by omega, ⟨[.c (.s false es (l.map strC)), .o, .c (.v (.string ⟨#[]⟩)), .c (.v (.string ⟨(acc ++ (quotedF (l.getD j ⟨#[]⟩)).data.toList).toArray⟩)), .c (.v (.int .i64 (j + 1 : Nat))), .o, .o, .o, .o, .o, .o, .o, .o, .o, .o, .o, .o, .o, .o, .o, .o, .o, .o, .o], []⟩, ⟨(by rw [hE (by omega)]; simp only [appB]; repeat (first | exact .nil | refine .same ?_ | refine .o ?_)), rfl⟩, j + 1, acc ++ (quotedF (l.getD j ⟨#[]⟩)).data.toList, by omega, (by simp only [List.length_append]; omega), hk, rfl⟩)
 ·
  simp only [decide_eq_false_iff_not] at a0
  refine tri_exit ?_
  show Tri _ _ _ _
  refine Y3 okJg rfl (by repeat first | with_reducible exact Y2 | refine Y1 (by simp only [Y5, Y4, Y6, qev, St.ev, St.put, qstr, qbin, Y8, Y7, if_true, decide_false, hA4, a0, ZA]; rfl) ?_) ?_
  refine Yo (Yp (by simp only [outRes, Yi, resD, outD, outC, C.dat, if_true, ZA]; rfl) rfl (by simp) (by simp) ?_)
  (rw [List.drop_of_length_le (by omega), nmGo] at hk; rw [← hk] at hQ; exact hQ)
end Go.Dl

namespace Go.Dl
open Go.RowKit
open Go.Proofs
set_option linter.unusedSimpArgs false
set_option linter.unusedVariables false
theorem of_list (b : ByteArray) : (⟨b.data.toList.toArray⟩ : ByteArray) = b := by
 apply ByteArray.ext
 simp
set_option maxRecDepth 100000 in
set_option maxHeartbeats 4000000 in
theorem meets49 : Meets Try.prog 49 (pureS pPaperB) := by
 refine Yn (show Try.prog.funcs[49]? = some Try.f49 by kernel_rfl) rfl (n := 45) rfl (rs := [ResultVar.tmp 2]) rfl ?_
 rintro ⟨es, id, cls, l⟩ ⟨⟨hid, hcl, hl, hfl⟩, hes⟩ Q hQ
 dsimp only at hid hcl hl hfl hes hQ
 have hlm : l.length ≤ maxStr := by unfold maxStr; omega
 have hQi := quoted_at id (by omega)
 have hqz := quotedB_le id hid
 have hW := whole_at cls hcl
 have hwz := wholeB_size cls
 have hc0 : ((0 : Nat) : Int) = 0 := rfl
 have hA1 : (quotedF id).size + (⟨#[32]⟩ : ByteArray).size ≤ maxStr := by show _ + 1 ≤ maxStr; unfold maxStr; omega
 have hA2 : (quotedF id ++ ⟨#[32]⟩).size + (wholeB cls).size ≤ maxStr := by rw [ByteArray.size_append]; show (quotedF id).size + 1 + _ ≤ maxStr; unfold maxStr; omega
 have hA3 : (quotedF id ++ ⟨#[32]⟩ ++ wholeB cls).size + (⟨#[32, 40]⟩ : ByteArray).size ≤ maxStr := by rw [ByteArray.size_append, ByteArray.size_append]; show (quotedF id).size + 1 + (wholeB cls).size + 2 ≤ maxStr; unfold maxStr; omega
 have hhz : (papHead (id, cls, l)).size ≤ 400100 := by unfold papHead; simp only [ByteArray.size_append]; show (quotedF id).size + 1 + (wholeB cls).size + 2 ≤ _; omega
 have hhd : quotedF id ++ ⟨#[32]⟩ ++ wholeB cls ++ ⟨#[32, 40]⟩ = papHead (id, cls, l) := rfl
 obtain ⟨hd, hhd2⟩ : ∃ hd, papHead (id, cls, l) = hd := ⟨_, rfl⟩
 unfold paperB at hQ
 rw [hhd2] at hhz hhd hQ
 dsimp only at hQ
 have hdl := dl_len hd
 simp only [papC2]
 refine Y3 okJg rfl (by repeat first | with_reducible exact Y2 | refine Y1 (by simp only [Y5, Y4, Y6, qev, St.ev, St.put, St.with, D.cells, boxA, C.st, Y8, Y7, List.replicate, Nat.reduceAdd, Nat.reduceSub, if_true, ZA]; rfl) ?_) ?_
 refine Yj mixed okJg rfl (by kernel_rfl) ?_
 refine ⟨_, (by repeat first | with_reducible exact Y2 | refine Y1 (by simp only [Y5, Y4, Y6, evsA, qev, St.ev, St.put, St.with, qload, Y9, qmk, C.cpy, TK.agg, Yb, qstr, qbin, liveR, C.cp, C.dat, Y8, Y7, Nat.reduceEqDiff, if_true, if_false, reduceCtorEq, Nat.add_zero, Bool.true_or, callP, Fs.none, Yg, argD, argC, settle, settle1, settleC, FsJg, hQi, hW, hA1, hA2, hA3, hhd, tk48, tsz9, tk9, tsz3, tk3, ZA]; rfl) ?_), ?_⟩
 refine seq_in ?_
 refine Y3 okJg rfl (by repeat first | with_reducible exact Y2 | refine Y1 (by simp only [Y5, Y4, Y6, qev, St.ev, St.put, Y8, Y7, ZA]; rfl) ?_) ?_
 refine tri_block ?_
 refine tri_loop_le (fun m A => ∃ (j : Nat) (acc : List UInt8), m + j = l.length ∧ acc.length ≤ 400100 + j * 1000000 ∧ papGo (l.drop j) j acc = papGo l 0 hd.data.toList ∧ A = ⟨[.o, .c (.p 0 0 0), .c (.v (.string ⟨#[]⟩)), .c (.v (.string ⟨(acc).toArray⟩)), .c (.v (.int .i64 (j : Nat))), .o, .o, .o, .o, .o, .o, .o, .o, .o, .o, .o, .o, .o, .o, .o, .o, .o, .o, .o, .o, .o, .o, .o, .o, .o, .o, .o, .o, .o, .o, .o, .o, .o, .o, .o, .o, .o, .o, .o, .o], [some ⟨false, 3, [[.v (.string id), .v (.int .i64 cls), .s false es (l.map fldC)]]⟩]⟩) l.length (B := ⟨[.o, .c (.p 0 0 0), .c (.v (.string ⟨#[]⟩)), .c (.v (.string ⟨(hd.data.toList).toArray⟩)), .c (.v (.int .i64 (0 : Nat))), .o, .o, .o, .o, .o, .o, .o, .o, .o, .o, .o, .o, .o, .o, .o, .o, .o, .o, .o, .o, .o, .o, .o, .o, .o, .o, .o, .o, .o, .o, .o, .o, .o, .o, .o, .o, .o, .o, .o, .o], [some ⟨false, 3, [[.v (.string id), .v (.int .i64 cls), .s false es (l.map fldC)]]⟩]⟩) ⟨(by rw [of_list]; repeat (first | exact .nil | refine .same ?_ | refine .o ?_)), rfl⟩ ⟨0, hd.data.toList, rfl, by omega, rfl, rfl⟩ ?_
 rintro m A ⟨j, acc, hm, hacc, hk, rfl⟩
 have hj1 : (j : Int) + 1 = ((j + 1 : Nat) : Int) := by omega
 have hjb : j ≤ 200 := by omega
 obtain ⟨f, hf⟩ : ∃ f, l.getD j (noText, val0) = f := ⟨_, rfl⟩
 have hg : ((j : Nat) : Int) < ((l.length : Nat) : Int) → l[j]? = some f := (by intro h; rw [← hf]; exact get_at _ (by omega))
 have hE : ((j : Nat) : Int) < ((l.length : Nat) : Int) → es = 6 := fun h => hes (by omega)
 have hfp : fldPre f := (by by_cases h : j < l.length; exact hfl f (List.mem_of_getElem? (hg (by omega))); rw [← hf, List.getD_eq_getElem?_getD, List.getElem?_eq_none (by omega)]; exact ⟨by decide, by decide, by decide, by decide⟩)
 obtain ⟨nm, k, fl, n, b, tx⟩ := f
 have hQn := quoted_at nm (by have := hfp.1; dsimp only at this; omega)
 have hqn := quotedB_le nm hfp.1
 have hV := valueB_at (k, fl, n, b, tx) hfp.2
 have hvz := valueB_size hfp.2
 simp only [valC] at hV
 dsimp only at hvz
 have hz0 : (⟨acc.toArray⟩ : ByteArray).size = acc.length := (by show acc.toArray.size = _; simp)
 have hB0 : (⟨acc.toArray⟩ : ByteArray).size + (⟨#[44, 32]⟩ : ByteArray).size ≤ maxStr := (by rw [hz0]; show _ + 2 ≤ maxStr; unfold maxStr; omega)
 have hx : ∀ y : ByteArray, y.size ≤ 1000000000 → y.size + (quotedF nm).size ≤ maxStr := (by intro y hy; unfold maxStr; omega)
 have hx2 : ∀ y : ByteArray, y.size ≤ 1000000000 → (y ++ quotedF nm).size + (⟨#[61]⟩ : ByteArray).size ≤ maxStr := (by intro y hy; rw [ByteArray.size_append]; show y.size + _ + 1 ≤ maxStr; unfold maxStr; omega)
 have hx3 : ∀ y : ByteArray, y.size ≤ 1000000000 → (y ++ quotedF nm ++ ⟨#[61]⟩).size + (valueB (k, fl, n, b, tx)).size ≤ maxStr := (by intro y hy; rw [ByteArray.size_append, ByteArray.size_append]; show y.size + _ + 1 + _ ≤ maxStr; unfold maxStr; omega)
 have y1 : (⟨acc.toArray⟩ : ByteArray).size ≤ 1000000000 := (by rw [hz0]; omega)
 have y2 : ((⟨acc.toArray⟩ : ByteArray) ++ ⟨#[44, 32]⟩).size ≤ 1000000000 := (by rw [ByteArray.size_append, hz0]; show _ + 2 ≤ _; omega)
 have a1 := hx _ y1
 have a2 := hx2 _ y1
 have a3 := hx3 _ y1
 have b1 := hx _ y2
 have b2 := hx2 _ y2
 have b3 := hx3 _ y2
 have hfd : (fldB (nm, k, fl, n, b, tx)).data.toList = (quotedF nm).data.toList ++ [61] ++ (valueB (k, fl, n, b, tx)).data.toList := (by unfold fldB; rw [ByteArray.data_append, ByteArray.data_append, Array.toList_append, Array.toList_append])
 have hfz : (fldB (nm, k, fl, n, b, tx)).data.toList.length ≤ 900000 := (by rw [dl_len]; unfold fldB; simp only [ByteArray.size_append]; show (quotedF nm).size + 1 + _ ≤ _; omega)
 have hAe : (⟨acc.toArray⟩ : ByteArray).size + (⟨#[41]⟩ : ByteArray).size ≤ maxStr := (by rw [hz0]; show _ + 1 ≤ maxStr; unfold maxStr; omega)
 refine seq_in ?_
 refine Y3 okJg rfl (by repeat first | with_reducible exact Y2 | refine Y1 (by simp only [Y5, Y4, Y6, qev, St.ev, St.put, qload, Y9, qmk, C.cpy, TK.agg, Yb, qint, Yc, Ya, qbin, qlen, qbuiltin, liveR, C.cp, if_true, if_false, reduceCtorEq, hlm, tk48, List.length_map, tk46, tsz46, ZA]; rfl) ?_) ?_
 refine Yf rfl (fun w0 => ?_) (fun w0 => ?_)
 ·
  simp only [decide_eq_true_eq] at w0
  refine Ye ?_
  refine seq_in (tri_block ?_)
  refine seq_in ?_
  refine Y3 okJg rfl (by repeat first | with_reducible exact Y2 | refine Y1 (by simp only [Y5, Y4, Y6, qev, St.ev, St.put, qint, Yc, Ya, qbin, Y8, Y7, if_true, if_false, decide_true, hE, w0, ZA]; rfl) ?_) ?_
  refine Yf rfl (fun w1 => ?_) (fun w1 => ?_)
  ·
   simp only [decide_eq_true_eq] at w1
   refine Yk okJg rfl (by repeat first | with_reducible exact Y2 | refine Y1 (by simp only [Y5, Y4, Y6, qev, St.ev, St.put, qstr, qbin, Y8, Y7, if_true, decide_true, hB0, w1, ZA]; rfl) ?_) ?_
   show Tri _ _ _ _
   refine any_endE mixed okJg rfl (by kernel_rfl) ?_
   refine ⟨_, (by repeat first | with_reducible exact Y2 | refine Y1 (by simp only [Y5, Y4, Y6, evsA, qev, St.ev, St.put, St.with, D.int, qload, Y9, qmk, C.cpy, TK.agg, Yb, qindexAddr, qstr, qbin, liveR, C.cp, C.dat, Y8, Y7, Nat.reduceAdd, Nat.reduceEqDiff, if_true, if_false, ne_eq, reduceCtorEq, Bool.true_or, callP, Fs.none, Yg, argD, argC, argCs, settle, settle1, settleC, FsJg, tk48, Int.toNat_natCast, Int.natCast_nonneg, List.length_map, hg, hQn, hV, b1, b2, b3, List.getElem?_map, fldC, tk91, tsz91, tk39, tsz39, tk46, tsz9, tk9, tsz46, w0, ZA]; rfl) ?_), ?_⟩
   show Tri _ _ _ _
   refine Yk okJg rfl (by repeat first | with_reducible exact Y2 | refine Y1 (by simp only [Y5, Y4, Y6, qev, St.ev, St.put, qint, Yc, Ya, qbin, Y8, Y7, if_true, if_false, hj1, show IntKind.i64.wrap (↑(j + 1) : Int) = _ from wrap_i64 _ (by omega) (by omega), ZA]; rfl) ?_) ?_
   simp only []
   (rw [drop_at (noText, val0) (show j < l.length by omega), hf, papGo, if_pos (by omega)] at hk; exact ⟨m - 1, by omega, ⟨[.o, .c (.p 0 0 0), .c (.v (.string ⟨#[]⟩)), .c (.v (.string ⟨(acc ++ [44, 32] ++ (fldB (nm, k, fl, n, b, tx)).data.toList).toArray⟩)), .c (.v (.int .i64 (j + 1 : Nat))), .o, .o, .o, .o, .o, .o, .o, .o, .o, .o, .o, .o, .o, .o, .o, .o, .o, .o, .o, .o, .o, .o, .o, .o, .o, .o, .o, .o, .o, .o, .o, .o, .o, .o, .o, .o, .o, .o, .o, .o], [some ⟨false, 3, [[.v (.string id), .v (.int .i64 cls), .s false es (l.map fldC)]]⟩]⟩, ⟨(by rw [hE (by omega)]; simp only [appB, hfd, List.append_assoc]; repeat (first | exact .nil | refine .same ?_ | refine .o ?_)), (by rw [hE (by omega)]; try rfl)⟩, j + 1, acc ++ [44, 32] ++ (fldB (nm, k, fl, n, b, tx)).data.toList, by omega, (by simp only [List.length_append, Z9, Z10]; omega), hk, rfl⟩)
  ·
   simp only [decide_eq_false_iff_not] at w1
   refine Ye ?_
   refine any_endE mixed okJg rfl (by kernel_rfl) ?_
   refine ⟨_, (by repeat first | with_reducible exact Y2 | refine Y1 (by simp only [Y5, Y4, Y6, evsA, qev, St.ev, St.put, St.with, D.int, qload, Y9, qmk, C.cpy, TK.agg, Yb, qindexAddr, qstr, qbin, liveR, C.cp, C.dat, Y8, Y7, Nat.reduceAdd, Nat.reduceEqDiff, if_true, if_false, decide_false, ne_eq, reduceCtorEq, Bool.true_or, callP, Fs.none, Yg, argD, argC, argCs, settle, settle1, settleC, FsJg, tk48, Int.toNat_natCast, Int.natCast_nonneg, List.length_map, hg, hQn, hV, a1, a2, a3, List.getElem?_map, fldC, tk91, tsz91, tk39, tsz39, tk46, tsz9, tk9, tsz46, w0, w1, ZA]; rfl) ?_), ?_⟩
   show Tri _ _ _ _
   refine Yk okJg rfl (by repeat first | with_reducible exact Y2 | refine Y1 (by simp only [Y5, Y4, Y6, qev, St.ev, St.put, qint, Yc, Ya, qbin, Y8, Y7, if_true, if_false, hj1, show IntKind.i64.wrap (↑(j + 1) : Int) = _ from wrap_i64 _ (by omega) (by omega), ZA]; rfl) ?_) ?_
   simp only []
   (rw [drop_at (noText, val0) (show j < l.length by omega), hf, papGo, if_neg (by omega)] at hk; exact ⟨m - 1, by omega, ⟨[.o, .c (.p 0 0 0), .c (.v (.string ⟨#[]⟩)), .c (.v (.string ⟨(acc ++ (fldB (nm, k, fl, n, b, tx)).data.toList).toArray⟩)), .c (.v (.int .i64 (j + 1 : Nat))), .o, .o, .o, .o, .o, .o, .o, .o, .o, .o, .o, .o, .o, .o, .o, .o, .o, .o, .o, .o, .o, .o, .o, .o, .o, .o, .o, .o, .o, .o, .o, .o, .o, .o, .o, .o, .o, .o, .o, .o], [some ⟨false, 3, [[.v (.string id), .v (.int .i64 cls), .s false es (l.map fldC)]]⟩]⟩, ⟨(by rw [hE (by omega)]; simp only [appB, hfd, List.append_assoc]; repeat (first | exact .nil | refine .same ?_ | refine .o ?_)), (by rw [hE (by omega)]; try rfl)⟩, j + 1, acc ++ (fldB (nm, k, fl, n, b, tx)).data.toList, by omega, (by simp only [List.length_append]; omega), hk, rfl⟩)
 ·
  simp only [decide_eq_false_iff_not] at w0
  refine tri_exit ?_
  show Tri _ _ _ _
  refine Y3 okJg rfl (by repeat first | with_reducible exact Y2 | refine Y1 (by simp only [Y5, Y4, Y6, qev, St.ev, St.put, qstr, qbin, Y8, Y7, if_true, decide_false, hAe, w0, ZA]; rfl) ?_) ?_
  refine Yo (Yp (by simp only [outRes, Yi, resD, outD, outC, C.dat, if_true, ZA]; rfl) rfl (by simp) (by simp) ?_)
  (rw [List.drop_of_length_le (by omega), papGo] at hk; rw [← hk] at hQ; exact hQ)
end Go.Dl
