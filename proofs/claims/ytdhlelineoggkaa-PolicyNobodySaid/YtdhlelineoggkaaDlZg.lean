/- 'Dl', part Zg: from a function's contract to the row of a law. -/
import Derived.Test.YtdhlelineoggkaaDlZf
import Derived.WalkKit
import Derived.ProofKit
import Derived.OpenShut
import Derived.ShutString
import Derived.ChangeOld
namespace Go.Dl
open Go.RowKit Go.ChangeShapes Go.WideShapes

/-- What an argument of a type is, by value. -/
def ArgTy (P : Program) (t : TypeId) (dd : D) : Prop :=
  match tk P t with
  | some k => if k.agg = true then ∃ cs, dd = .agg cs ∧ Ty P t cs else ∃ c, dd = .c c ∧ Ty P t [c]
  | none => False

def argOK (P : Program) (t : TypeId) : Bool :=
  plainT P 20 t && match tk P t with
  | some k => k.agg || tsz P t == 1
  | none => false

section
variable {P : Program} {W : World} {H : Type} {enc : TypeId × Value → H} {sp : Nat → Bool} {held : Bool}

theorem vs_single {S : Nat → Prop} {E : Env} {cs : List C} {v : Value} (h : Rep W S E (.vs cs [v]) []) : ∃ c, cs = [c] ∧ Rep W S E (.k false c v) [] := by
  generalize hfp : ([] : List Nat) = fp at h
  cases h with
  | vcons hc hr =>
    have := List.append_eq_nil_iff.1 hfp.symm
    obtain ⟨rfl, rfl⟩ := this
    cases hr
    exact ⟨_, rfl, hc⟩

theorem arg_trod {r : Reach} {b0 : Nat} {t : TypeId} {v : Value} {d : DataW H} {ps : List MemPlace} (hok : argOK P t = true) (hval : Value.okWide P W r b0 t v) (h : DataW.Trod enc P W 0 sp held t v d ps) :
    ∃ dd, RepD W (Inside W) [] dd v ∧ ArgTy P t dd := by
  obtain ⟨fuel, hf⟩ := h
  unfold argOK at hok
  rw [Bool.and_eq_true] at hok
  obtain ⟨hp, hk⟩ := hok
  unfold ArgTy
  have scal : ∀ k, tk P t = some k → k.agg = false → v.cells.toList = [v] → ∃ dd, RepD W (Inside W) [] dd v ∧ ∃ c, dd = .c c ∧ Ty P t [c] := by
    intro k h1 h2 h3
    rw [h1] at hk
    simp only [h2, Bool.false_or, beq_iff_eq] at hk
    rw [h3] at hf
    obtain ⟨cs, q1, q2, _, q4⟩ := rep_trod fuel 20 t [v] _ hf hp (by rw [hk]; rfl)
    obtain ⟨c, rfl, q5⟩ := vs_single q1
    exact ⟨.c c, .c q5, c, rfl, q4⟩
  have aggr : ∀ arr : Array Value, v = .agg arr → arr.size = tsz P t → ∃ dd, RepD W (Inside W) [] dd v ∧ ∃ cs, dd = .agg cs ∧ Ty P t cs := by
    rintro arr rfl hs
    obtain ⟨cs, q1, q2, _, q4⟩ := rep_trod fuel 20 t arr.toList _ hf hp (by simpa using hs)
    exact ⟨.agg cs, .agg q1, cs, rfl, q4⟩
  unfold plainT at hp
  split at hp
  · rename_i h1
    rw [h1]
    obtain ⟨b, rfl⟩ := okWide_bool (tk_bool h1) hval
    simpa [TK.agg] using scal _ h1 rfl rfl
  · rename_i k h1
    rw [h1]
    obtain ⟨n, rfl⟩ := okWide_int (tk_int h1) hval
    simpa [TK.agg] using scal _ h1 rfl rfl
  · rename_i h1
    rw [h1]
    obtain ⟨n, rfl⟩ := okWide_string (tk_str h1) hval
    simpa [TK.agg] using scal _ h1 rfl rfl
  · rename_i e h1
    rw [h1]
    obtain ⟨a, l, c, rfl⟩ := okWide_slice (tk_slice h1) hval
    simpa [TK.agg] using scal _ h1 rfl rfl
  · rename_i n e h1
    rw [h1]
    have hu := tk_arr h1
    unfold Value.okWide at hval
    rw [hu] at hval
    obtain ⟨arr, h2, h3, _⟩ := hval
    simpa [TK.agg] using aggr arr h2 h3
  · rename_i fs h1
    rw [h1]
    obtain ⟨dd, hu, hd⟩ := tk_some h1
    cases dd <;> simp only [TK.of, reduceCtorEq, TK.st.injEq] at hd
    unfold Value.okWide at hval
    rw [hu] at hval
    obtain ⟨arr, h2, h3, _⟩ := hval
    simpa [TK.agg] using aggr arr h2 h3
  · cases hp

theorem law_bool {k : FuncId} {F : List D → Option D} (hm : Meets P k (pureS F)) {vs : Array Value} {args : List D} {b : Bool} (hlen : args.length = vs.size)
    (hr : ∀ (i : Nat) (d : D), args[i]? = some d → RepD W (Inside W) [] d (vs.getD i undef)) (hF : F args = some (dB b)) :
    Calls P k vs W fun e W' => e = .returned (.bool b) ∧ Below W.heap.size W W' := by
  refine (hm args [] (fun d os => d = dB b ∧ os = []) ⟨rfl, _, hF, rfl, rfl⟩ W (Inside W) vs [] [] hlen hr ⟨rfl, rfl, by simp⟩ (by simp) (by simp) (fun _ h => h)).mono ?_
  rintro e W' ⟨v, d, os, rfl, ⟨rfl, rfl⟩, _, hl⟩
  obtain ⟨S', pls', fps', fpd, _, _, h3, _⟩ := hl.rest
  have hv : v = .bool b := by
    have h3 : Rep W' S' [] (.k false (.v (.bool b)) v) fpd := h3
    cases h3
    rfl
  subst hv
  exact ⟨rfl, hl.os, hl.tape, hl.output.1, hl.size, fun j hj => hl.keep j hj (by simp)⟩

end
end Go.Dl
