/- 'Dl', part Ze: rules for walking straight on. -/
import Derived.Test.YtdhlelineoggkaaDlZd
namespace Go.Dl
open Go.RowKit

section
variable {P : Program} {Φ : Fs} {A A' : St} {Q : Exit → St → Prop}

theorem runf_cons {ops : Array Oper} {o : Oper} {os : List Oper} {A1 : St} {r : Option St} (h : xstep P Φ ops o A = some A1) (h2 : runf P Φ ops os A1 = r) : runf P Φ ops (o :: os) A = r := by
  simp only [runf, h, Option.bind_some]; exact h2

theorem runf_nil {ops : Array Oper} : runf P Φ ops [] A = some A := rfl

theorem seq_run (hΦ : FsOK P Φ) {id : Nat} {l : List Oper} {y : Code} (hok : opsOK l.toArray = true) (h : runf P Φ l.toArray l A = some A') (hk : Tri P y A' Q) : Tri P (.seq (.region id l.toArray false) y) A Q :=
  tri_seq (tri_runf hΦ hok h hk)

theorem seq_any (hm : P.follows .mixedOrders = true) (hΦ : FsOK P Φ) {id : Nat} {l : List Oper} {y : Code} (hok : opsOK l.toArray = true) (hsw : anyOK P Φ l.toArray = true) (h : runf P Φ l.toArray l A = some A') (hk : Tri P y A' Q) :
    Tri P (.seq (.region id l.toArray true) y) A Q :=
  tri_seq (tri_any hm hΦ hok (anyOK_spec hsw) h hk)

theorem run_end (hΦ : FsOK P Φ) {id : Nat} {l : List Oper} (hok : opsOK l.toArray = true) (h : runf P Φ l.toArray l A = some A') (hk : Q .normal A') : Tri P (.region id l.toArray false) A Q :=
  tri_runf hΦ hok h hk

theorem any_end (hm : P.follows .mixedOrders = true) (hΦ : FsOK P Φ) {id : Nat} {l : List Oper} (hok : opsOK l.toArray = true) (hsw : anyOK P Φ l.toArray = true) (h : runf P Φ l.toArray l A = some A') (hk : Q .normal A') :
    Tri P (.region id l.toArray true) A Q :=
  tri_any hm hΦ hok (anyOK_spec hsw) h hk

theorem seq_cond {t : Tmp} {x y z : Code} {b : Bool} (hc : A.sl[t]? = some (.c (.v (.bool b)))) (ht : b = true → Tri P x A (thenQ (fun A' => Tri P z A' Q) Q))
    (hf : b = false → Tri P y A (thenQ (fun A' => Tri P z A' Q) Q)) : Tri P (.seq (.cond (.tmp t) x y) z) A Q := tri_seq (tri_cond hc ht hf)

theorem seq_in {x z : Code} (h : Tri P x A (thenQ (fun A' => Tri P z A' Q) Q)) : Tri P (.seq x z) A Q := tri_seq h

theorem then_skip {z : Code} (h : Tri P z A Q) : Tri P .skip A (thenQ (fun A' => Tri P z A' Q) Q) := tri_skip h

theorem seq_skip {z : Code} (h : Tri P z A Q) : Tri P (.seq .skip z) A Q := tri_seq (tri_skip h)
theorem seq_ret {z : Code} (h : Q .ret A) : Tri P (.seq .ret z) A Q := tri_seq (tri_ret h)
theorem seq_exit {z : Code} {id : Nat} (h : Q (.exit id) A) : Tri P (.seq (.exit id) z) A Q := tri_seq (tri_exit h)
theorem seq_block {c z : Code} {id : Nat} (h : Tri P c A (blockQ id (thenQ (fun A' => Tri P z A' Q) Q))) : Tri P (.seq (.block id c) z) A Q := tri_seq (tri_block h)

theorem ends_ret {rs : List ResultVar} {m : Nat} {R : D → List Obj → Prop} {d : D} {ids : List Nat} {objs : List Obj} (h : outRes P A rs = some (d, ids)) (ho : outObjs A.H m = some objs) (hn : ids.Nodup)
    (hm : ∀ r ∈ ids, m ≤ r) (hQ : R d objs) : Ends P rs m R .ret A := ⟨.inl rfl, d, ids, objs, h, ho, hn, hm, hQ⟩

theorem ends_norm {rs : List ResultVar} {m : Nat} {R : D → List Obj → Prop} {d : D} {ids : List Nat} {objs : List Obj} (h : outRes P A rs = some (d, ids)) (ho : outObjs A.H m = some objs) (hn : ids.Nodup)
    (hm : ∀ r ∈ ids, m ≤ r) (hQ : R d objs) : Ends P rs m R .normal A := ⟨.inr rfl, d, ids, objs, h, ho, hn, hm, hQ⟩

end
end Go.Dl
