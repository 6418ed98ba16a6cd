/- 'Dl', part Zk: a call that is handed rows of the caller's own, by handle. -/
import Derived.Test.YtoamlicfbmhajaaDlZj
namespace Go.Dl
open Go.RowKit

section
variable {P : Program} {Φ : Fs}

theorem rr_callD {ops : Array Oper} {o : Oper} {os : List Oper} {A : St} {K : St → Prop} {c : Call} {k : FuncId} {caps : List C} {f : Operand} {ds ds' : List D} {ρ B : List Nat} {objs objs' : List Obj} {spec : Spec} {d : D}
    (hg : o.guard = none) (ho : o.op = .call c) (hop : o.op.operands.toList.all opdOK = true) (hc : c.callee = .value f) (hf : A.ev f = some (.c (.f k caps))) (hk : callable P k = true) (hds : evsA A c.args.toList = some ds)
    (harg : argDs A.H ρ (ds ++ caps.map .c) = some (ds', B)) (hρ : ρ.Nodup) (hobjs : objsAt A.H ρ = some objs) (hm : Meets P k spec) (hs : spec ds' objs (fun d' os' => d' = d ∧ os' = objs'))
    (hB : B = [] ∨ (d.ni = true ∧ ∀ o ∈ objs', Obj.ni o = true)) (h : RunR P ops os (St.put { A with H := (settle (setObjs A.H ρ objs') d).2 } o.dst (settle (setObjs A.H ρ objs') d).1) K) : RunR P ops (o :: os) A K := by
  refine rr_step (R := fun A' => A' = St.put { A with H := (settle (setObjs A.H ρ objs') d).2 } o.dst (settle (setObjs A.H ρ objs') d).1) hg (step_call ho hop hc hf hk hds harg hρ hobjs hm hs ?_) (by rintro _ rfl; exact h)
  rintro _ _ ⟨rfl, rfl⟩ _
  exact ⟨hB, rfl⟩

end
end Go.Dl
