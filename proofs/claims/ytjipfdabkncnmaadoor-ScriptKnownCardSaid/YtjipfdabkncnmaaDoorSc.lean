/- A call inside a region whose order is drawn: its step, for any such region. -/
import Derived.Test.YtjipfdabkncnmaaDoorSa
import Derived.Deep.RegionLaw
import Derived.KernelRfl
namespace Go.Proofs.YtjipfdabkncnmaaDoor.S
open Go.RowKit
/-- a call of a Go function, met at an operation of a region that draws. -/
theorem step_call_of {P : Program} {ops : Array Oper} {o : Oper} {a : Act} {w : World} {K : Act → World → Prop} {Q : Exit → Act → World → Prop} {E : Prop} (hgd : o.guard = none)
    (f : FuncId) (xs : List Operand) (ts : Array TypeId) (ho : o.op = .call { callee := .value (.func f), args := xs.toArray, argTypes := ts }) (fn : Func) (hf : P.funcs[f]? = some fn)
    (hn : (fn.name == "runtime.NumGoroutine") = false) (hb : fn.body.isNone = false) (args : List Value) (hargs : xs.map a.eval = args)
    (h : Calls P f args.toArray w fun e w' => ∃ v, e = .returned v ∧ K (a.put o.dst v) w') :
    if Region.wanted o (yielded ops a.tmps) = true then Oper.wp P o a w K Q else E := by
  have hw : Region.wanted o (yielded ops a.tmps) = true := by simp [Region.wanted, hgd]
  rw [if_pos hw]
  unfold Oper.wp execOp
  have hrun : ((do let d ← resolve a.eval { callee := .value (.func f), args := xs.toArray, argTypes := ts } o.type; invoke d.target d.args) : Sem Next).run P w = .ok (.enter f args.toArray) w := by
    have hn' : ¬ fn.name = "runtime.NumGoroutine" := by simpa using hn
    have hb' : ¬ fn.body = none := by intro e; rw [e] at hb; cases hb
    simp [resolve, Act.eval, Deferred.ofValue, invoke, callFunc, hf, hargs, Sem.run_bind]
    rw [if_neg hn', if_neg hb']
  simp only [ho]
  rw [hrun]
  refine h.mono ?_
  rintro e w' ⟨v, rfl, hK⟩
  exact hK
theorem f32_name : (Tryd.f32.name == "runtime.NumGoroutine") = false := by kernel_rfl
theorem f32_body : Tryd.f32.body.isNone = false := by kernel_rfl
end Go.Proofs.YtjipfdabkncnmaaDoor.S
