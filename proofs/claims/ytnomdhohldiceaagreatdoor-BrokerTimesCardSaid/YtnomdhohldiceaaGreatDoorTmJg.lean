/-
  TmJg: a part of the proof of BrokerTimesCardSaid: an evaluator of the program's form over partly known values, proved sound against the model, and its runs. Conditions: none beyond the given row.
-/
import Derived.Test.YtnomdhohldiceaaGreatDoorTmJf
set_option maxRecDepth 100000
namespace Go.Proofs.YtnomdhohldiceaaGreatDoor
theorem stay {P : Program} (h : (P.funcs.toList.all fun fn => !fn.goes) = true) (f : FuncId) : P.goes f = false := by
  rw [List.all_eq_true] at h
  have h1 : ∀ g : Nat, (P.funcs[g]?).any Func.goes = false := fun g => by
    cases e : P.funcs[g]? with
    | none => rfl
    | some fn =>
      have := h fn (Array.mem_toList_iff.2 (Array.mem_of_getElem? e))
      simpa using this
  have h2 : P.funcs.any Func.goes = false := by
    rw [Array.any_eq_false]
    intro i hi
    have := h P.funcs[i] (by simp)
    simpa using this
  unfold Program.goes
  rw [h2, Bool.and_false, Bool.or_false, List.any_eq_false]
  intro g _
  rw [h1 g]; simp
theorem stays : false = Rows.brokerTimesRow.goesBy Tryz.prog := by
  unfold OpenClaim.goesBy Program.goesAt Program.goesFrom
  cases e : Tryz.prog.funcNamed Rows.brokerTimesRow.func with
  | none => rfl
  | some f => simp [stay allStay f, Rows.brokerTimesRow]
end Go.Proofs.YtnomdhohldiceaaGreatDoor
