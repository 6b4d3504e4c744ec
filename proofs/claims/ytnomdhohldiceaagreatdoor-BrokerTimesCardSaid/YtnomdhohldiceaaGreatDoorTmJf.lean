/-
  TmJf: a part of the proof of BrokerTimesCardSaid: an evaluator of the program's form over partly known values, proved sound against the model, and its runs. Conditions: none beyond the given row.
-/
import Derived.Test.YtnomdhohldiceaaGreatDoorRows
import Derived.JoinedOf
import GoSem.ClaimGoes
import Derived.KernelRfl
set_option maxRecDepth 100000
namespace Go.Proofs.YtnomdhohldiceaaGreatDoor
theorem jMa : mapsRowed Tryz.prog = true := by kernel_rfl
theorem jSh : Tryz.prog.stopsHeard = true := by kernel_rfl
theorem jMe : Tryz.prog.mayEnter = true := by kernel_rfl
theorem allStay : (Tryz.prog.funcs.toList.all fun fn => !fn.goes) = true := by kernel_rfl
end Go.Proofs.YtnomdhohldiceaaGreatDoor
