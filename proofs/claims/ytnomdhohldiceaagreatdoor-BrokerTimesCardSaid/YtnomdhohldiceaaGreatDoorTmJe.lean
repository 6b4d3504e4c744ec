/-
  TmJe: a part of the proof of BrokerTimesCardSaid: an evaluator of the program's form over partly known values, proved sound against the model, and its runs. Conditions: none beyond the given row.
-/
import Derived.Test.YtnomdhohldiceaaGreatDoorRows
import Derived.JoinedOf
import Derived.KernelRfl
set_option maxRecDepth 100000
namespace Go.Proofs.YtnomdhohldiceaaGreatDoor
theorem jLa : laidOutB Tryz.prog = true := by kernel_rfl
end Go.Proofs.YtnomdhohldiceaaGreatDoor
