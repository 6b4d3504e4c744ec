/-
  TmH: a part of the proof of BrokerTimesCardSaid: an evaluator of the program's form over partly known values, proved sound against the model, and its runs. Conditions: none beyond the given row.
-/
import Derived.Test.YtnomdhohldiceaaGreatDoorTmTz
set_option maxRecDepth 100000
namespace Go.Ev.Tb
open Go Go.Proofs
theorem headRun : isRet true ((evCallF T0 1000).fn 18 [] (gHp gs Tryz.prog.globals.size)) = true := by kernel_rfl
theorem headOk {σ : Nat → Value} (hσ : ∀ m, (σ m).oneCell' = true) : PQ σ 18 (pLone gs true) :=
  lone_ok gsInt (ev_ok depthOk hσ mixedOk tabOk (primOk0 σ) (fun _ _ h => by cases h) 1000) (by rw [← evCallF_eq]; exact headRun)
theorem primOk {σ : Nat → Value} (hσ : ∀ m, (σ m).oneCell' = true) (F : List (FQ × AV)) : PrimOk Tryz.prog σ (T F) := by
  intro f p h
  have h' : getF trP f = some p := h
  rw [getF_eq] at h'
  have := TrAll_get (pr := PQ σ) (t := trP) (a := 1) (b := 0) ⟨entN, ⟨entN, ⟨entN, ⟨entN, ⟨entN, ⟨entN, trivial, ⟨entN, ⟨entN, ⟨(ent (q287 σ)), trivial, trivial⟩, trivial⟩, trivial⟩⟩, trivial⟩, trivial⟩, ⟨entN, trivial, ⟨entN, trivial, ⟨entN, ⟨entN, trivial, ⟨entN, ⟨(ent (q347 σ)), trivial, trivial⟩, trivial⟩⟩, trivial⟩⟩⟩⟩, ⟨entN, trivial, ⟨entN, trivial, ⟨entN, ⟨entN, trivial, ⟨entN, ⟨entN, trivial, ⟨(ent (q429 σ)), trivial, trivial⟩⟩, trivial⟩⟩, trivial⟩⟩⟩⟩, ⟨entN, ⟨entN, trivial, ⟨entN, ⟨entN, ⟨entN, trivial, ⟨entN, trivial, ⟨entN, ⟨(ent (q356 σ)), trivial, trivial⟩, trivial⟩⟩⟩, trivial⟩, trivial⟩⟩, ⟨entN, ⟨entN, ⟨(ent (headOk hσ)), trivial, trivial⟩, trivial⟩, trivial⟩⟩⟩ f p h'
  rwa [Nat.one_mul, Nat.add_zero] at this
end Go.Ev.Tb
