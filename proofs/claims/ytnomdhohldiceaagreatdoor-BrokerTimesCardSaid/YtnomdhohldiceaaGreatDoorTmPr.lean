/-
  TmPr: a part of the proof of BrokerTimesCardSaid: an evaluator of the program's form over partly known values, proved sound against the model, and its runs. Conditions: none beyond the given row.
-/
import Derived.Test.YtnomdhohldiceaaGreatDoorEv3
import Derived.Shelf.Strings.Repeat
import Derived.Shelf.Strings.OnBuilder
import Derived.Test.YtnomdhohldiceaaGreatDoorProg
import Derived.KernelRfl
set_option maxRecDepth 100000
namespace Go.Proofs
open Go.Shelf
def Tryz.layRep_ren : Go.Shelf.Ren := ⟨fun | 105 => 287 | 212 => 357 | 99 => 358 | 165 => 359 | 166 => 360 | 170 => 361 | 169 => 362 | 263 => 405 | 264 => 406 | 206 => 407 | 240 => 408 | 241 => 409 | 276 => 450 | 277 => 451 | n => n, fun | 9 => 9 | 3 => 3 | 4 => 4 | 20 => 20 | 0 => 0 | 46 => 349 | 109 => 444 | 5 => 5 | 72 => 449 | 76 => 436 | 51 => 22 | 146 => 488 | 53 => 32 | 148 => 490 | 70 => 447 | 37 => 250 | 75 => 435 | 127 => 492 | 164 => 524 | 80 => 286 | n => n, fun | n => n⟩
theorem Tryz.layRep : Go.Proofs.Lays.n105 Tryz.prog Tryz.layRep_ren where
  mixed := by kernel_rfl
  f99 := Tryz.func358.trans (congrArg some (by kernel_rfl))
  f105 := Tryz.func287.trans (congrArg some (by kernel_rfl))
  f165 := Tryz.func359.trans (congrArg some (by kernel_rfl))
  f166 := Tryz.func360.trans (congrArg some (by kernel_rfl))
  f169 := Tryz.func362.trans (congrArg some (by kernel_rfl))
  f170 := Tryz.func361.trans (congrArg some (by kernel_rfl))
  f206 := Tryz.func407.trans (congrArg some (by kernel_rfl))
  f212 := Tryz.func357.trans (congrArg some (by kernel_rfl))
  f240 := Tryz.func408.trans (congrArg some (by kernel_rfl))
  f241 := Tryz.func409.trans (congrArg some (by kernel_rfl))
  f263 := Tryz.func405.trans (congrArg some (by kernel_rfl))
  f264 := Tryz.func406.trans (congrArg some (by kernel_rfl))
  f276 := Tryz.func450.trans (congrArg some (by kernel_rfl))
  f277 := Tryz.func451.trans (congrArg some (by kernel_rfl))
  t0 := Tryz.underlying0
  a0 := Tryz.isAgg0
  z0 := Tryz.sizeOf0
  v0 := Tryz.zeroValue0
  t3 := Tryz.underlying3
  a3 := Tryz.isAgg3
  z3 := Tryz.sizeOf3
  v3 := Tryz.zeroValue3
  t4 := Tryz.underlying4
  a4 := Tryz.isAgg4
  z4 := Tryz.sizeOf4
  v4 := Tryz.zeroValue4
  t5 := Tryz.underlying5
  a5 := Tryz.isAgg5
  z5 := Tryz.sizeOf5
  v5 := Tryz.zeroValue5
  t9 := Tryz.underlying9
  a9 := Tryz.isAgg9
  z9 := Tryz.sizeOf9
  v9 := Tryz.zeroValue9
  t20 := Tryz.underlying20
  a20 := Tryz.isAgg20
  z20 := Tryz.sizeOf20
  v20 := Tryz.zeroValue20
  t37 := Tryz.underlying250
  a37 := Tryz.isAgg250
  z37 := Tryz.sizeOf250
  v37 := Tryz.zeroValue250
  t46 := Tryz.underlying349
  a46 := Tryz.isAgg349
  z46 := Tryz.sizeOf349
  v46 := Tryz.zeroValue349
  t51 := Tryz.underlying22
  a51 := Tryz.isAgg22
  z51 := Tryz.sizeOf22
  v51 := Tryz.zeroValue22
  t53 := Tryz.underlying32
  a53 := Tryz.isAgg32
  z53 := Tryz.sizeOf32
  v53 := Tryz.zeroValue32
  t70 := Tryz.underlying447
  a70 := Tryz.isAgg447
  z70 := Tryz.sizeOf447
  v70 := Tryz.zeroValue447
  t72 := Tryz.underlying449
  a72 := Tryz.isAgg449
  z72 := Tryz.sizeOf449
  v72 := Tryz.zeroValue449
  t75 := Tryz.underlying435
  a75 := Tryz.isAgg435
  z75 := Tryz.sizeOf435
  v75 := Tryz.zeroValue435
  t76 := Tryz.underlying436
  a76 := Tryz.isAgg436
  z76 := Tryz.sizeOf436
  v76 := Tryz.zeroValue436
  t109 := Tryz.underlying444
  a109 := Tryz.isAgg444
  z109 := Tryz.sizeOf444
  v109 := Tryz.zeroValue444
  t127 := Tryz.underlying492
  a127 := Tryz.isAgg492
  z127 := Tryz.sizeOf492
  v127 := Tryz.zeroValue492
  t146 := Tryz.underlying488
  a146 := Tryz.isAgg488
  z146 := Tryz.sizeOf488
  v146 := Tryz.zeroValue488
  t148 := Tryz.underlying490
  a148 := Tryz.isAgg490
  z148 := Tryz.sizeOf490
  v148 := Tryz.zeroValue490
  t164 := Tryz.underlying524
  a164 := Tryz.isAgg524
  z164 := Tryz.sizeOf524
  v164 := Tryz.zeroValue524
def Tryz.layJoin_ren : Go.Shelf.Ren := ⟨fun | 156 => 356 | 165 => 359 | 166 => 360 | 169 => 362 | 240 => 408 | 241 => 409 | 276 => 450 | 277 => 451 | n => n, fun | 31 => 34 | 9 => 9 | 3 => 3 | 4 => 4 | 0 => 0 | 20 => 20 | 72 => 449 | 76 => 436 | 70 => 447 | 37 => 250 | 75 => 435 | 127 => 492 | 164 => 524 | 5 => 5 | 80 => 286 | n => n, fun | n => n⟩
theorem Tryz.layJoin : Go.Proofs.Lays.n156 Tryz.prog Tryz.layJoin_ren where
  mixed := by kernel_rfl
  f156 := Tryz.func356.trans (congrArg some (by kernel_rfl))
  f165 := Tryz.func359.trans (congrArg some (by kernel_rfl))
  f166 := Tryz.func360.trans (congrArg some (by kernel_rfl))
  f169 := Tryz.func362.trans (congrArg some (by kernel_rfl))
  f240 := Tryz.func408.trans (congrArg some (by kernel_rfl))
  f241 := Tryz.func409.trans (congrArg some (by kernel_rfl))
  f276 := Tryz.func450.trans (congrArg some (by kernel_rfl))
  f277 := Tryz.func451.trans (congrArg some (by kernel_rfl))
  t0 := Tryz.underlying0
  a0 := Tryz.isAgg0
  z0 := Tryz.sizeOf0
  v0 := Tryz.zeroValue0
  t3 := Tryz.underlying3
  a3 := Tryz.isAgg3
  z3 := Tryz.sizeOf3
  v3 := Tryz.zeroValue3
  t4 := Tryz.underlying4
  a4 := Tryz.isAgg4
  z4 := Tryz.sizeOf4
  v4 := Tryz.zeroValue4
  t9 := Tryz.underlying9
  a9 := Tryz.isAgg9
  z9 := Tryz.sizeOf9
  v9 := Tryz.zeroValue9
  t20 := Tryz.underlying20
  a20 := Tryz.isAgg20
  z20 := Tryz.sizeOf20
  v20 := Tryz.zeroValue20
  t31 := Tryz.underlying34
  a31 := Tryz.isAgg34
  z31 := Tryz.sizeOf34
  v31 := Tryz.zeroValue34
  t37 := Tryz.underlying250
  a37 := Tryz.isAgg250
  z37 := Tryz.sizeOf250
  v37 := Tryz.zeroValue250
  t70 := Tryz.underlying447
  a70 := Tryz.isAgg447
  z70 := Tryz.sizeOf447
  v70 := Tryz.zeroValue447
  t72 := Tryz.underlying449
  a72 := Tryz.isAgg449
  z72 := Tryz.sizeOf449
  v72 := Tryz.zeroValue449
  t75 := Tryz.underlying435
  a75 := Tryz.isAgg435
  z75 := Tryz.sizeOf435
  v75 := Tryz.zeroValue435
  t76 := Tryz.underlying436
  a76 := Tryz.isAgg436
  z76 := Tryz.sizeOf436
  v76 := Tryz.zeroValue436
  t127 := Tryz.underlying492
  a127 := Tryz.isAgg492
  z127 := Tryz.sizeOf492
  v127 := Tryz.zeroValue492
  t164 := Tryz.underlying524
  a164 := Tryz.isAgg524
  z164 := Tryz.sizeOf524
  v164 := Tryz.zeroValue524
theorem Tryz.extRep : Builder.Extra Tryz.prog Tryz.layRep_ren where
  sizeBuilder := by kernel_rfl
  liesBuilder := by kernel_rfl
  t5 := Tryz.underlying5
  a5 := Tryz.isAgg5
  z5 := Tryz.sizeOf5
  v5 := Tryz.zeroValue5
  infoByte := by kernel_rfl
  cellsByte := by kernel_rfl
  sizeByte := by kernel_rfl
  neB5 := by decide
theorem Tryz.extJoin : Builder.Extra Tryz.prog Tryz.layJoin_ren where
  sizeBuilder := by kernel_rfl
  liesBuilder := by kernel_rfl
  t5 := Tryz.underlying5
  a5 := Tryz.isAgg5
  z5 := Tryz.sizeOf5
  v5 := Tryz.zeroValue5
  infoByte := by kernel_rfl
  cellsByte := by kernel_rfl
  sizeByte := by kernel_rfl
  neB5 := by decide
end Go.Proofs
namespace Go.Ev.Tb
open Go Go.Proofs
theorem repC : RepC Tryz.prog 287 := ⟨fun args w => callFunc_ok Tryz.func287 rfl rfl args w, fun s c w h1 h2 => Any.strings_Repeat Tryz.layRep Tryz.extRep s c w h1 h2⟩
theorem joinC : JoinC Tryz.prog 356 := ⟨fun args w => callFunc_ok Tryz.func356 rfl rfl args w, fun bk o c xs sep w h1 h2 h3 h4 h5 => Any.strings_Join Tryz.layJoin Tryz.extJoin bk o c xs sep w h1 h2 h3 h4 h5⟩
theorem extCmp : IsExt Tryz.prog 429 Extern.BytealgCompare.compare := ⟨⟨Tryz.f429, Tryz.func429, by kernel_rfl, by kernel_rfl, by kernel_rfl, by kernel_rfl⟩⟩
theorem extClone : IsExt Tryz.prog 347 Extern.MapsClone.clone := ⟨⟨Tryz.f347, Tryz.func347, by kernel_rfl, by kernel_rfl, by kernel_rfl, by kernel_rfl⟩⟩
end Go.Ev.Tb
