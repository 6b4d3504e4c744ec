/-
  TmFin: a part of the proof of BrokerTimesCardSaid: an evaluator of the program's form over partly known values, proved sound against the model, and its runs. Conditions: none beyond the given row.
-/
import Derived.Test.YtnomdhohldiceaaGreatDoorTmEv
import Derived.Test.YtnomdhohldiceaaGreatDoorEv3
import Derived.Test.YtnomdhohldiceaaGreatDoorRows
set_option maxRecDepth 100000
namespace Go.Ev.Tb
open Go Go.Proofs Go.Lib Go.RowKit

/-! pairs of leaves -/
section
variable {σ σ' : Nat → Value}
def Pl (σ σ' : Nat → Value) (p : AV × AV) : Prop := (∀ (ι ι' : Io) v, VR σ ι 0 p.1 v → VR σ' ι' 0 p.2 v) ∧ (p.1.one = true → p.2.one = true)
def AllL {α : Type} (q : α → Prop) : List α → Prop
  | [] => True
  | x :: l => q x ∧ AllL q l
theorem AllL_mem {α : Type} {q : α → Prop} : ∀ {l : List α}, AllL q l → ∀ x ∈ l, q x
  | [], _, x, h => by cases h
  | y :: l, ⟨h1, h2⟩, x, h => by
    rcases List.mem_cons.1 h with rfl | h
    · exact h1
    · exact AllL_mem h2 x h
theorem wkOk {wk : Wk} (h : AllL (Pl σ σ') wk.mp) : WkOk σ σ' wk := fun x y hm => AllL_mem h (x, y) hm
theorem pl_ss {k : IntKind} {m m' : Nat} (h : σ m = σ' m') : Pl σ σ' (.si k m, .si k m') := ⟨fun _ _ v hv => by
  simp only [VR] at hv ⊢; rw [← h]; exact hv, fun _ => rfl⟩
theorem pl_is {k : IntKind} {n : Int} {m' : Nat} (h : σ' m' = .int k n) : Pl σ σ' (.it k n, .si k m') := ⟨fun _ _ v hv => by
  simp only [VR] at hv ⊢; rw [h]; exact ⟨hv, n, hv⟩, fun _ => rfl⟩
theorem pl_si {k : IntKind} {n : Int} {m : Nat} (h : σ m = .int k n) : Pl σ σ' (.si k m, .it k n) := ⟨fun _ _ v hv => by
  simp only [VR] at hv ⊢; rw [← h]; exact hv.1, fun _ => rfl⟩
theorem pl_ab {b : Bool} {m : Nat} (h : σ m = .bool b) : Pl σ σ' (.atom m, .bo b) := ⟨fun _ _ v hv => by
  simp only [VR] at hv ⊢; rw [← h]; exact hv, fun _ => rfl⟩
theorem pl_aa {m m' : Nat} (h : σ m = σ' m') : Pl σ σ' (.atom m, .atom m') := ⟨fun _ _ v hv => by
  simp only [VR] at hv ⊢; rw [← h]; exact hv, fun _ => rfl⟩
theorem fcOk {F : List (FQ × AV)} (h : AllL (fun p => FactOk σ p.1 p.2) F) : FcOk σ (fcL F) := fcL_ok (AllL_mem h)
end

/-! the leaves -/
def sg (t k : Int) (v9 : Value) (i l : Int) : Nat → Value
  | 0 => .int .u8 t
  | 1 => .int .u8 k
  | 2 => .int .u32 t
  | 3 => .int .u32 (t.tmod 30)
  | 4 => .int .i64 k
  | 5 => .int .i64 (k.tmod 40)
  | 6 => .int .i64 i
  | 7 => .int .i64 (i + 1)
  | 8 => .int .u32 l
  | 9 => v9
  | _ => .int .i64 (t.tmod 30)
theorem sg_one {t k : Int} {v9 : Value} {i l : Int} (h9 : v9.oneCell' = true) : ∀ m, (sg t k v9 i l m).oneCell' = true := by
  intro m
  unfold sg
  split <;> first | rfl | exact h9

def LOCN : Nat := 1096839851847282085987742183754034957445230493639
noncomputable def BC : Code := match Tryz.f3.body with | some c => c | none => .skip
theorem hBC : Tryz.f3.body = some BC := by kernel_rfl
noncomputable def LC : List Code := seqL BC
theorem hLC : LC.map (cC Tryz.prog Tryz.f3.ntmps LOCN) = A := by kernel_rfl
noncomputable def bodyC : Code := match (LC[17]? : Option Code) with | some (.block _ (.loop b)) => b | _ => .skip
theorem h17 : LC.drop 17 = .block 0 (.loop bodyC) :: LC.drop 18 := by kernel_rfl
theorem hbodyC : cC Tryz.prog Tryz.f3.ntmps LOCN bodyC = body := by kernel_rfl
theorem hcf : cF Tryz.prog LOCN Tryz.f3 = some c3 := by kernel_rfl
theorem hres : cRes Tryz.prog Tryz.f3.results.toList = some R := by kernel_rfl
theorem hgh : gHp gs Tryz.prog.globals.size = mkH 9 [(2, crcO)] := by kernel_rfl
theorem hg9 : Tryz.prog.globals.size = 9 := by kernel_rfl

/-! facts -/
section
variable {σ : Nat → Value} {k : IntKind} {a b : Int} {x y : AV}
theorem wr_in {n : Int} (h1 : kLo k ≤ n) (h2 : n ≤ kHi k) : wr k n = n := by unfold wr; rw [iLe_iff.2 h1, iLe_iff.2 h2]
theorem iLt_no (h : b ≤ a) : iLt a b = false := by
  cases e : iLt a b
  · rfl
  · exact absurd (iLt_iff.1 e) (by omega)
theorem iEq_no (h : a ≠ b) : iEq a b = false := by
  cases e : iEq a b
  · rfl
  · exact absurd (iEq_iff.1 e) h
theorem f_lt (hx : conc σ x = .it k a) (hy : conc σ y = .it k b) (h : a < b) : FactOk σ (.bin .lss x y) (.bo true) := fact_int (z := .bo true) hx hy rfl trivial ⟨by decide, by decide⟩ (by simp [binInt, iLt_iff.2 h])
theorem f_nlt (hx : conc σ x = .it k a) (hy : conc σ y = .it k b) (h : b ≤ a) : FactOk σ (.bin .lss x y) (.bo false) := fact_int (z := .bo false) hx hy rfl trivial ⟨by decide, by decide⟩ (by simp [binInt, iLt_no h])
theorem f_gt (hx : conc σ x = .it k a) (hy : conc σ y = .it k b) (h : b < a) : FactOk σ (.bin .gtr x y) (.bo true) := fact_int (z := .bo true) hx hy rfl trivial ⟨by decide, by decide⟩ (by simp [binInt, iLt_iff.2 h])
theorem f_eq (hx : conc σ x = .it k a) (hy : conc σ y = .it k b) (h : a = b) : FactOk σ (.bin .eql x y) (.bo true) := fact_int (z := .bo true) hx hy rfl trivial ⟨by decide, by decide⟩ (by simp [binInt, iEq_iff.2 h])
theorem f_ne (hx : conc σ x = .it k a) (hy : conc σ y = .it k b) (h : a ≠ b) : FactOk σ (.bin .eql x y) (.bo false) := fact_int (z := .bo false) hx hy rfl trivial ⟨by decide, by decide⟩ (by simp [binInt, iEq_no h])
theorem f_ge (hx : conc σ x = .it k a) (hy : conc σ y = .it k b) (h : b ≤ a) : FactOk σ (.bin .geq x y) (.bo true) := fact_int (z := .bo true) hx hy rfl trivial ⟨by decide, by decide⟩ (by simp [binInt, iLe_iff.2 h])
theorem iLe_no (h : b < a) : iLe a b = false := by
  cases e : iLe a b
  · rfl
  · exact absurd (iLe_iff.1 e) (by omega)
theorem f_nge (hx : conc σ x = .it k a) (hy : conc σ y = .it k b) (h : a < b) : FactOk σ (.bin .geq x y) (.bo false) := fact_int (z := .bo false) hx hy rfl trivial ⟨by decide, by decide⟩ (by simp [binInt, iLe_no h])
theorem f_le (hx : conc σ x = .it k a) (hy : conc σ y = .it k b) (h : a ≤ b) : FactOk σ (.bin .leq x y) (.bo true) := fact_int (z := .bo true) hx hy rfl trivial ⟨by decide, by decide⟩ (by simp [binInt, iLe_iff.2 h])
theorem f_add {m : Nat} (hx : conc σ x = .it k a) (hy : conc σ y = .it k b) (hm : σ m = .int k (a + b)) (h1 : kLo k ≤ a + b) (h2 : a + b ≤ kHi k) : FactOk σ (.bin .add x y) (.si k m) :=
  fact_int (z := .it k (a + b)) hx hy (by simp [conc, hm]) ⟨_, hm⟩ ⟨by decide, by decide⟩ (by simp [binInt, wr_in h1 h2])
theorem f_sub {m : Nat} (hx : conc σ x = .it k a) (hy : conc σ y = .it k b) (hm : σ m = .int k (a - b)) (h1 : kLo k ≤ a - b) (h2 : a - b ≤ kHi k) : FactOk σ (.bin .sub x y) (.si k m) :=
  fact_int (z := .it k (a - b)) hx hy (by simp [conc, hm]) ⟨_, hm⟩ ⟨by decide, by decide⟩ (by simp [binInt, wr_in h1 h2])
theorem f_rem {m : Nat} (hx : conc σ x = .it k a) (hy : conc σ y = .it k b) (hm : σ m = .int k (a.tmod b)) (h : b ≠ 0) : FactOk σ (.bin .rem x y) (.si k m) :=
  fact_int (z := .it k (a.tmod b)) hx hy (by simp [conc, hm]) ⟨_, hm⟩ ⟨by decide, by decide⟩ (by simp [binInt, iEq_no h])
theorem f_cvi {k' : IntKind} {m : Nat} (hx : conc σ x = .it k' a) (hm : σ m = .int k a) (h1 : kLo k ≤ a) (h2 : a ≤ kHi k) : FactOk σ (.cvi k x) (.si k m) :=
  ⟨⟨_, hm⟩, by show vCvi k (conc σ x) = some (conc σ (.si k m)); rw [hx]; simp [vCvi, conc, hm, wr_in h1 h2]⟩
end

/-! the walk -/
section
variable {w : World} {cs0 : List Frame}
def Laid (w : World) : Prop := ∀ σ, Rel Tryz.prog σ (gIo Tryz.prog gs) (gHp gs Tryz.prog.globals.size) w
theorem base {σ : Nat → Value} (h1 : ∀ m, (σ m).oneCell' = true) (hr : Laid w) {F : List (FQ × AV)} (hf : AllL (fun p => FactOk σ p.1 p.2) F) : Base Tryz.prog σ (T F) gs w :=
  ⟨depthOk, h1, mixedOk, tabOk, primOk h1 F, fcOk hf, gsInt, hr σ⟩
abbrev AT (w : World) (cs0 : List Frame) (σ : Nat → Value) (tm : Tm) (h : Hp) (a : Act) (cs : List Frame) (w' : World) : Prop := At Tryz.prog σ .normal cs0 (gIo Tryz.prog gs) (gHp gs Tryz.prog.globals.size) w Tryz.f3.ntmps LOCN tm [] h .no a cs w'
def Qf (w : World) (cs0 : List Frame) : PostX := fun e a cs w' => e = .ret ∧ ∃ σ tm h1, AT w cs0 σ tm h1 a cs w' ∧ fin R tm h1 = .ret (.bo true) h1
theorem tail {σ : Nat → Value} {F : List (FQ × AV)} {tm : Tm} {h : Hp} (he : okR R (evSsF (T F) (A.drop 18) tm [] h .no) = true) (B : Base Tryz.prog σ (T F) gs w) {a : Act} {cs : List Frame} {w' : World} (ha : AT w cs0 σ tm h a cs w') : WL Tryz.prog .normal (LC.drop 18) (Qf w cs0) a cs w' := by
  have := segR (rest := []) (Q := Qf w cs0) B (by rw [List.map_drop, hLC]) he ha (fun tm' h' a cs w h1 h2 => ⟨rfl, σ, tm', h', h1, h2⟩)
  rwa [List.append_nil] at this

abbrev s2 (t k i l : Int) : Nat → Value := sg t k (.int .u32 (l - 1)) i l
theorem s2_one {t k i l : Int} : ∀ m, (s2 t k i l m).oneCell' = true := sg_one rfl

theorem loop_of {n : Nat} (inv : Nat → Act → List Frame → World → Prop) (hstep : ∀ n a cs w', inv n a cs w' → WX Tryz.prog .normal bodyC (fun e a cs w' => match e with
      | .normal => ∃ m, m < n ∧ inv m a cs w'
      | .exit id' => id' = 0 ∧ WL Tryz.prog .normal (LC.drop 18) (Qf w cs0) a cs w'
      | _ => False) a cs w') {a : Act} {cs : List Frame} {w' : World} (h : inv n a cs w') : WL Tryz.prog .normal (.block 0 (.loop bodyC) :: LC.drop 18) (Qf w cs0) a cs w' :=
  WX_blockloop (Q := Exit.thenS (WL Tryz.prog .normal (LC.drop 18) (Qf w cs0)) (Qf w cs0)) inv hstep n a cs w' h

theorem loopP {t k l i : Int} (hr : Laid w) (hk : k.tmod 40 ≤ 39) (hi : 0 ≤ i) (hik : i ≤ k.tmod 40) {a : Act} {cs : List Frame} {w' : World} (ha : AT w cs0 (s2 t k i l) tP (mkH 36 oP) a cs w') : WL Tryz.prog .normal (.block 0 (.loop bodyC) :: LC.drop 18) (Qf w cs0) a cs w' := by
  refine loop_of (n := (k.tmod 40 - i).toNat) (fun n a cs w' => ∃ i : Int, 0 ≤ i ∧ i + n = k.tmod 40 ∧ AT w cs0 (s2 t k i l) tP (mkH 36 oP) a cs w') ?_ ⟨i, hi, by omega, ha⟩
  rintro n a cs w' ⟨i, hi, hn, ha⟩
  by_cases h : i < k.tmod 40
  · have B : Base Tryz.prog (s2 t k i l) (T fPc) gs w := base s2_one hr (And.intro (f_lt rfl rfl h) (And.intro (f_add rfl rfl rfl (by simp only [kLo]; omega) (by simp only [kHi]; omega)) trivial))
    have W : WkOk (s2 t k i l) (s2 t k (i + 1) l) wPc := wkOk (And.intro (pl_ss rfl) (And.intro (pl_ss rfl) (And.intro (pl_ss rfl) trivial)))
    exact bodyN B W hg9.symm hbodyC ePc ha fun a cs w' h => ⟨n - 1, by omega, i + 1, by omega, by omega, h⟩
  · have B : Base Tryz.prog (s2 t k i l) (T fPx) gs w := base s2_one hr (And.intro (f_nlt rfl rfl (by omega)) trivial)
    have W : WkOk (s2 t k i l) (s2 t k i l) wPx := wkOk (And.intro (pl_ss rfl) (And.intro (pl_ss rfl) trivial))
    exact bodyE B W hg9.symm hbodyC ePx ha fun a cs w' h => ⟨rfl, tail ePxt (base s2_one hr trivial) h⟩
theorem loopU {t k l i : Int} (hr : Laid w) (hk : k.tmod 40 ≤ 39) (hi : 0 ≤ i) (hik : i ≤ k.tmod 40) {a : Act} {cs : List Frame} {w' : World} (ha : AT w cs0 (s2 t k i l) tU (mkH 34 oU) a cs w') : WL Tryz.prog .normal (.block 0 (.loop bodyC) :: LC.drop 18) (Qf w cs0) a cs w' := by
  refine loop_of (n := (k.tmod 40 - i).toNat) (fun n a cs w' => ∃ i : Int, 0 ≤ i ∧ i + n = k.tmod 40 ∧ AT w cs0 (s2 t k i l) tU (mkH 34 oU) a cs w') ?_ ⟨i, hi, by omega, ha⟩
  rintro n a cs w' ⟨i, hi, hn, ha⟩
  by_cases h : i < k.tmod 40
  · have B : Base Tryz.prog (s2 t k i l) (T fUc) gs w := base s2_one hr (And.intro (f_lt rfl rfl h) (And.intro (f_add rfl rfl rfl (by simp only [kLo]; omega) (by simp only [kHi]; omega)) trivial))
    have W : WkOk (s2 t k i l) (s2 t k (i + 1) l) wUc := wkOk (And.intro (pl_ss rfl) (And.intro (pl_ss rfl) (And.intro (pl_ss rfl) trivial)))
    exact bodyN B W hg9.symm hbodyC eUc ha fun a cs w' h => ⟨n - 1, by omega, i + 1, by omega, by omega, h⟩
  · have B : Base Tryz.prog (s2 t k i l) (T fUx) gs w := base s2_one hr (And.intro (f_nlt rfl rfl (by omega)) trivial)
    have W : WkOk (s2 t k i l) (s2 t k i l) wUx := wkOk (And.intro (pl_ss rfl) (And.intro (pl_ss rfl) trivial))
    exact bodyE B W hg9.symm hbodyC eUx ha fun a cs w' h => ⟨rfl, tail eUxt (base s2_one hr trivial) h⟩
theorem loopA {t k l i : Int} (hr : Laid w) (hk : k.tmod 40 ≤ 39) (hn2 : t.tmod 30 ≤ 29) (hi : 0 ≤ i) (hl : 1 ≤ l) (hil : i + l = t.tmod 30) (hik : i ≤ k.tmod 40) {a : Act} {cs : List Frame} {w' : World} (ha : AT w cs0 (s2 t k i l) tA (mkH 34 oA) a cs w') : WL Tryz.prog .normal (.block 0 (.loop bodyC) :: LC.drop 18) (Qf w cs0) a cs w' := by
  refine loop_of (n := (k.tmod 40 - i).toNat) (fun n a cs w' => ∃ i : Int, 0 ≤ i ∧ i + n = k.tmod 40 ∧ ((∃ l : Int, 1 ≤ l ∧ i + l = t.tmod 30 ∧ AT w cs0 (s2 t k i l) tA (mkH 34 oA) a cs w') ∨ (1 ≤ t.tmod 30 ∧ t.tmod 30 ≤ i ∧ AT w cs0 (s2 t k i 0) tB (mkH 33 oB) a cs w'))) ?_ ⟨i, hi, by omega, .inl ⟨l, hl, hil, ha⟩⟩
  rintro n a cs w' ⟨i, hi, hn, ⟨l, hl, hil, ha⟩ | ⟨hn1, hin, ha⟩⟩
  · by_cases h : i < k.tmod 40
    · by_cases h1 : l = 1
      · subst h1
        have B : Base Tryz.prog (s2 t k i 1) (T fAe) gs w := base s2_one hr (And.intro (f_lt rfl rfl h) (And.intro (f_add rfl rfl rfl (by simp only [kLo]; omega) (by simp only [kHi]; omega)) (And.intro (f_ne rfl rfl (by omega)) (And.intro (f_ge rfl rfl (by omega)) (And.intro (f_le rfl rfl (by omega)) (And.intro (f_ne rfl rfl (by omega)) (And.intro (f_sub rfl rfl rfl (by simp only [kLo]; omega) (by simp only [kHi]; omega)) (And.intro (f_eq rfl rfl (by omega)) trivial))))))))
        have W : WkOk (s2 t k i 1) (s2 t k (i + 1) 0) wAe := wkOk (And.intro (pl_ss rfl) (And.intro (pl_ss rfl) (And.intro (pl_ss rfl) (And.intro (pl_si rfl) trivial))))
        exact bodyN B W hg9.symm hbodyC eAe ha fun a cs w' h => ⟨n - 1, by omega, i + 1, by omega, by omega, .inr ⟨by omega, by omega, h⟩⟩
      · have B : Base Tryz.prog (s2 t k i l) (T fAc) gs w := base s2_one hr (And.intro (f_lt rfl rfl h) (And.intro (f_add rfl rfl rfl (by simp only [kLo]; omega) (by simp only [kHi]; omega)) (And.intro (f_ne rfl rfl (by omega)) (And.intro (f_ge rfl rfl (by omega)) (And.intro (f_le rfl rfl (by omega)) (And.intro (f_ne rfl rfl (by omega)) (And.intro (f_sub rfl rfl rfl (by simp only [kLo]; omega) (by simp only [kHi]; omega)) (And.intro (f_ne rfl rfl (by omega)) trivial))))))))
        have W : WkOk (s2 t k i l) (s2 t k (i + 1) (l - 1)) wAc := wkOk (And.intro (pl_ss rfl) (And.intro (pl_ss rfl) (And.intro (pl_ss rfl) (And.intro (pl_ss rfl) trivial))))
        exact bodyN B W hg9.symm hbodyC eAc ha fun a cs w' h => ⟨n - 1, by omega, i + 1, by omega, by omega, .inl ⟨l - 1, by omega, by omega, h⟩⟩
    · have B : Base Tryz.prog (s2 t k i l) (T fAx) gs w := base s2_one hr (And.intro (f_nlt rfl rfl (by omega)) trivial)
      have W : WkOk (s2 t k i l) (s2 t k i l) wAx := wkOk (And.intro (pl_ss rfl) (And.intro (pl_ss rfl) (And.intro (pl_ss rfl) trivial)))
      have B2 : Base Tryz.prog (s2 t k i l) (T fAxt) gs w := base s2_one hr (And.intro (f_gt rfl rfl (by omega)) (And.intro (f_cvi rfl rfl (by simp only [kLo]; omega) (by simp only [kHi]; omega)) (And.intro (f_nge rfl rfl (by omega)) (And.intro (f_ne rfl rfl (by omega)) (And.intro (f_ge rfl rfl (by omega)) (And.intro (f_le rfl rfl (by omega)) trivial))))))
      exact bodyE B W hg9.symm hbodyC eAx ha fun a cs w' h => ⟨rfl, tail eAxt B2 h⟩
  · by_cases h : i < k.tmod 40
    · have B : Base Tryz.prog (s2 t k i 0) (T fBc) gs w := base s2_one hr (And.intro (f_lt rfl rfl h) (And.intro (f_add rfl rfl rfl (by simp only [kLo]; omega) (by simp only [kHi]; omega)) trivial))
      have W : WkOk (s2 t k i 0) (s2 t k (i + 1) 0) wBc := wkOk (And.intro (pl_ss rfl) (And.intro (pl_ss rfl) (And.intro (pl_ss rfl) trivial)))
      exact bodyN B W hg9.symm hbodyC eBc ha fun a cs w' h => ⟨n - 1, by omega, i + 1, by omega, by omega, .inr ⟨hn1, by omega, h⟩⟩
    · have B : Base Tryz.prog (s2 t k i 0) (T fBx) gs w := base s2_one hr (And.intro (f_nlt rfl rfl (by omega)) trivial)
      have W : WkOk (s2 t k i 0) (s2 t k i 0) wBx := wkOk (And.intro (pl_ss rfl) (And.intro (pl_ss rfl) trivial))
      have B2 : Base Tryz.prog (s2 t k i 0) (T fBxt) gs w := base s2_one hr (And.intro (f_gt rfl rfl (by omega)) (And.intro (f_cvi rfl rfl (by simp only [kLo]; omega) (by simp only [kHi]; omega)) (And.intro (f_ge rfl rfl (by omega)) trivial)))
      exact bodyE B W hg9.symm hbodyC eBx ha fun a cs w' h => ⟨rfl, tail eBxt B2 h⟩
def idR : List (Nat × Nat) := (List.range 25).map fun i => (9 + i, 9 + i)
def wn (b : Bool) : Wk := ⟨[(.si .u32 3, .si .u32 3), (.si .i64 5, .si .i64 5), (.atom 9, .bo b)], idR, 9⟩
def wz (b : Bool) : Wk := ⟨[(.si .u32 3, .it .u32 0), (.si .i64 5, .si .i64 5), (.atom 9, .bo b)], idR, 9⟩
def st1 (x : AV) (b : Bool) : Tm := (tS1.set 7 (some x)).set 2 (some (.bo b))
theorem cn1 : leS (wn true) tS1 (st1 (.si .u32 3) true) (mkH 34 oS1) oS1 34 = true := by kernel_rfl
theorem cn0 : leS (wn false) tS1 (st1 (.si .u32 3) false) (mkH 34 oS1) oS1 34 = true := by kernel_rfl
theorem cz1 : leS (wz true) tS1 (st1 (.it .u32 0) true) (mkH 34 oS1) oS1 34 = true := by kernel_rfl
theorem cz0 : leS (wz false) tS1 (st1 (.it .u32 0) false) (mkH 34 oS1) oS1 34 = true := by kernel_rfl
theorem splitLC : LC = LC.take 9 ++ ((LC.drop 9).take 8 ++ (.block 0 (.loop bodyC) :: LC.drop 18)) := by
  rw [← h17, show LC.drop 17 = (LC.drop 9).drop 8 from by rw [List.drop_drop], List.take_append_drop, List.take_append_drop]
theorem hal2 : ((LC.drop 9).take 8).map (cC Tryz.prog Tryz.f3.ntmps LOCN) = (A.drop 9).take 8 := by rw [List.map_take, List.map_drop, hLC]
theorem walk {t k : Int} {p : Bool} (ht : 0 ≤ t ∧ t ≤ 255) (hk : 0 ≤ k ∧ k ≤ 255) (hr : Laid w) : Calls Tryz.prog 3 #[.int .u8 t, .int .u8 k, .bool p] w fun e w' => e = .returned (.bool true) ∧ Below w.heap.size w w' := by
  refine law_calls (ars := R) (gs := gs) (ι0 := gIo Tryz.prog gs) (loc := LOCN) Tryz.func3 hBC hres fun cs0 => ?_
  have hk0 : 0 ≤ k.tmod 40 := Int.tmod_nonneg 40 hk.1
  have hk1 : k.tmod 40 ≤ 39 := by have := Int.tmod_lt_of_pos k (b := 40) (by omega); omega
  have ht0 : 0 ≤ t.tmod 30 := Int.tmod_nonneg 30 ht.1
  have ht1 : t.tmod 30 ≤ 29 := by have := Int.tmod_lt_of_pos t (b := 30) (by omega); omega
  have o0 : ∀ m, (sg t k (.bool p) 0 0 m).oneCell' = true := sg_one rfl
  have a0 := At_start (f := 3) (σ := sg t k (.bool p) 0 0) (args := [.si .u8 0, .si .u8 1, .atom 9]) (vargs := #[.int .u8 t, .int .u8 k, .bool p]) hcf (hr _)
    ⟨_, _, rfl, by simp [VR, sg], _, _, rfl, by simp [VR, sg], _, _, rfl, by simp [VR, sg], by simp [VRs]⟩ rfl cs0
  rw [hgh] at a0
  show WL Tryz.prog .normal LC (Qf w cs0) _ _ _
  rw [splitLC]
  have B1 : Base Tryz.prog (sg t k (.bool p) 0 0) (T f1) gs w := base o0 hr (And.intro (f_cvi rfl rfl (by simp only [kLo]; omega) (by simp only [kHi]; omega)) (And.intro (f_rem rfl rfl rfl (by omega)) (And.intro (f_cvi rfl rfl (by simp only [kLo]; omega) (by simp only [kHi]; omega)) (And.intro (f_rem rfl rfl rfl (by omega)) trivial))))
  have W1 : WkOk (sg t k (.bool p) 0 0) (sg t k (.bool p) 0 0) w1 := wkOk (And.intro (pl_ss rfl) (And.intro (pl_ss rfl) (And.intro (pl_aa rfl) trivial)))
  rw [← hgh] at a0
  refine seg B1 W1 hg9.symm (by rw [List.map_take, hLC]) (by rw [hgh]; exact e1) a0 fun a cs w' a1 => ?_
  have go : ∀ {σ σ' : Nat → Value} {F : List (FQ × AV)} {wk : Wk} {tm tm' : Tm} {h : Hp} {ol : List (Nat × AObj)} {next : Nat} (_ : Base Tryz.prog σ (T F) gs w) (_ : WkOk σ σ' wk) (_ : wk.g = 9) (_ : okN wk tm' ol next (evSsF (T F) ((A.drop 9).take 8) tm [] h .no) = true) (_ : AT w cs0 σ tm h a cs w')
      (_ : ∀ a cs w', AT w cs0 σ' tm' (mkH next ol) a cs w' → WL Tryz.prog .normal (.block 0 (.loop bodyC) :: LC.drop 18) (Qf w cs0) a cs w'), WL Tryz.prog .normal ((LC.drop 9).take 8 ++ (.block 0 (.loop bodyC) :: LC.drop 18)) (Qf w cs0) a cs w' :=
    fun B W hg he ha hh => seg B W (by rw [hg, hg9]) hal2 he ha hh
  by_cases hz : t.tmod 30 = 0
  · cases p with
    | true =>
      have W2 : WkOk (sg t k (.bool true) 0 0) (s2 t k 0 0) (wz true) := wkOk (And.intro (pl_si (by show Value.int .u32 (t.tmod 30) = _; rw [hz])) (And.intro (pl_ss rfl) (And.intro (pl_ab rfl) trivial)))
      have a2 := B1.weak W2 hg9.symm a1 cz1
      have W3 : WkOk (s2 t k 0 0) (s2 t k 0 0) wP0 := wkOk (And.intro (pl_is (by show Value.int .u32 (t.tmod 30) = _; rw [hz])) (And.intro (pl_ss rfl) (And.intro (pl_is rfl) trivial)))
      have B3 : Base Tryz.prog (s2 t k 0 0) (T fP0) gs w := base s2_one hr trivial
      exact go B3 W3 rfl eP0 a2 fun a cs w' h => loopP hr hk1 (by omega) hk0 h
    | false =>
      have W2 : WkOk (sg t k (.bool false) 0 0) (s2 t k 0 0) (wz false) := wkOk (And.intro (pl_si (by show Value.int .u32 (t.tmod 30) = _; rw [hz])) (And.intro (pl_ss rfl) (And.intro (pl_ab rfl) trivial)))
      have a2 := B1.weak W2 hg9.symm a1 cz0
      have W3 : WkOk (s2 t k 0 0) (s2 t k 0 0) wU0 := wkOk (And.intro (pl_ss rfl) (And.intro (pl_is rfl) trivial))
      have B3 : Base Tryz.prog (s2 t k 0 0) (T fU0) gs w := base s2_one hr trivial
      exact go B3 W3 rfl eU0 a2 fun a cs w' h => loopU hr hk1 (by omega) hk0 h
  · cases p with
    | true =>
      have W2 : WkOk (sg t k (.bool true) 0 0) (s2 t k 0 0) (wn true) := wkOk (And.intro (pl_ss rfl) (And.intro (pl_ss rfl) (And.intro (pl_ab rfl) trivial)))
      have a2 := B1.weak W2 hg9.symm a1 cn1
      have W3 : WkOk (s2 t k 0 0) (s2 t k 0 0) wP1 := wkOk (And.intro (pl_ss rfl) (And.intro (pl_ss rfl) (And.intro (pl_is rfl) trivial)))
      have B3 : Base Tryz.prog (s2 t k 0 0) (T fP1) gs w := base s2_one hr (And.intro (f_ne rfl rfl (by omega)) (And.intro (f_ge rfl rfl (by omega)) (And.intro (f_le rfl rfl (by omega)) trivial)))
      exact go B3 W3 rfl eP1 a2 fun a cs w' h => loopP hr hk1 (by omega) hk0 h
    | false =>
      have W2 : WkOk (sg t k (.bool false) 0 0) (s2 t k 0 (t.tmod 30)) (wn false) := wkOk (And.intro (pl_ss rfl) (And.intro (pl_ss rfl) (And.intro (pl_ab rfl) trivial)))
      have a2 := B1.weak W2 hg9.symm a1 cn0
      have W3 : WkOk (s2 t k 0 (t.tmod 30)) (s2 t k 0 (t.tmod 30)) wA1 := wkOk (And.intro (pl_ss rfl) (And.intro (pl_ss rfl) (And.intro (pl_ss rfl) (And.intro (pl_is rfl) trivial))))
      have B3 : Base Tryz.prog (s2 t k 0 (t.tmod 30)) (T fA1) gs w := base s2_one hr (And.intro (f_ne rfl rfl (by omega)) (And.intro (f_ge rfl rfl (by omega)) (And.intro (f_le rfl rfl (by omega)) trivial)))
      exact go B3 W3 rfl eA1 a2 fun a cs w' h => loopA hr hk1 ht1 (by omega) (by omega) (by omega) hk0 h
end
end Go.Ev.Tb
