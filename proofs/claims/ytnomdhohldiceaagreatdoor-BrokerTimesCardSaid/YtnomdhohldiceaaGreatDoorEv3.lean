/-
  EvW1 .. EvW4: a part of the proof of BrokerTimesCardSaid: an evaluator of the program's form over partly known values, proved sound against the model, and its runs. Conditions: none beyond the given row.
-/
import Derived.Test.YtnomdhohldiceaaGreatDoorEv2
import Derived.Below
import Derived.Test.YtnomdhohldiceaaGreatDoorEv1
import Derived.Lib.Bytealg
import Derived.Lib.Repeat
import Derived.Lib.Join
import Derived.Lib.LaidU8
namespace Go.Ev
open Go

/-! statements one behind the other -/
def seqL : Code → List Code
  | .seq a b => seqL a ++ seqL b
  | c => [c]
def WL (P : Program) (κ : Kd) : List Code → PostX → Act → List Frame → World → Prop
  | [], Q, a, cs, w => Q .normal a cs w
  | c :: l, Q, a, cs, w => WX P κ c (Exit.thenS (WL P κ l Q) Q) a cs w
/-- several in one -/
def evSs (call : CallF) (fc : Fct) : List AC → Tm → Ds → Hp → RS → R3
  | [], tm, ds, h, rs => .nrm tm ds h rs
  | c :: l, tm, ds, h, rs => match evC call fc c tm ds h rs with
    | .nrm tm ds h rs => evSs call fc l tm ds h rs
    | r => r

section
variable {P : Program} {σ : Nat → Value} {κ : Kd} {C : List Frame} {ι0 : Io} {h0 : Hp} {w0 : World} {N loc : Nat} {Q : PostX}

theorem WL_mono {Q' : PostX} (hq : ∀ e a cs w, Q e a cs w → Q' e a cs w) : ∀ {l : List Code} {a : Act} {cs : List Frame} {w : World}, WL P κ l Q a cs w → WL P κ l Q' a cs w := by
  intro l
  induction l with
  | nil => intro a cs w h; exact hq _ _ _ _ h
  | cons c l ih =>
    intro a cs w h
    refine WX_mono h fun e a cs w he => ?_
    cases e <;> first | exact ih he | exact hq _ _ _ _ he
theorem WL_append {l1 l2 : List Code} {a : Act} {cs : List Frame} {w : World} : WL P κ (l1 ++ l2) Q a cs w ↔ WL P κ l1 (Exit.thenS (WL P κ l2 Q) Q) a cs w := by
  induction l1 generalizing a cs w with
  | nil => exact Iff.rfl
  | cons c l ih =>
    constructor
    · intro h
      refine WX_mono h fun e a cs w he => ?_
      cases e <;> first | exact ih.1 he | exact he
    · intro h
      refine WX_mono h fun e a cs w he => ?_
      cases e <;> first | exact ih.2 he | exact he
theorem WX_of_WL : ∀ {c : Code} {Q : PostX} {a : Act} {cs : List Frame} {w : World}, WL P κ (seqL c) Q a cs w → WX P κ c Q a cs w := by
  intro c
  have one : ∀ {c : Code} {Q : PostX} {a : Act} {cs : List Frame} {w : World}, WL P κ [c] Q a cs w → WX P κ c Q a cs w := by
    intro c Q a cs w h
    refine WX_mono h fun e a cs w he => ?_
    cases e <;> exact he
  induction c with
  | seq x y ihx ihy =>
    intro Q a cs w h
    simp only [seqL] at h
    rw [WL_append] at h
    refine WX_seq (WX_mono (ihx h) fun e a cs w he => ?_)
    cases e <;> first | exact ihy he | exact he
  | _ => intro Q a cs w h; exact one h

/-- where the evaluator is -/
def At (P : Program) (σ : Nat → Value) (κ : Kd) (C : List Frame) (ι0 : Io) (h0 : Hp) (w0 : World) (N loc : Nat) (tm : Tm) (ds : Ds) (h : Hp) (rs : RS) (a : Act) (cs : List Frame) (w : World) : Prop :=
  ∃ ι, StR P σ κ C ι0 h0 w0 N loc tm ds h rs a cs w ι ∧ TmR σ ι tm a.tmps

theorem evSs_ok (hP : 40 ≤ P.depth) (hσ : ∀ m, (σ m).oneCell' = true) (hm : P.follows .mixedOrders = true) {call : CallF} (hcall : CallOk P σ call) {fc : Fct} (hfc : FcOk σ fc) (hR0 : Rel P σ ι0 h0 w0) :
    ∀ (l : List Code) (tm : Tm) (ds : Ds) (h : Hp) (rs : RS) (a : Act) (cs : List Frame) (w : World) (r : R3), r ≠ .no → At P σ κ C ι0 h0 w0 N loc tm ds h rs a cs w →
      evSs call fc (l.map (cC P N loc)) tm ds h rs = r → WL P κ l (OutR P σ κ C ι0 h0 w0 N loc r) a cs w := by
  intro l
  induction l with
  | nil =>
    intro tm ds h rs a cs w r hr ha he
    simp only [List.map_nil, evSs] at he
    subst he
    exact ha
  | cons c l ih =>
    intro tm ds h rs a cs w r hr ha he
    obtain ⟨ι, hs, ht⟩ := ha
    simp only [List.map_cons, evSs] at he
    generalize hx : evC call fc (cC P N loc c) tm ds h rs = rx at he
    have hW := fun hrx => evC_ok hP hσ hm hcall hfc (draw_ok hP hσ hcall hfc) hR0 c tm ds h rs a cs w ι rx hrx hs ht hx
    cases rx with
    | no => simp only at he; exact absurd he.symm hr
    | nrm tm1 ds1 h1 rs1 =>
      simp only at he
      refine WX_mono (hW (by simp)) fun e a1 cs1 w1 hq => ?_
      cases e <;> first
        | exact ih tm1 ds1 h1 rs1 a1 cs1 w1 r hr hq he
        | exact hq.elim
    | ex id tm1 ds1 h1 rs1 =>
      simp only at he; subst he
      refine WX_mono (hW (by simp)) fun e a1 cs1 w1 hq => ?_
      cases e <;> first | exact hq | exact hq.elim
    | rt tm1 ds1 h1 rs1 =>
      simp only at he; subst he
      refine WX_mono (hW (by simp)) fun e a1 cs1 w1 hq => ?_
      cases e <;> first | exact hq | exact hq.elim
    | pn v tm1 ds1 h1 rs1 =>
      simp only at he; subst he
      refine WX_mono (hW (by simp)) fun e a1 cs1 w1 hq => ?_
      cases e <;> first | exact hq | exact hq.elim

/-- a loop in its block, by a measure -/
theorem WX_blockloop {id : Nat} {body : Code} (inv : Nat → Act → List Frame → World → Prop)
    (hstep : ∀ n a cs w, inv n a cs w → WX P κ body (fun e a cs w => match e with
      | .normal => ∃ m, m < n ∧ inv m a cs w
      | .exit id' => id' = id ∧ Q .normal a cs w
      | _ => False) a cs w) :
    ∀ n a cs w, inv n a cs w → WX P κ (.block id (.loop body)) Q a cs w := by
  intro n a cs w h
  refine WX_block (WX_loop ?_)
  induction n using Nat.strongRecOn generalizing a cs w with
  | ind n ih =>
    refine LX_round (WX_mono (hstep n a cs w h) fun e a cs w he => ?_)
    cases e with
    | normal => obtain ⟨m, hm, hi⟩ := he; exact ih m hm a cs w hi
    | exit id' =>
      obtain ⟨rfl, hq⟩ := he
      show (if id' = id' then Q .normal a cs w else _)
      rw [if_pos rfl]; exact hq
    | goto l => exact he.elim
    | ret => exact he.elim
    | panic ch => exact he.elim
    | outgrown => exact he.elim

/-! a state, seen with less -/
/-- leaves that may be seen otherwise; objects, by new numbers (new, old); numbers below g stay -/
structure Wk where
  mp : List (AV × AV)
  rn : List (Nat × Nat)
  g : Nat
def wkHas (mp : List (AV × AV)) (x y : AV) : Bool := mp.any fun p => AV.same p.1 x && AV.same p.2 y
def lookR (n : Nat) : List (Nat × Nat) → Option Nat
  | [] => none
  | (a, b) :: l => match Nat.beq a n with | true => some b | false => lookR n l
def Wk.id (wk : Wk) (n : Nat) : Option Nat := match Nat.blt n wk.g with | true => some n | false => lookR n wk.rn
def idOk (wk : Wk) (o n : Nat) : Bool := match wk.id n with | some o' => Nat.beq o o' | none => false
def AV.isAt : AV → Bool
  | .si _ _ | .ss _ | .atom _ | .pt _ _ | .sl _ _ _ _ _ | .mp _ | .yl _ => true
  | _ => false
/-- a slice's room, seen with less; an empty one's place too -/
def slOk (o l c e o' c' e' : Nat) : Bool := (Nat.beq o o' && Nat.beq c c' && Nat.beq e e') || (Nat.beq l 0 && Nat.beq c' 0 && !Nat.beq e' 0 && ((Nat.beq o o' && Nat.beq e e') || (Nat.beq e 0 && Nat.beq c 0)))
mutual
def leV (wk : Wk) : AV → AV → Bool
  | .ag a, .ag b => leVs wk a b
  | .tu a, .tu b => leVs wk a b
  | .fn f a b, .fn f' a' b' => Nat.beq f f' && leVs wk a a' && leVs wk b b'
  | .ifc t x, .ifc t' y => Nat.beq t t' && leV wk x y
  | .pt i o, .pt i' o' => idOk wk i i' && Nat.beq o o'
  | .sl i o l c e, .sl i' o' l' c' e' => idOk wk i i' && Nat.beq l l' && slOk o l c e o' c' e'
  | .mp i, .mp i' => idOk wk i i'
  | .yl i, .yl i' => idOk wk i i'
  | x, y => (AV.same x y && !AV.isAt x) || wkHas wk.mp x y
def leVs (wk : Wk) : List AV → List AV → Bool
  | [], [] => true
  | x :: a, y :: b => leV wk x y && leVs wk a b
  | _, _ => false
end
/-- the leaves are so -/
def WkOk (σ σ' : Nat → Value) (wk : Wk) : Prop := ∀ x y, (x, y) ∈ wk.mp → (∀ (ι ι' : Io) v, VR σ ι 0 x v → VR σ' ι' 0 y v) ∧ (x.one = true → y.one = true)
def Wk.io (wk : Wk) (ι : Io) : Io := ⟨fun n => match wk.id n with | some o => ι o | none => ι n, fun n => ∃ o, wk.id n = some o ∧ ι.d o⟩
theorem idOk_iff {wk : Wk} {o n : Nat} (h : idOk wk o n = true) : wk.id n = some o := by
  unfold idOk at h
  split at h
  · rename_i o' e; rw [Nat.beq_eq] at h; rw [e, h]
  · cases h
theorem io_ok {wk : Wk} {ι : Io} {o n : Nat} (h : wk.id n = some o) (hd : ι.d o) : (wk.io ι).d n ∧ (wk.io ι) n = ι o := by
  refine ⟨⟨o, h, hd⟩, ?_⟩
  show (match wk.id n with | some o => ι.f o | none => ι.f n) = ι.f o
  rw [h]
theorem wkHas_iff {mp : List (AV × AV)} {x y : AV} (h : wkHas mp x y = true) : (x, y) ∈ mp := by
  unfold wkHas at h
  rw [List.any_eq_true] at h
  obtain ⟨p, h1, h2⟩ := h
  rw [Bool.and_eq_true] at h2
  have e1 := same_eq _ _ h2.1
  have e2 := same_eq _ _ h2.2
  obtain ⟨a, b⟩ := p
  simp only at e1 e2; subst e1; subst e2; exact h1
theorem VR_noat {σ' : Nat → Value} {ι ι' : Io} {n : Nat} {x : AV} {v : Value} (h : VR σ ι n x v) (hx : x.isAt = false) (h1 : ∀ a, x ≠ .ag a) (h2 : ∀ a, x ≠ .tu a) (h3 : ∀ f a b, x ≠ .fn f a b) (h4 : ∀ t y, x ≠ .ifc t y) : VR σ' ι' n x v := by
  cases x <;> simp only [AV.isAt, Bool.true_eq_false] at hx <;> first
    | exact absurd rfl (h1 _)
    | exact absurd rfl (h2 _)
    | exact absurd rfl (h3 _ _ _)
    | exact absurd rfl (h4 _ _)
    | (simp only [VR] at h ⊢ <;> exact h)
section
variable {σ' : Nat → Value} {wk : Wk}
theorem le_leaf (hm : WkOk σ σ' wk) {ι : Io} {x y : AV} (h : ((AV.same x y && !AV.isAt x) || wkHas wk.mp x y) = true) (h1 : ∀ a, x ≠ .ag a) (h2 : ∀ a, x ≠ .tu a) (h3 : ∀ f a b, x ≠ .fn f a b) (h4 : ∀ t y, x ≠ .ifc t y) : (∀ v, VR σ ι 0 x v → VR σ' (wk.io ι) 0 y v) ∧ (x.one = true → y.one = true) := by
  simp only [Bool.or_eq_true, Bool.and_eq_true, Bool.not_eq_true'] at h
  rcases h with ⟨h, h5⟩ | h
  · have e := same_eq _ _ h
    subst e
    exact ⟨fun v hv => VR_noat hv h5 h1 h2 h3 h4, fun h => h⟩
  · exact ⟨fun v hv => (hm _ _ (wkHas_iff h)).1 ι _ v hv, (hm _ _ (wkHas_iff h)).2⟩
theorem le_has (hm : WkOk σ σ' wk) {ι : Io} {x y : AV} (h : ((AV.same x y && !AV.isAt x) || wkHas wk.mp x y) = true) (hne : x ≠ y) : (∀ v, VR σ ι 0 x v → VR σ' (wk.io ι) 0 y v) ∧ (x.one = true → y.one = true) := by
  simp only [Bool.or_eq_true, Bool.and_eq_true, Bool.not_eq_true'] at h
  rcases h with ⟨h, h5⟩ | h
  · exact absurd (same_eq _ _ h) hne
  · exact ⟨fun v hv => (hm _ _ (wkHas_iff h)).1 ι _ v hv, (hm _ _ (wkHas_iff h)).2⟩
mutual
theorem leV_ok (hm : WkOk σ σ' wk) {ι : Io} : ∀ (x y : AV), leV wk x y = true → (∀ v, VR σ ι 0 x v → VR σ' (wk.io ι) 0 y v) ∧ (x.one = true → y.one = true)
  | .ag a, y, h => by
    cases y
    case ag b =>
      simp only [leV] at h
      refine ⟨fun v hv => ?_, fun h => by cases h⟩
      simp only [VR] at hv ⊢
      obtain ⟨xs, e, h1, h2⟩ := hv
      exact ⟨xs, e, (leVs_ok hm (ι := ι) a b h).1 _ h1, (leVs_ok hm (ι := ι) a b h).2 h2⟩
    all_goals (simp only [leV] at h; exact le_has hm h (by simp))
  | .tu a, y, h => by
    cases y
    case tu b =>
      simp only [leV] at h
      refine ⟨fun v hv => ?_, fun h => by cases h⟩
      simp only [VR] at hv ⊢
      obtain ⟨xs, e, h1⟩ := hv
      exact ⟨xs, e, (leVs_ok hm (ι := ι) a b h).1 _ h1⟩
    all_goals (simp only [leV] at h; exact le_has hm h (by simp))
  | .fn f a b, y, h => by
    cases y
    case fn f' a' b' =>
      simp only [leV, Bool.and_eq_true, Nat.beq_eq] at h
      obtain ⟨⟨rfl, h1⟩, h2⟩ := h
      refine ⟨fun v hv => ?_, fun _ => rfl⟩
      simp only [VR] at hv ⊢
      obtain ⟨va, bs, e, h3, h4⟩ := hv
      exact ⟨va, bs, e, (leVs_ok hm (ι := ι) a a' h1).1 _ h3, (leVs_ok hm (ι := ι) b b' h2).1 _ h4⟩
    all_goals (simp only [leV] at h; exact le_has hm h (by simp))
  | .ifc t x, y, h => by
    cases y
    case ifc t' y =>
      simp only [leV, Bool.and_eq_true, Nat.beq_eq] at h
      obtain ⟨rfl, h1⟩ := h
      refine ⟨fun v hv => ?_, fun _ => rfl⟩
      simp only [VR] at hv ⊢
      obtain ⟨u, e, h3⟩ := hv
      exact ⟨u, e, (leV_ok hm (ι := ι) x y h1).1 _ h3⟩
    all_goals (simp only [leV] at h; exact le_has hm h (by simp))
  | .pt i o, y, h => by
    cases y
    case pt i' o' =>
      simp only [leV, Bool.and_eq_true, Nat.beq_eq] at h
      obtain ⟨h1, rfl⟩ := h
      refine ⟨fun v hv => ?_, fun _ => rfl⟩
      simp only [VR] at hv ⊢
      obtain ⟨k1, k2⟩ := io_ok (ι := ι) (idOk_iff h1) hv.1
      rw [k2]; exact ⟨k1, hv.2⟩
    all_goals (simp only [leV] at h; exact le_has hm h (by simp))
  | .sl i o l c e, y, h => by
    cases y
    case sl i' o' l' c' e' =>
      simp only [leV, Bool.and_eq_true, Nat.beq_eq] at h
      obtain ⟨⟨h1, rfl⟩, h2⟩ := h
      refine ⟨fun v hv => ?_, fun _ => rfl⟩
      simp only [VR] at hv ⊢
      obtain ⟨hd, o1, cap, rfl, q1, q2, q3⟩ := hv
      obtain ⟨k1, k2⟩ := io_ok (ι := ι) (idOk_iff h1) hd
      rw [k2]
      refine ⟨k1, o1, cap, rfl, ?_⟩
      unfold slOk at h2
      rw [Bool.or_eq_true] at h2
      rcases h2 with h2 | h2
      · rw [Bool.and_eq_true, Bool.and_eq_true, Nat.beq_eq, Nat.beq_eq, Nat.beq_eq] at h2
        obtain ⟨⟨rfl, rfl⟩, rfl⟩ := h2
        exact ⟨q1, q2, q3⟩
      · simp only [Bool.and_eq_true, Bool.or_eq_true, Bool.not_eq_true', Nat.beq_eq] at h2
        obtain ⟨⟨⟨rfl, rfl⟩, he⟩, h3⟩ := h2
        have he' : e' ≠ 0 := fun h => by subst h; simp at he
        rcases h3 with ⟨rfl, rfl⟩ | ⟨rfl, rfl⟩
        · exact ⟨Nat.zero_le _, fun h => absurd h he', q3⟩
        · have : cap = 0 := q2 rfl
          exact ⟨Nat.zero_le _, fun h => absurd h he', .inr ⟨rfl, this⟩⟩
    all_goals (simp only [leV] at h; exact le_has hm h (by simp))
  | .mp i, y, h => by
    cases y
    case mp i' =>
      simp only [leV] at h
      refine ⟨fun v hv => ?_, fun _ => rfl⟩
      simp only [VR] at hv ⊢
      obtain ⟨k1, k2⟩ := io_ok (ι := ι) (idOk_iff h) hv.1
      rw [k2]; exact ⟨k1, hv.2⟩
    all_goals (simp only [leV] at h; exact le_has hm h (by simp))
  | .yl i, y, h => by
    cases y
    case yl i' =>
      simp only [leV] at h
      refine ⟨fun v hv => ?_, fun _ => rfl⟩
      simp only [VR] at hv ⊢
      obtain ⟨k1, k2⟩ := io_ok (ι := ι) (idOk_iff h) hv.1
      rw [k2]; exact ⟨k1, hv.2⟩
    all_goals (simp only [leV] at h; exact le_has hm h (by simp))
  | .bo _, y, h | .it _ _, y, h | .st _ _, y, h | .si _ _, y, h | .ss _, y, h | .npt, y, h | .nsl, y, h | .nmp, y, h | .nfn, y, h | .nif, y, h | .atom _, y, h | .bot, y, h => by
    simp only [leV] at h
    exact le_leaf hm h (by simp) (by simp) (by simp) (by simp)
theorem leVs_ok (hm : WkOk σ σ' wk) {ι : Io} : ∀ (x y : List AV), leVs wk x y = true → (∀ v, VRs σ ι 0 x v → VRs σ' (wk.io ι) 0 y v) ∧ (x.all AV.one = true → y.all AV.one = true)
  | [], y, h => by
    cases y with
    | nil => exact ⟨fun v hv => by simpa [VRs] using hv, fun h => h⟩
    | cons => simp [leVs] at h
  | x :: a, y, h => by
    cases y with
    | nil => simp [leVs] at h
    | cons y b =>
      simp only [leVs, Bool.and_eq_true] at h
      refine ⟨fun v hv => ?_, fun hx => ?_⟩
      · simp only [VRs] at hv ⊢
        obtain ⟨u, ws, e, h1, h2⟩ := hv
        exact ⟨u, ws, e, (leV_ok hm (ι := ι) x y h.1).1 _ h1, (leVs_ok hm (ι := ι) a b h.2).1 _ h2⟩
      · simp only [List.all_cons, Bool.and_eq_true] at hx ⊢
        exact ⟨(leV_ok hm (ι := ι) x y h.1).2 hx.1, (leVs_ok hm (ι := ι) a b h.2).2 hx.2⟩
end
end
def leE (wk : Wk) : List (AV × AV × Nat) → List (AV × AV × Nat) → Bool
  | [], [] => true
  | (k, x, b) :: l, (k', x', b') :: l' => leV wk k k' && leV wk x x' && Nat.beq b b' && leE wk l l'
  | _, _ => false
def bEq : Bool → Bool → Bool
  | true, true | false, false => true
  | _, _ => false
/-- the first cells -/
def leP (wk : Wk) : List AV → List AV → Bool
  | _, [] => true
  | x :: a, y :: b => leV wk x y && leP wk a b
  | [], _ :: _ => false
def leO (wk : Wk) : AObj → AObj → Bool
  | .cells ro l, .cells ro' l' => bEq ro ro' && leP wk l l'
  | .map es c, .map es' c' => Nat.beq c c' && leE wk es es'
  | _, _ => false
/-- slots -/
def leT (wk : Wk) : Tm → Tm → Bool
  | _, .e => true
  | .e, .n v l r => v.isNone && leT wk .e l && leT wk .e r
  | .n v l r, .n v' l' r' => (match v', v with | none, _ => true | some y, some x => leV wk x y | some _, none => false) && leT wk l l' && leT wk r r'
theorem leT_ok {wk : Wk} : ∀ (t' t : Tm), leT wk t t' = true → ∀ k y, t'.get k = some y → ∃ x, t.get k = some x ∧ leV wk x y = true := by
  intro t'
  induction t' with
  | e => intro t _ k y h; simp [Tr.get] at h
  | n v' l' r' ihl ihr =>
    intro t h k y hy
    cases t with
    | e =>
      simp only [leT, Bool.and_eq_true] at h
      exfalso
      have key : ∀ (t : Tm), leT wk .e t = true → ∀ k y, t.get k ≠ some y := by
        intro t
        induction t with
        | e => intro _ k y; simp [Tr.get]
        | n v l r il ir =>
          intro h k y hy
          simp only [leT, Bool.and_eq_true] at h
          cases k with
          | zero =>
            simp only [Tr.get] at hy
            rw [hy] at h; simp at h
          | succ k =>
            simp only [Tr.get] at hy
            split at hy
            · exact il h.1.2 _ _ hy
            · exact ir h.2 _ _ hy
      exact key (.n v' l' r') (by simp only [leT, Bool.and_eq_true]; exact h) k y hy
    | n v l r =>
      simp only [leT, Bool.and_eq_true] at h
      cases k with
      | zero =>
        simp only [Tr.get] at hy ⊢
        rw [hy] at h
        cases v with
        | none => simp at h
        | some x => exact ⟨x, rfl, h.1.1⟩
      | succ k =>
        simp only [Tr.get] at hy ⊢
        generalize Nat.mod k 2 = q at hy ⊢
        cases q with
        | zero => exact ihl l h.1.2 _ _ hy
        | succ q => exact ihr r h.2 _ _ hy
/-- objects: of a row (number, object), each is, by its old number, at least so much in the heap -/
def leH (wk : Wk) (h : Hp) : List (Nat × AObj) → Bool
  | [] => true
  | (n, o) :: l => (match wk.id n with | some i => (match h.get i with | some o' => leO wk o' o | none => false) | none => false) && leH wk h l
/-- a heap of a row of objects -/
def mkH (next : Nat) : List (Nat × AObj) → Hp
  | [] => ⟨.e, next⟩
  | (n, o) :: l => (mkH next l).put n o
def nodupN : List Nat → Bool
  | [] => true
  | x :: l => !l.any (Nat.beq x) && nodupN l
/-- the numbers are well given -/
def Wk.well (wk : Wk) (next : Nat) : Bool := Nat.ble wk.g next && wk.rn.all (fun p => Nat.ble wk.g p.1 && Nat.ble wk.g p.2 && Nat.blt p.1 next) && nodupN (wk.rn.map (·.2))
def leS (wk : Wk) (tm tm' : Tm) (h : Hp) (l : List (Nat × AObj)) (next : Nat) : Bool := leT wk tm tm' && leH wk h l && wk.well next

theorem bEq_iff {a b : Bool} (h : bEq a b = true) : a = b := by cases a <;> cases b <;> simp_all [bEq]
theorem mkH_next (next : Nat) (l : List (Nat × AObj)) : (mkH next l).next = next := by
  induction l with
  | nil => rfl
  | cons p l ih => exact ih
theorem leH_ok {wk : Wk} {h : Hp} {next : Nat} : ∀ {l : List (Nat × AObj)}, leH wk h l = true → ∀ n o, (mkH next l).get n = some o → ∃ i o', wk.id n = some i ∧ h.get i = some o' ∧ leO wk o' o = true := by
  intro l
  induction l with
  | nil => intro _ n o h; simp [mkH, Hp.get, Tr.get] at h
  | cons p l ih =>
    intro hl n o hg
    obtain ⟨n0, o0⟩ := p
    simp only [leH, Bool.and_eq_true] at hl
    simp only [mkH, Hp.get_put] at hg
    split at hg
    · rename_i e; subst e
      injection hg with hg; subst hg
      have h1 := hl.1
      split at h1
      · rename_i i hi
        split at h1
        · rename_i o' ho'; exact ⟨i, o', hi, ho', h1⟩
        · cases h1
      · cases h1
    · exact ih hl.2 n o hg
theorem lookR_mem {n o : Nat} : ∀ {l : List (Nat × Nat)}, lookR n l = some o → (n, o) ∈ l := by
  intro l
  induction l with
  | nil => intro h; simp [lookR] at h
  | cons p l ih =>
    intro h
    obtain ⟨a, b⟩ := p
    simp only [lookR] at h
    split at h
    · rename_i e; rw [Nat.beq_eq] at e; injection h with h; subst e; subst h; simp
    · simp [ih h]
theorem nodupN_ok : ∀ {l : List (Nat × Nat)}, nodupN (l.map (·.2)) = true → ∀ {a a' b}, lookR a l = some b → lookR a' l = some b → a = a' := by
  intro l
  induction l with
  | nil => intro _ a a' b h; simp [lookR] at h
  | cons p l ih =>
    intro hn a a' b h h'
    obtain ⟨x, y⟩ := p
    simp only [List.map_cons, nodupN, Bool.and_eq_true, Bool.not_eq_true'] at hn
    have hno : ∀ a, lookR a l ≠ some y := by
      intro a ha
      have := lookR_mem ha
      have h2 : (l.map (·.2)).any (Nat.beq y) = true := by
        rw [List.any_eq_true]; exact ⟨y, List.mem_map.2 ⟨(a, y), this, rfl⟩, by rw [Nat.beq_eq]⟩
      rw [h2] at hn; cases hn.1
    simp only [lookR] at h h'
    split at h
    · rename_i e; rw [Nat.beq_eq] at e; injection h with h; subst h
      split at h'
      · rename_i e'; rw [Nat.beq_eq] at e'; rw [← e, ← e']
      · exact absurd h' (hno _)
    · split at h'
      · injection h' with h'; subst h'; exact absurd h (hno _)
      · exact ih hn.2 h h'
section
variable {σ' : Nat → Value} {wk : Wk}
theorem leE_ok (hm : WkOk σ σ' wk) {ι : Io} : ∀ (es es' : List (AV × AV × Nat)), leE wk es es' = true → es.map (·.2.2) = es'.map (·.2.2) ∧ (∀ v, VRs σ ι 0 (es.map (·.1)) v → VRs σ' (wk.io ι) 0 (es'.map (·.1)) v) ∧ (∀ v, VRs σ ι 0 (es.map (·.2.1)) v → VRs σ' (wk.io ι) 0 (es'.map (·.2.1)) v) := by
  intro es
  induction es with
  | nil => intro es' h; cases es' with
    | nil => exact ⟨rfl, fun v hv => by simpa [VRs] using hv, fun v hv => by simpa [VRs] using hv⟩
    | cons => simp [leE] at h
  | cons e es ih =>
    intro es' h
    obtain ⟨k, x, b⟩ := e
    cases es' with
    | nil => simp [leE] at h
    | cons e' es' =>
      obtain ⟨k', x', b'⟩ := e'
      simp only [leE, Bool.and_eq_true, Nat.beq_eq] at h
      obtain ⟨h1, h2, h3⟩ := ih es' h.2
      refine ⟨by simp [h1, h.1.2], fun v hv => ?_, fun v hv => ?_⟩
      · simp only [List.map_cons, VRs] at hv ⊢
        obtain ⟨u, ws, e, q1, q2⟩ := hv
        exact ⟨u, ws, e, (leV_ok hm (ι := ι) _ _ h.1.1.1).1 _ q1, h2 _ q2⟩
      · simp only [List.map_cons, VRs] at hv ⊢
        obtain ⟨u, ws, e, q1, q2⟩ := hv
        exact ⟨u, ws, e, (leV_ok hm (ι := ι) _ _ h.1.1.2).1 _ q1, h3 _ q2⟩
theorem leP_get (hm : WkOk σ σ' wk) {ι : Io} : ∀ (l l' : List AV), leP wk l l' = true → l'.length ≤ l.length ∧ ∀ (i : Nat) (y : AV), l'[i]? = some y → ∃ x, l[i]? = some x ∧ (∀ v, VR σ ι 0 x v → VR σ' (wk.io ι) 0 y v) ∧ (x.one = true → y.one = true) := by
  intro l
  induction l with
  | nil => intro l' h; cases l' with
    | nil => exact ⟨Nat.le_refl _, fun i y h => by simp at h⟩
    | cons => simp [leP] at h
  | cons x l ih =>
    intro l' h
    cases l' with
    | nil => exact ⟨Nat.zero_le _, fun i y h => by simp at h⟩
    | cons y l' =>
      simp only [leP, Bool.and_eq_true] at h
      obtain ⟨h1, h2⟩ := ih l' h.2
      refine ⟨by simp [h1], fun i z hz => ?_⟩
      cases i with
      | zero => simp at hz; subst hz; exact ⟨x, by simp, leV_ok hm _ _ h.1⟩
      | succ i => simpa using h2 i z (by simpa using hz)
theorem leO_ok (hm : WkOk σ σ' wk) {ι : Io} {n n' : Nat} {lc : Lc} {w : World} {o o' : AObj} (h : leO wk o o' = true) (hO : OR P σ ι n lc w o) : OR P σ' (wk.io ι) n' lc w o' ∧ o.rw = o'.rw := by
  cases o <;> cases o' <;> simp only [leO, Bool.false_eq_true] at h
  case cells ro l ro' l' =>
    rw [Bool.and_eq_true] at h
    have e := bEq_iff h.1
    subst e
    obtain ⟨c, e, fr, h1, h2, h3, h4, h5⟩ := hO
    obtain ⟨q1, q2⟩ := leP_get hm (ι := ι) l l' h.2
    refine ⟨⟨c, e, fr, h1, h2, by omega, fun i y hy => ?_, h5⟩, rfl⟩
    obtain ⟨x, hx, q3, q4⟩ := q2 i y hy
    obtain ⟨h6, v, h7, h8⟩ := h4 i x hx
    exact ⟨q4 h6, v, h7, VR_n (q3 v (VR_n h8))⟩
  case map es c es' c' =>
    rw [Bool.and_eq_true, Nat.beq_eq] at h
    obtain ⟨rfl, h⟩ := h
    obtain ⟨ents, h1, h2, h3, h4⟩ := hO
    obtain ⟨q1, q2, q3⟩ := leE_ok hm (ι := ι) es es' h
    exact ⟨⟨ents, h1, by rw [h2, q1], VRs_n (q2 _ (VRs_n h3)), VRs_n (q3 _ (VRs_n h4))⟩, rfl⟩

/-- a state is seen with less, and by other atoms, by other numbers -/
theorem At_weak (hm : WkOk σ σ' wk) (hg : wk.g = P.globals.size) (h0d : ∀ id, ι0.d id ↔ id < P.globals.size) (h0n : h0.next = P.globals.size) (h0g : ∀ id o, h0.get id = some o → id < P.globals.size)
    {tm tm' : Tm} {h : Hp} {l : List (Nat × AObj)} {next : Nat} {a : Act} {cs : List Frame} {w : World} (hκ : κ = .normal)
    (ha : At P σ κ C ι0 h0 w0 N loc tm [] h .no a cs w) (hl : leS wk tm tm' h l next = true) : At P σ' κ C ι0 h0 w0 N loc tm' [] (mkH next l) .no a cs w := by
  obtain ⟨ι, hs, ht⟩ := ha
  unfold leS at hl
  rw [Bool.and_eq_true, Bool.and_eq_true] at hl
  obtain ⟨⟨l1, l2⟩, l3⟩ := hl
  unfold Wk.well at l3
  rw [Bool.and_eq_true, Bool.and_eq_true, Nat.ble_eq, List.all_eq_true] at l3
  obtain ⟨⟨l4, l5⟩, l6⟩ := l3
  have hobj := leH_ok (next := next) l2
  have hslot : ∀ d y, tm'.get d = some y → ∃ x, tm.get d = some x ∧ leV wk x y = true := leT_ok _ _ l1
  -- numbers
  have lowId : ∀ n, n < wk.g → wk.id n = some n := fun n hn => by unfold Wk.id; rw [show Nat.blt n wk.g = true from by rw [Nat.blt_eq]; exact hn]
  have hiId : ∀ n o, wk.id n = some o → ¬ n < wk.g → lookR n wk.rn = some o ∧ wk.g ≤ o ∧ n < next := fun n o h1 hn => by
    unfold Wk.id at h1
    have : Nat.blt n wk.g = false := by rw [← Bool.not_eq_true, Nat.blt_eq]; exact hn
    rw [this] at h1
    have h2 := l5 _ (lookR_mem h1)
    rw [Bool.and_eq_true, Bool.and_eq_true, Nat.ble_eq, Nat.ble_eq, Nat.blt_eq] at h2
    exact ⟨h1, h2.1.2, h2.2⟩
  have injId : ∀ n n' o, wk.id n = some o → wk.id n' = some o → n = n' := by
    intro n n' o h1 h2
    by_cases e1 : n < wk.g <;> by_cases e2 : n' < wk.g
    · rw [lowId n e1] at h1; rw [lowId n' e2] at h2; injection h1 with h1; injection h2 with h2; omega
    · rw [lowId n e1] at h1; injection h1 with h1; have := (hiId n' o h2 e2).2.1; omega
    · rw [lowId n' e2] at h2; injection h2 with h2; have := (hiId n o h1 e1).2.1; omega
    · exact nodupN_ok l6 (hiId n o h1 e1).1 (hiId n' o h2 e2).1
  have glow : ∀ n, n < P.globals.size → wk.id n = some n := fun n hn => lowId n (by rw [hg]; exact hn)
  refine ⟨wk.io ι, ⟨⟨fun id hid => ?_, fun id hid => ?_, by rw [mkH_next, h0n, ← hg]; exact l4, ?_, hs.post.fra, fun id o' hgt => ?_⟩, hs.dfr, ?_, hs.size, fun d hd => ?_⟩, fun d y hy => ?_⟩
  · have k := hs.post.ag id hid
    have := io_ok (ι := ι) (glow id ((h0d id).1 hid)) k.1
    exact ⟨this.1, this.2.trans k.2⟩
  · obtain ⟨o, h1, h2⟩ := hid
    by_cases e : id < P.globals.size
    · exact .inl ((h0d id).2 e)
    · exact .inr (by rw [h0n]; omega)
  · exact {
      live := fun id o' hgt => by
        obtain ⟨i, o, h1, h2, h3⟩ := hobj id o' hgt
        obtain ⟨k1, k2, k3⟩ := hs.post.rel.live i o h2
        obtain ⟨q1, q2⟩ := io_ok (ι := ι) h1 k1
        rw [q2]
        exact ⟨q1, k2, (leO_ok hm h3 k3).1⟩
      inj := fun id id' o o' h1 h2 he => by
        obtain ⟨i1, o1, h3, h4, _⟩ := hobj id o h1
        obtain ⟨i2, o2, h5, h6, _⟩ := hobj id' o' h2
        rw [(io_ok (ι := ι) h3 (hs.post.rel.live i1 o1 h4).1).2, (io_ok (ι := ι) h5 (hs.post.rel.live i2 o2 h6).1).2] at he
        have := hs.post.rel.inj i1 i2 o1 o2 h4 h6 he
        subst this
        exact injId id id' i1 h3 h5
      dom := fun id hd => by
        obtain ⟨o, h1, _⟩ := hd
        rw [mkH_next]
        by_cases e : id < wk.g
        · omega
        · exact (hiId id o h1 e).2.2
      glob := fun g hgs => by
        obtain ⟨k1, k2⟩ := hs.post.rel.glob g hgs
        obtain ⟨q1, q2⟩ := io_ok (ι := ι) (glow g hgs) k1
        rw [q2]; exact ⟨q1, k2⟩ }
  · obtain ⟨i, o, h1, h2, h3⟩ := hobj id o' hgt
    obtain ⟨k1, k2, k3⟩ := hs.post.rel.live i o h2
    have hrw := (leO_ok (n' := 0) hm h3 k3).2
    rw [(io_ok (ι := ι) h1 k1).2]
    rcases hs.post.old i o h2 with ⟨o1, h4, h5⟩ | h4
    · have hi := h0g i o1 h4
      have : id = i := injId id i i h1 (glow i hi)
      subst this
      exact .inl ⟨o1, h4, fun h6 => h5 (by rw [hrw]; exact h6)⟩
    · refine .inr ⟨?_, h4.2⟩
      by_cases e : id < wk.g
      · rw [lowId id e] at h1; injection h1 with h1; subst h1; exact h4.1
      · rw [h0n, ← hg]; omega
  · subst hκ; exact ⟨rfl, hs.cs.2⟩
  · cases hgt : tm'.get d with
    | none => rfl
    | some y =>
      obtain ⟨x, h1, _⟩ := hslot d y hgt
      rw [hs.loc d hd] at h1; cases h1
  · obtain ⟨x, h1, h2⟩ := hslot d y hy
    exact (leV_ok hm x y h2).1 _ (ht d x h1)
end

/-! the evaluator goes on from a state -/
theorem At_run (hP : 40 ≤ P.depth) (hσ : ∀ m, (σ m).oneCell' = true) (hm : P.follows .mixedOrders = true) {call : CallF} (hcall : CallOk P σ call) {fc : Fct} (hfc : FcOk σ fc) (hR0 : Rel P σ ι0 h0 w0)
    {l rest : List Code} {al : List AC} (hal : l.map (cC P N loc) = al) {tm tm' : Tm} {ds ds' : Ds} {h h' : Hp} {rs rs' : RS} (he : evSs call fc al tm ds h rs = .nrm tm' ds' h' rs') {a : Act} {cs : List Frame} {w : World}
    (ha : At P σ κ C ι0 h0 w0 N loc tm ds h rs a cs w) (hk : ∀ a cs w, At P σ κ C ι0 h0 w0 N loc tm' ds' h' rs' a cs w → WL P κ rest Q a cs w) : WL P κ (l ++ rest) Q a cs w := by
  subst hal
  rw [WL_append]
  refine WL_mono (fun e a cs w hq => ?_) (evSs_ok hP hσ hm hcall hfc hR0 l tm ds h rs a cs w _ (by simp) ha he)
  cases e <;> first | exact hk _ _ _ hq | exact hq.elim
theorem At_ret (hP : 40 ≤ P.depth) (hσ : ∀ m, (σ m).oneCell' = true) (hm : P.follows .mixedOrders = true) {call : CallF} (hcall : CallOk P σ call) {fc : Fct} (hfc : FcOk σ fc) (hR0 : Rel P σ ι0 h0 w0)
    {l rest : List Code} {al : List AC} (hal : l.map (cC P N loc) = al) {tm tm' : Tm} {ds ds' : Ds} {h h' : Hp} {rs rs' : RS} (he : evSs call fc al tm ds h rs = .rt tm' ds' h' rs') {a : Act} {cs : List Frame} {w : World}
    (ha : At P σ κ C ι0 h0 w0 N loc tm ds h rs a cs w) (hk : ∀ a cs w, At P σ κ C ι0 h0 w0 N loc tm' ds' h' rs' a cs w → Q .ret a cs w) : WL P κ (l ++ rest) Q a cs w := by
  subst hal
  rw [WL_append]
  refine WL_mono (fun e a cs w hq => ?_) (evSs_ok hP hσ hm hcall hfc hR0 l tm ds h rs a cs w _ (by simp) ha he)
  cases e <;> first | exact hk _ _ _ hq | exact hq.elim
/-- a loop's body, once: on, or out -/
theorem At_body (hP : 40 ≤ P.depth) (hσ : ∀ m, (σ m).oneCell' = true) (hm : P.follows .mixedOrders = true) {call : CallF} (hcall : CallOk P σ call) {fc : Fct} (hfc : FcOk σ fc) (hR0 : Rel P σ ι0 h0 w0)
    {c : Code} {ac : AC} (hac : cC P N loc c = ac) {tm : Tm} {ds : Ds} {h : Hp} {rs : RS} {r : R3} (he : evC call fc ac tm ds h rs = r) (hr : r ≠ .no) {a : Act} {cs : List Frame} {w : World}
    (ha : At P σ κ C ι0 h0 w0 N loc tm ds h rs a cs w) : WX P κ c (OutR P σ κ C ι0 h0 w0 N loc r) a cs w := by
  subst hac
  obtain ⟨ι, hs, ht⟩ := ha
  exact evC_ok hP hσ hm hcall hfc (draw_ok hP hσ hcall hfc) hR0 c tm ds h rs a cs w ι r hr hs ht he
end
end Go.Ev
namespace Go.Ev
open Go Go.RowKit

/-- the globals that are read -/
abbrev Gs := List (Nat × List AV)
def Gs.int (gs : Gs) (m : Nat) : Bool := gs.all fun p => Nat.blt p.1 m && p.2.all fun | .it _ _ => true | _ => false
def gHp (gs : Gs) (m : Nat) : Hp := gs.foldr (fun p h => h.put p.1 (.cells true p.2)) ⟨.e, m⟩
def hasG (gs : Gs) (h : Hp) : Bool := gs.all fun p => match h.get p.1 with | some (.cells true l) => AV.sames l p.2 | _ => false

section
variable {P : Program} {σ : Nat → Value}

theorem gHp_next (gs : Gs) (m : Nat) : (gHp gs m).next = m := by
  induction gs with
  | nil => rfl
  | cons p gs ih => exact ih
theorem gHp_get {gs : Gs} {m id : Nat} {o : AObj} (h : (gHp gs m).get id = some o) : ∃ l, (id, l) ∈ gs ∧ o = .cells true l := by
  induction gs with
  | nil => simp [gHp, Hp.get, Tr.get] at h
  | cons p gs ih =>
    have e : gHp (p :: gs) m = (gHp gs m).put p.1 (.cells true p.2) := rfl
    rw [e, Hp.get_put] at h
    split at h
    · rename_i e; subst e; injection h with h; subst h; exact ⟨p.2, by simp, rfl⟩
    · obtain ⟨l, h1, h2⟩ := ih h; exact ⟨l, by simp [h1], h2⟩
theorem gHp_ro {gs : Gs} {m id : Nat} {o : AObj} (h : (gHp gs m).get id = some o) : o.rw = false := by
  obtain ⟨l, _, rfl⟩ := gHp_get h; rfl
theorem Gs.int_ok {gs : Gs} {m : Nat} (h : gs.int m = true) {id : Nat} {l : List AV} (hm : (id, l) ∈ gs) : id < m ∧ ∀ x ∈ l, ∃ k n, x = .it k n := by
  unfold Gs.int at h
  rw [List.all_eq_true] at h
  have := h _ hm
  rw [Bool.and_eq_true, Nat.blt_eq, List.all_eq_true] at this
  refine ⟨this.1, fun x hx => ?_⟩
  have h2 := this.2 x hx
  cases x <;> simp at h2
  exact ⟨_, _, rfl⟩
theorem hasG_ok {gs : Gs} {h : Hp} (hh : hasG gs h = true) {id : Nat} {l : List AV} (hm : (id, l) ∈ gs) : h.get id = some (.cells true l) := by
  unfold hasG at hh
  rw [List.all_eq_true] at hh
  have := hh _ hm
  split at this
  · rename_i l' h2; rw [h2, sames_eq _ _ this]
  · cases this

/-- where the globals lie -/
def gSz : Gs → Nat → Nat
  | [], _ => 0
  | p :: l, g => if p.1 = g then p.2.length else gSz l g
def gIo (P : Program) (gs : Gs) : Io := ⟨fun g => ⟨g, 0, gSz gs g⟩, fun g => g < P.globals.size⟩

/-- the globals alone -/
theorem Rel_globals {gs : Gs} (hi : gs.int P.globals.size = true) {ι : Io} {h : Hp} {w : World} (hR : Rel P σ ι h w) (hg : hasG gs h = true) : Rel P σ ⟨ι.f, fun g => g < P.globals.size⟩ (gHp gs P.globals.size) w where
  live := fun id o ho => by
    obtain ⟨l, h1, rfl⟩ := gHp_get ho
    obtain ⟨h2, h3⟩ := Gs.int_ok hi h1
    obtain ⟨k1, k2, c, e, fr, h4, h5, h6, h7, h8⟩ := hR.live id _ (hasG_ok hg h1)
    refine ⟨h2, k2, c, e, fr, h4, h5, h6, fun i x hx => ?_, fun h => by cases h⟩
    obtain ⟨q1, v, q2, q3⟩ := h7 i x hx
    obtain ⟨k, n, rfl⟩ := h3 x (List.mem_of_getElem? hx)
    exact ⟨rfl, v, q2, by simpa [VR] using q3⟩
  inj := fun id id' o o' h1 h2 he => by
    obtain ⟨l1, q1, rfl⟩ := gHp_get h1
    obtain ⟨l2, q2, rfl⟩ := gHp_get h2
    exact hR.inj id id' _ _ (hasG_ok hg q1) (hasG_ok hg q2) he
  dom := fun id hd => by rw [gHp_next]; exact hd
  glob := fun g hg => ⟨hg, (hR.glob g hg).2⟩

theorem below_of_post {ι ι' : Io} {h h' : Hp} {w w' : World} (hro : ∀ id o, h.get id = some o → o.rw = false) (hp : Post P σ ι h w ι' h' w') : Below w.heap.size w w' :=
  ⟨hp.fra.os, hp.fra.tape, hp.fra.output, hp.fra.size, fun b hb => hp.fra.same b hb fun id o hg hr => by rw [hro id o hg] at hr; cases hr⟩

theorem Post_below' {ι : Io} {h : Hp} {w w' : World} (hR : Rel P σ ι h w) (hb : Below w.heap.size w w') : Post P σ ι h w ι h w' where
  ag := Ag.refl
  newd := fun _ h => .inl h
  next := Nat.le_refl _
  rel := {
    live := fun id o hg => by
      obtain ⟨h1, h2, h3⟩ := hR.live id o hg
      exact ⟨h1, Nat.lt_of_lt_of_le h2 hb.size, OR_any (hb.block _ h2) (fun _ h => ⟨h, rfl⟩) h3⟩
    inj := hR.inj
    dom := hR.dom
    glob := hR.glob }
  fra := ⟨hb.size, fun b hlt _ => hb.block b hlt, hb.tape, hb.os, hb.output⟩
  old := fun id o hg => .inl ⟨o, hg, fun h => h⟩

/-- a call that takes nothing, that leaves nothing: once for all -/
def pLone (gs : Gs) (b : Bool) : List AV → Hp → RC
  | [], h => match hasG gs h with | true => .ret (.bo b) h | false => .no
  | _, _ => .no
def isRet (b : Bool) : RC → Bool
  | .ret (.bo x) _ => bEq x b
  | _ => false
theorem lone_ok {gs : Gs} (hi : gs.int P.globals.size = true) {call : CallF} (hcall : CallOk P σ call) {f : Nat} {b : Bool} (he : isRet b (call.fn f [] (gHp gs P.globals.size)) = true) (args : List AV) (h : Hp) : CallR P σ f args h (pLone gs b args h) := by
  unfold pLone
  split
  · split
    · rename_i hg
      have hcr := hcall.fn f [] (gHp gs P.globals.size)
      generalize call.fn f [] (gHp gs P.globals.size) = rc at he hcr
      unfold isRet at he
      split at he
      · rename_i x hX
        have := bEq_iff he
        subst this
        intro ι w vargs hR ha
        have hro : ∀ id o, (gHp gs P.globals.size).get id = some o → o.rw = false := fun id o => gHp_ro
        rcases hcr _ w vargs (Rel_globals hi hR hg) (by simpa [VRs] using ha) with ⟨q1, q2⟩ | ⟨v, w', ι', q1, q2, q3⟩
        · refine .inl ⟨q1, Calls.mono q2 ?_⟩
          rintro e w' ⟨v, rfl, ι', p1, p2⟩
          exact ⟨v, rfl, ι, Post_below' hR (below_of_post hro p1), by simpa [VR] using p2⟩
        · exact .inr ⟨v, w', ι, q1, Post_below' hR (below_of_post hro q2), by simpa [VR] using q3⟩
      · cases he
    · trivial
  · trivial

/-- a function that answers one bool, from the globals alone -/
theorem law_calls {f : FuncId} {fn : Func} {c : Code} (hf : P.funcs[f]? = some fn) (hb : fn.body = some c) {ars : List AR} (hres : cRes P fn.results.toList = some ars) {gs : Gs} {args : Array Value} {w : World} {ι0 : Io} {loc : Nat}
    (h : ∀ cs, WL P .normal (seqL c) (fun e a cs' w' => e = .ret ∧ ∃ σ tm h1, At P σ .normal cs ι0 (gHp gs P.globals.size) w fn.ntmps loc tm [] h1 .no a cs' w' ∧ fin ars tm h1 = .ret (.bo true) h1)
      { tmps := args ++ Array.replicate (fn.ntmps - args.size) undef, defers := [] } cs w) :
    Calls P f args w fun e w' => e = .returned (.bool true) ∧ Below w.heap.size w w' := by
  refine calls_of_WX hf hb fun cs => WX_of_WL (WL_mono (fun e a cs' w' hq => ?_) (h cs))
  obtain ⟨rfl, σ, tm, h1, ⟨ι, hs, ht⟩, hfin⟩ := hq
  refine ⟨hs.cs.2, ?_⟩
  have hd : a.defers = [] := hs.dfr
  show LeavesM P fn a.tmps _ a.defers .returning w'
  rw [hd]
  obtain ⟨_, v, p1, p2⟩ := fin_ok hs.post.rel ht hres hfin
  simp only [VR] at p2
  subst p2
  exact ⟨_, p1, rfl, below_of_post (fun id o => gHp_ro) hs.post⟩

/-- the start -/
theorem At_start {f : FuncId} {fn : Func} {af : AF} {loc : Nat} (hcf : cF P loc fn = some af) {gs : Gs} {w : World} (hR : Rel P σ (gIo P gs) (gHp gs P.globals.size) w) {args : List AV} {vargs : Array Value} (ha : VRs σ (gIo P gs) 0 args vargs.toList) (hl : lenIs args af.np = true) (cs : List Frame) :
    At P σ .normal cs (gIo P gs) (gHp gs P.globals.size) w fn.ntmps loc (args0 args 0 .e) [] (gHp gs P.globals.size) .no { tmps := vargs ++ Array.replicate (fn.ntmps - vargs.size) undef, defers := [] } cs w := by
  obtain ⟨c, h1, h2, h3, h4, h5⟩ := cF_ok hcf
  obtain ⟨s1, s2⟩ := start_ok (κ := .normal) (C := cs) (cs := cs) (N := fn.ntmps) hR ⟨rfl, rfl⟩ ha hl h5
  exact ⟨_, s1, s2⟩
end
end Go.Ev
namespace Go.Ev
noncomputable section
def getF {α : Type} (t : Tr α) : Nat → Option α :=
  Tr.rec (fun _ => none) (fun v _ _ il ir k => Nat.rec v (fun k _ => Bool.rec (ir (Nat.div k 2)) (il (Nat.div k 2)) (Nat.beq (Nat.mod k 2) 0)) k) t
def pathF {α : Type} (f : Nat) : Nat → Option α → Tr α :=
  Nat.rec (fun _ _ => .e) (fun _ ih k x => Nat.rec (.n x .e .e) (fun k _ => Bool.rec (.n none .e (ih (Nat.div k 2) x)) (.n none (ih (Nat.div k 2) x) .e) (Nat.beq (Nat.mod k 2) 0)) k) f
def setF {α : Type} (t : Tr α) : Nat → Option α → Tr α :=
  Tr.rec (fun k x => pathF (Nat.succ k) k x) (fun v l r il ir k x => Nat.rec (.n x l r) (fun k _ => Bool.rec (.n v l (ir (Nat.div k 2) x)) (.n v (il (Nat.div k 2) x) r) (Nat.beq (Nat.mod k 2) 0)) k) t
def lookVF (j : Nat) (vs : Vs) : AV := List.rec .bot (fun p _ ih => Prod.rec (fun i v => Bool.rec ih v (Nat.beq i j)) p) vs
def getTF (tm : Tm) (n : Nat) : AV := Option.rec .bot (fun v => v) (getF tm n)
def evDF (tm : Tm) (vs : Vs) (d : AD) : AV := AD.rec (fun n => getTF tm n) (fun j => lookVF j vs) (fun v => v) d
def evDsF (tm : Tm) (vs : Vs) (l : List AD) : List AV := List.rec [] (fun d _ ih => evDF tm vs d :: ih) l
def optDF (tm : Tm) (vs : Vs) (l : Option AD) : Option AV := Option.rec none (fun d => some (evDF tm vs d)) l
def evPsF (tm : Tm) (vs : Vs) (l : List (Nat × Nat × AD)) : List (Nat × Nat × AV) := List.rec [] (fun p _ ih => Prod.rec (fun a q => Prod.rec (fun b d => (a, b, evDF tm vs d) :: ih) q) p) l
def evPs2F (es : Nat) (tm : Tm) (vs : Vs) (l : List (Nat × AD)) : List (Nat × Nat × AV) := List.rec [] (fun p _ ih => Prod.rec (fun i d => (i * es, es, evDF tm vs d) :: ih) p) l
def bldO (z : List AV) (ps : List (Nat × Nat × AV)) : Option AV := Option.rec none (fun cs => some (.ag cs)) (bld z ps)
def evPF (fc : Fct) (tm : Tm) (vs : Vs) (o : PO) : Option AV := PO.rec
  (fun x => some (evDF tm vs x)) (fun c a b => vPick (evDF tm vs c) (evDF tm vs a) (evDF tm vs b)) (fun z ps => bldO z (evPsF tm vs ps)) (fun x => vNilc (evDF tm vs x))
  (fun op tc x y => orF fc (.bin op (evDF tm vs x) (evDF tm vs y)) (bin op tc (evDF tm vs x) (evDF tm vs y))) (fun op x => orF fc (.un op (evDF tm vs x)) (vUn op (evDF tm vs x))) (fun k x => orF fc (.cvi k (evDF tm vs x)) (vCvi k (evDF tm vs x))) (fun x => vCvs (evDF tm vs x))
  (fun t x => some (.ifc t (evDF tm vs x))) (fun f a b => some (.fn f (evDsF tm vs a) (evDsF tm vs b)))
  (fun k x lo hi mx => vSlice k (evDF tm vs x) (optDF tm vs lo) (optDF tm vs hi) (optDF tm vs mx)) (fun o x => vFadr o (evDF tm vs x)) (fun o n agg x => vFld o n agg (evDF tm vs x))
  (fun len es x ix => vIadr len es (evDF tm vs x) (evDF tm vs ix)) (fun x ix => vIdxs (evDF tm vs x) (evDF tm vs ix))
  (fun t ok z x => vTass t ok z (evDF tm vs x)) (fun x i => vExt i (evDF tm vs x)) (fun k x => vLenF fc k (evDF tm vs x)) (fun x y => orF fc (.mn (evDF tm vs x) (evDF tm vs y)) (vMn (evDF tm vs x) (evDF tm vs y))) (fun x y => orF fc (.mx (evDF tm vs x) (evDF tm vs y)) (vMx (evDF tm vs x) (evDF tm vs y))) o
def evRF (tm : Tm) (vs : Vs) (h : Hp) (o : RO) : Option AV := RO.rec
  (fun n agg a => rLoad n agg h (evDF tm vs a)) (fun sh z ok m k => rLkp sh z ok h (evDF tm vs k) (evDF tm vs m)) (fun x => rLenm h (evDF tm vs x)) (fun x => rBstr h (evDF tm vs x)) o
def evLF (tm : Tm) (vs : Vs) (id : Nat) (o : LO) : Option (AV × AObj) := LO.rec
  (fun z => some (.pt id 0, .cells false z)) (fun x => Option.rec none (fun cs => some (.pt id 0, .cells false cs)) (evDF tm vs x).cells)
  (fun z n es ps => Option.rec none (fun cs => some (.sl id 0 n n 0, .cells false cs)) (bld (rep z n) (evPs2F es tm vs ps)))
  (some (.mp id, .map [] 0)) (fun es z eb l c => evL tm vs id (.mksl es z eb l c)) (fun x => evL tm vs id (.strb x)) o
def evWF (call : CallF) (tm : Tm) (vs : Vs) (h : Hp) (rs : RS) (o : WO) : R1 := WO.rec
  (fun n a x => wStore h rs n (evDF tm vs a) (evDF tm vs x))
  (fun sh m k x => wMupd h rs sh (evDF tm vs m) (evDF tm vs k) (evDF tm vs x))
  (fun sh z m k => wMent h rs sh z (evDF tm vs m) (evDF tm vs k))
  (fun m s x => wEstore h rs (evDF tm vs m) (evDF tm vs s) (evDF tm vs x))
  (fun x => wRng h rs (evDF tm vs x)) (fun x => wNxt h rs (evDF tm vs x)) (fun x => wEnt h rs (evDF tm vs x))
  (fun f args => wCall call h rs (evDsF tm vs args) (evDF tm vs f))
  (fun es eb s x => wApp h rs es eb (evDF tm vs s) (evDF tm vs x))
  (fun es d s => wCopy h rs es (evDF tm vs d) (evDF tm vs s)) (fun sh m k => wDelk h rs sh (evDF tm vs m) (evDF tm vs k)) (fun z x => wClr h rs z (evDF tm vs x))
  (wRecv h rs) (fun f args => wDfr h rs (evDsF tm vs args) (evDF tm vs f)) (fun x => wPan h rs (evDF tm vs x)) .no o
def wantedF (tm : Tm) (vs : Vs) (g : Option (AD × Bool)) : Option Bool := Option.rec (some true) (fun p => wanted tm vs (some p)) g
def lookOF (j : Nat) (vs : Vs) : Option AV := List.rec none (fun p _ ih => Prod.rec (fun i v => Bool.rec ih (some v) (Nat.beq i j)) p) vs
def flushF (fl : List (Nat × Nat)) (vs : Vs) : Tm → Tm := List.rec (fun tm => tm) (fun p _ ih tm => Prod.rec (fun j d => Option.rec (ih tm) (fun v => ih (setF tm d (some v))) (lookOF j vs)) p) fl
def evOpsF (call : CallF) (fc : Fct) (tm : Tm) (fl : List (Nat × Nat)) (ops : List AOp) : Vs → Ds → Hp → RS → R3 :=
  List.rec (fun vs ds h rs => .nrm (flushF fl vs tm) ds h rs)
    (fun op _ ih vs ds h rs => AOp.rec (fun ix gd o _ => Option.rec .no (fun w => Bool.rec (ih ((ix, ude) :: vs) ds h rs)
      (AO.rec (fun o => Option.rec .no (fun x => ih ((ix, x) :: vs) ds h rs) (evPF fc tm vs o))
        (fun o => Option.rec .no (fun x => ih ((ix, x) :: vs) ds h rs) (evRF tm vs h o))
        (fun o => Option.rec .no (fun p => Prod.rec (fun x ob => ih ((ix, x) :: vs) ds (h.new ob).2 rs) p) (evLF tm vs h.next o))
        (fun o => R1.rec .no (fun x h rs => ih ((ix, x) :: vs) ds h rs) (fun h rs => ih ((ix, ude) :: vs) ds h rs) (fun f args h rs => ih ((ix, ude) :: vs) ((f, args) :: ds) h rs) (fun x h rs => .pn x (flushF fl vs tm) ds h rs) (evWF call tm vs h rs o)) o) w)
      (wantedF tm vs gd)) op) ops
def evLoopF (body : Tm → Ds → Hp → RS → R3) (n : Nat) : Tm → Ds → Hp → RS → R3 :=
  Nat.rec (fun _ _ _ _ => .no) (fun _ ih tm ds h rs => R3.rec .no (fun tm ds h rs => ih tm ds h rs) (fun id tm ds h rs => .ex id tm ds h rs) (fun tm ds h rs => .rt tm ds h rs) (fun v tm ds h rs => .pn v tm ds h rs) (body tm ds h rs)) n
def evCF (call : CallF) (fc : Fct) (c : AC) : Tm → Ds → Hp → RS → R3 := AC.rec
  (fun tm ds h rs => .nrm tm ds h rs)
  (fun ops fl tm ds h rs => evOpsF call fc tm fl ops [] ds h rs)
  (fun ops fl tm ds h rs => evDraw call fc tm fl ops [] ds h rs [] [] 0)
  (fun _ _ ia ib tm ds h rs => R3.rec .no (fun tm ds h rs => ib tm ds h rs) (fun id tm ds h rs => .ex id tm ds h rs) (fun tm ds h rs => .rt tm ds h rs) (fun v tm ds h rs => .pn v tm ds h rs) (ia tm ds h rs))
  (fun c _ _ ia ib tm ds h rs => match evDF tm [] c with | .bo true => ia tm ds h rs | .bo false => ib tm ds h rs | _ => .no)
  (fun id _ ia tm ds h rs => R3.rec .no (fun tm ds h rs => .nrm tm ds h rs) (fun id' tm ds h rs => Bool.rec (.ex id' tm ds h rs) (.nrm tm ds h rs) (Nat.beq id id')) (fun tm ds h rs => .rt tm ds h rs) (fun v tm ds h rs => .pn v tm ds h rs) (ia tm ds h rs))
  (fun _ ia tm ds h rs => evLoopF ia 100000 tm ds h rs)
  (fun f ps a b _ _ tm ds h rs => evRange call (evDF tm [] f) ps a b tm ds h rs)
  (fun id tm ds h rs => .ex id tm ds h rs) (fun tm ds h rs => .rt tm ds h rs) (fun _ _ _ _ => .no) c
def evCallF (T : Tab) (n : Nat) : CallF := Nat.rec ⟨fun _ _ _ => .no, fun _ _ _ => .no⟩ (fun _ ih => ⟨evFn T ih (evCF ih T.fact), evYield (evCF ih T.fact)⟩) n
end
end Go.Ev
namespace Go.Ev

theorem beq_mod (k : Nat) : Nat.beq (Nat.mod k 2) 0 = match Nat.mod k 2 with | 0 => true | _ => false := by
  cases Nat.mod k 2 <;> rfl
theorem getF_eq {α : Type} (t : Tr α) : getF t = t.get := by
  funext k
  induction t generalizing k with
  | e => rfl
  | n v l r ihl ihr =>
    cases k with
    | zero => rfl
    | succ k =>
      show Bool.rec (motive := fun _ => Option α) (getF r (Nat.div k 2)) (getF l (Nat.div k 2)) (Nat.beq (Nat.mod k 2) 0) = _
      rw [ihl, ihr]
      simp only [Tr.get]
      rw [beq_mod]
      cases Nat.mod k 2 <;> rfl
theorem pathF_eq {α : Type} (f : Nat) : (pathF f : Nat → Option α → Tr α) = Tr.path f := by
  induction f with
  | zero => rfl
  | succ f ih =>
    funext k x
    cases k with
    | zero => rfl
    | succ k =>
      show Bool.rec (motive := fun _ => Tr α) (Tr.n none .e (pathF f (Nat.div k 2) x)) (Tr.n none (pathF f (Nat.div k 2) x) .e) (Nat.beq (Nat.mod k 2) 0) = _
      rw [ih, beq_mod]
      simp only [Tr.path]
      cases Nat.mod k 2 <;> rfl
theorem setF_eq {α : Type} (t : Tr α) : setF t = t.set := by
  funext k x
  induction t generalizing k with
  | e => show pathF (Nat.succ k) k x = _; rw [pathF_eq]; rfl
  | n v l r ihl ihr =>
    cases k with
    | zero => rfl
    | succ k =>
      show Bool.rec (motive := fun _ => Tr α) (Tr.n v l (setF r (Nat.div k 2) x)) (Tr.n v (setF l (Nat.div k 2) x) r) (Nat.beq (Nat.mod k 2) 0) = _
      rw [ihl, ihr, beq_mod]
      simp only [Tr.set]
      cases Nat.mod k 2 <;> rfl
theorem lookVF_eq (j : Nat) (vs : Vs) : lookVF j vs = lookV j vs := by
  induction vs with
  | nil => rfl
  | cons p vs ih =>
    obtain ⟨i, v⟩ := p
    show Bool.rec (motive := fun _ => AV) (lookVF j vs) v (Nat.beq i j) = _
    rw [ih]; simp only [lookV]
    cases Nat.beq i j <;> rfl
theorem getTF_eq (tm : Tm) (n : Nat) : getTF tm n = getT tm n := by
  unfold getTF getT
  rw [getF_eq]
  cases tm.get n <;> rfl
theorem evDF_eq (tm : Tm) (vs : Vs) (d : AD) : evDF tm vs d = evD tm vs d := by
  cases d with
  | t n => exact getTF_eq tm n
  | r j => exact lookVF_eq j vs
  | c v => rfl
theorem evDsF_eq (tm : Tm) (vs : Vs) (l : List AD) : evDsF tm vs l = evDs tm vs l := by
  induction l with
  | nil => rfl
  | cons d l ih => show evDF tm vs d :: evDsF tm vs l = _; rw [ih, evDF_eq]; rfl
theorem optDF_eq (tm : Tm) (vs : Vs) (l : Option AD) : optDF tm vs l = optD tm vs l := by
  cases l with
  | none => rfl
  | some d => show some (evDF tm vs d) = _; rw [evDF_eq]; rfl
theorem evPsF_eq (tm : Tm) (vs : Vs) (l : List (Nat × Nat × AD)) : evPsF tm vs l = evPs tm vs l := by
  induction l with
  | nil => rfl
  | cons p l ih => obtain ⟨a, b, d⟩ := p; show (a, b, evDF tm vs d) :: evPsF tm vs l = _; rw [ih, evDF_eq]; rfl
theorem evPs2F_eq (es : Nat) (tm : Tm) (vs : Vs) (l : List (Nat × AD)) : evPs2F es tm vs l = evPs2 es tm vs l := by
  induction l with
  | nil => rfl
  | cons p l ih => obtain ⟨a, d⟩ := p; show (a * es, es, evDF tm vs d) :: evPs2F es tm vs l = _; rw [ih, evDF_eq]; rfl
theorem bldO_eq (z : List AV) (ps : List (Nat × Nat × AV)) : bldO z ps = match bld z ps with | some cs => some (.ag cs) | none => none := by
  unfold bldO; cases bld z ps <;> rfl
theorem evPF_eq (fc : Fct) (tm : Tm) (vs : Vs) (o : PO) : evPF fc tm vs o = evP fc tm vs o := by
  cases o <;> simp only [evPF, evP, evDF_eq, evDsF_eq, optDF_eq, evPsF_eq, bldO_eq]
  cases bld _ _ <;> rfl
theorem evRF_eq (tm : Tm) (vs : Vs) (h : Hp) (o : RO) : evRF tm vs h o = evR tm vs h o := by
  cases o <;> simp only [evRF, evR, evDF_eq]
theorem evLF_eq (tm : Tm) (vs : Vs) (id : Nat) (o : LO) : evLF tm vs id o = evL tm vs id o := by
  cases o <;> simp only [evLF, evL, evDF_eq, evPs2F_eq]
  · cases (evD tm vs _).cells <;> rfl
  · cases bld _ _ <;> rfl
theorem evWF_eq (call : CallF) (tm : Tm) (vs : Vs) (h : Hp) (rs : RS) (o : WO) : evWF call tm vs h rs o = evW call tm vs h rs o := by
  cases o <;> simp only [evWF, evW, evDF_eq, evDsF_eq]
theorem wantedF_eq (tm : Tm) (vs : Vs) (g : Option (AD × Bool)) : wantedF tm vs g = wanted tm vs g := by
  cases g <;> rfl
theorem lookOF_eq (j : Nat) (vs : Vs) : lookOF j vs = lookO j vs := by
  induction vs with
  | nil => rfl
  | cons p vs ih =>
    obtain ⟨i, v⟩ := p
    show Bool.rec (motive := fun _ => Option AV) (lookOF j vs) (some v) (Nat.beq i j) = _
    rw [ih]; simp only [lookO]
    cases Nat.beq i j <;> rfl
theorem flushF_eq (fl : List (Nat × Nat)) (vs : Vs) (tm : Tm) : flushF fl vs tm = flush fl vs tm := by
  induction fl generalizing tm with
  | nil => rfl
  | cons p fl ih =>
    obtain ⟨j, d⟩ := p
    show Option.rec (motive := fun _ => Tm) (flushF fl vs tm) (fun v => flushF fl vs (setF tm d (some v))) (lookOF j vs) = _
    rw [lookOF_eq]; simp only [flush]
    cases lookO j vs with
    | none => exact ih tm
    | some v => show flushF fl vs (setF tm d (some v)) = _; rw [setF_eq]; exact ih _
theorem evOpsF_eq (call : CallF) (fc : Fct) (tm : Tm) (fl : List (Nat × Nat)) (ops : List AOp) : ∀ (vs : Vs) (ds : Ds) (h : Hp) (rs : RS), evOpsF call fc tm fl ops vs ds h rs = evOps call fc tm fl ops vs ds h rs := by
  induction ops with
  | nil => intro vs ds h rs; show R3.nrm (flushF fl vs tm) ds h rs = _; rw [flushF_eq]; rfl
  | cons op ops ih =>
    intro vs ds h rs
    obtain ⟨ix, gd, o, anc⟩ := op
    simp only [evOps]
    have e : evOpsF call fc tm fl (⟨ix, gd, o, anc⟩ :: ops) vs ds h rs = Option.rec (motive := fun _ => R3) .no (fun w => Bool.rec (motive := fun _ => R3) (evOpsF call fc tm fl ops ((ix, ude) :: vs) ds h rs)
      (AO.rec (motive := fun _ => R3) (fun o => Option.rec (motive := fun _ => R3) .no (fun x => evOpsF call fc tm fl ops ((ix, x) :: vs) ds h rs) (evPF fc tm vs o))
        (fun o => Option.rec (motive := fun _ => R3) .no (fun x => evOpsF call fc tm fl ops ((ix, x) :: vs) ds h rs) (evRF tm vs h o))
        (fun o => Option.rec (motive := fun _ => R3) .no (fun p => evOpsF call fc tm fl ops ((ix, p.1) :: vs) ds (h.new p.2).2 rs) (evLF tm vs h.next o))
        (fun o => R1.rec (motive := fun _ => R3) .no (fun x h rs => evOpsF call fc tm fl ops ((ix, x) :: vs) ds h rs) (fun h rs => evOpsF call fc tm fl ops ((ix, ude) :: vs) ds h rs) (fun f args h rs => evOpsF call fc tm fl ops ((ix, ude) :: vs) ((f, args) :: ds) h rs) (fun x h rs => .pn x (flushF fl vs tm) ds h rs) (evWF call tm vs h rs o)) o) w)
      (wantedF tm vs gd) := rfl
    rw [e, wantedF_eq]
    cases wanted tm vs gd with
    | none => rfl
    | some b =>
      cases b with
      | false => exact ih _ _ _ _
      | true =>
        cases o with
        | p o =>
          simp only [evPF_eq]
          cases evP fc tm vs o with
          | none => rfl
          | some x => exact ih _ _ _ _
        | r o =>
          simp only [evRF_eq]
          cases evR tm vs h o with
          | none => rfl
          | some x => exact ih _ _ _ _
        | l o =>
          simp only [evLF_eq]
          cases evL tm vs h.next o with
          | none => rfl
          | some p => obtain ⟨x, ob⟩ := p; exact ih _ _ _ _
        | w o =>
          simp only [evWF_eq]
          cases evW call tm vs h rs o with
          | no => rfl
          | v x h rs => exact ih _ _ _ _
          | sk h rs => exact ih _ _ _ _
          | df f args h rs => exact ih _ _ _ _
          | pn x h rs => simp only [flushF_eq]
theorem evLoopF_eq (body : Tm → Ds → Hp → RS → R3) (n : Nat) : ∀ (tm : Tm) (ds : Ds) (h : Hp) (rs : RS), evLoopF body n tm ds h rs = evLoop body n tm ds h rs := by
  induction n with
  | zero => intros; rfl
  | succ n ih =>
    intro tm ds h rs
    simp only [evLoop]
    have e : evLoopF body (n + 1) tm ds h rs = R3.rec (motive := fun _ => R3) .no (fun tm ds h rs => evLoopF body n tm ds h rs) (fun id tm ds h rs => .ex id tm ds h rs) (fun tm ds h rs => .rt tm ds h rs) (fun v tm ds h rs => .pn v tm ds h rs) (body tm ds h rs) := rfl
    rw [e]
    cases body tm ds h rs with
    | nrm tm ds h rs => exact ih _ _ _ _
    | _ => rfl
theorem evCF_eq (call : CallF) (fc : Fct) (c : AC) : ∀ (tm : Tm) (ds : Ds) (h : Hp) (rs : RS), evCF call fc c tm ds h rs = evC call fc c tm ds h rs := by
  induction c with
  | skip => intros; rfl
  | reg ops fl => intro tm ds h rs; exact evOpsF_eq call fc tm fl ops [] ds h rs
  | draw ops fl => intros; rfl
  | seq a b iha ihb =>
    intro tm ds h rs
    simp only [evC]
    have e : evCF call fc (.seq a b) tm ds h rs = R3.rec (motive := fun _ => R3) .no (fun tm ds h rs => evCF call fc b tm ds h rs) (fun id tm ds h rs => .ex id tm ds h rs) (fun tm ds h rs => .rt tm ds h rs) (fun v tm ds h rs => .pn v tm ds h rs) (evCF call fc a tm ds h rs) := rfl
    rw [e, iha]
    cases evC call fc a tm ds h rs with
    | nrm tm ds h rs => exact ihb _ _ _ _
    | _ => rfl
  | cond c a b iha ihb =>
    intro tm ds h rs
    simp only [evC]
    show (match evDF tm [] c with | .bo true => evCF call fc a tm ds h rs | .bo false => evCF call fc b tm ds h rs | _ => .no) = _
    rw [evDF_eq, iha, ihb]
    rfl
  | block id a iha =>
    intro tm ds h rs
    simp only [evC]
    have e : evCF call fc (.block id a) tm ds h rs = R3.rec (motive := fun _ => R3) .no (fun tm ds h rs => .nrm tm ds h rs) (fun id' tm ds h rs => Bool.rec (motive := fun _ => R3) (.ex id' tm ds h rs) (.nrm tm ds h rs) (Nat.beq id id')) (fun tm ds h rs => .rt tm ds h rs) (fun v tm ds h rs => .pn v tm ds h rs) (evCF call fc a tm ds h rs) := rfl
    rw [e, iha]
    cases evC call fc a tm ds h rs with
    | ex id' tm ds h rs => simp only []; cases Nat.beq id id' <;> rfl
    | _ => rfl
  | loop a iha =>
    intro tm ds h rs
    simp only [evC]
    show evLoopF (evCF call fc a) 100000 tm ds h rs = _
    rw [evLoopF_eq]
    congr 1
    funext tm ds h rs
    exact iha tm ds h rs
  | rfun f ps a b _ _ =>
    intro tm ds h rs
    simp only [evC]
    show evRange call (evDF tm [] f) ps a b tm ds h rs = _
    rw [evDF_eq]
  | exit id => intros; rfl
  | ret => intros; rfl
  | bad => intros; rfl
theorem evCallF_eq (T : Tab) (n : Nat) : evCallF T n = evCall T n := by
  induction n with
  | zero => rfl
  | succ n ih =>
    show (⟨evFn T (evCallF T n) (evCF (evCallF T n) T.fact), evYield (evCF (evCallF T n) T.fact)⟩ : CallF) = _
    rw [ih, show evCF (evCall T n) T.fact = evC (evCall T n) T.fact from by funext c tm ds h rs; exact evCF_eq _ _ _ _ _ _ _]
    rfl
end Go.Ev
namespace Go.Ev
open Go

/-! facts, as a row -/
def unEq : UnOp → UnOp → Bool
  | .neg, .neg | .xor, .xor | .not, .not | .plus, .plus => true
  | _, _ => false
def binN : BinOp → Nat
  | .add => 0 | .sub => 1 | .mul => 2 | .quo => 3 | .rem => 4 | .and => 5 | .or => 6 | .xor => 7 | .shl => 8 | .shr => 9 | .andNot => 10 | .eql => 11 | .neq => 12 | .lss => 13 | .leq => 14 | .gtr => 15 | .geq => 16
def fqEq : FQ → FQ → Bool
  | .bin o x y, .bin o' x' y' => Nat.beq (binN o) (binN o') && AV.same x x' && AV.same y y'
  | .un o x, .un o' x' => unEq o o' && AV.same x x'
  | .cvi k x, .cvi k' x' => kEq k k' && AV.same x x'
  | .len x, .len x' => AV.same x x'
  | .mn x y, .mn x' y' => AV.same x x' && AV.same y y'
  | .mx x y, .mx x' y' => AV.same x x' && AV.same y y'
  | _, _ => false
def fcL : List (FQ × AV) → Fct
  | [], _ => none
  | (q, r) :: l, p => match fqEq q p with | true => some r | false => fcL l p
theorem binN_inj {a b : BinOp} (h : binN a = binN b) : a = b := by cases a <;> cases b <;> simp [binN] at h <;> rfl
theorem unEq_iff {a b : UnOp} (h : unEq a b = true) : a = b := by cases a <;> cases b <;> simp [unEq] at h <;> rfl
theorem fqEq_iff {p q : FQ} (h : fqEq p q = true) : p = q := by
  cases p <;> cases q <;> simp only [fqEq, Bool.and_eq_true, Bool.false_eq_true, Nat.beq_eq] at h
  · rw [binN_inj h.1.1, same_eq _ _ h.1.2, same_eq _ _ h.2]
  · rw [unEq_iff h.1, same_eq _ _ h.2]
  · rw [kEq_iff.1 h.1, same_eq _ _ h.2]
  · rw [same_eq _ _ h]
  · rw [same_eq _ _ h.1, same_eq _ _ h.2]
  · rw [same_eq _ _ h.1, same_eq _ _ h.2]
theorem fcL_ok {σ : Nat → Value} {l : List (FQ × AV)} (h : ∀ p ∈ l, FactOk σ p.1 p.2) : FcOk σ (fcL l) := by
  intro q r hq
  induction l with
  | nil => simp [fcL] at hq
  | cons p l ih =>
    obtain ⟨q', r'⟩ := p
    simp only [fcL] at hq
    split at hq
    · rename_i e
      injection hq with hq; subst hq
      rw [← fqEq_iff e]
      exact h (q', r') (by simp)
    · exact ih (fun p hp => h p (by simp [hp])) hq
theorem fact_int {σ : Nat → Value} {op : BinOp} {x y r z : AV} {k : IntKind} {a b : Int} (hx : conc σ x = .it k a) (hy : conc σ y = .it k b) (hr : conc σ r = z) (ht : TyOk σ r) (hn : op ≠ .shl ∧ op ≠ .shr) (h : binInt op k a b = some z) : FactOk σ (.bin op x y) r := by
  refine ⟨ht, fun tc => ?_⟩
  rw [hx, hy, hr, ← h]
  unfold bin
  cases op <;> first | exact absurd rfl hn.1 | exact absurd rfl hn.2 | simp [kEq_iff.2 rfl]

/-! segments -/
noncomputable def evSsF (T : Tab) : List AC → Tm → Ds → Hp → RS → R3 := fun l =>
  List.rec (fun tm ds h rs => .nrm tm ds h rs) (fun c _ ih tm ds h rs => R3.rec .no (fun tm ds h rs => ih tm ds h rs) (fun id tm ds h rs => .ex id tm ds h rs) (fun tm ds h rs => .rt tm ds h rs) (fun v tm ds h rs => .pn v tm ds h rs) (evCF (evCallF T 1000) T.fact c tm ds h rs)) l
theorem evSsF_eq (T : Tab) (l : List AC) : ∀ (tm : Tm) (ds : Ds) (h : Hp) (rs : RS), evSsF T l tm ds h rs = evSs (evCall T 1000) T.fact l tm ds h rs := by
  induction l with
  | nil => intros; rfl
  | cons c l ih =>
    intro tm ds h rs
    simp only [evSs]
    have e : evSsF T (c :: l) tm ds h rs = R3.rec (motive := fun _ => R3) .no (fun tm ds h rs => evSsF T l tm ds h rs) (fun id tm ds h rs => .ex id tm ds h rs) (fun tm ds h rs => .rt tm ds h rs) (fun v tm ds h rs => .pn v tm ds h rs) (evCF (evCallF T 1000) T.fact c tm ds h rs) := rfl
    rw [e, evCF_eq, evCallF_eq]
    cases evC (evCall T 1000) T.fact c tm ds h rs with
    | nrm tm ds h rs => exact ih _ _ _ _
    | _ => rfl
/-- went on, to a state that may be seen so -/
def okN (wk : Wk) (tm' : Tm) (l : List (Nat × AObj)) (next : Nat) : R3 → Bool
  | .nrm tm [] h .no => leS wk tm tm' h l next
  | _ => false
def okE (id : Nat) (wk : Wk) (tm' : Tm) (l : List (Nat × AObj)) (next : Nat) : R3 → Bool
  | .ex id' tm [] h .no => Nat.beq id id' && leS wk tm tm' h l next
  | _ => false
/-- came back with true -/
def okR (ars : List AR) : R3 → Bool
  | .rt tm [] h .no => match fin ars tm h with | .ret (.bo true) _ => true | _ => false
  | _ => false

section
variable {P : Program} {σ σ' : Nat → Value} {C : List Frame} {gs : Gs} {w0 : World} {N loc : Nat} {Q : PostX}

/-- what a law's proof stands on -/
structure Base (P : Program) (σ : Nat → Value) (T : Tab) (gs : Gs) (w0 : World) : Prop where
  depth : 40 ≤ P.depth
  one : ∀ m, (σ m).oneCell' = true
  mixed : P.follows .mixedOrders = true
  tab : TabOk P T
  prim : PrimOk P σ T
  fact : FcOk σ T.fact
  gint : gs.int P.globals.size = true
  rel : Rel P σ (gIo P gs) (gHp gs P.globals.size) w0
theorem Base.call {T : Tab} (B : Base P σ T gs w0) : CallOk P σ (evCall T 1000) := ev_ok B.depth B.one B.mixed B.tab B.prim B.fact 1000

theorem Base.weak {T : Tab} (B : Base P σ T gs w0) {wk : Wk} (hm : WkOk σ σ' wk) (hg : wk.g = P.globals.size) {tm tm' : Tm} {h : Hp} {ol : List (Nat × AObj)} {next : Nat} {a : Act} {cs : List Frame} {w : World}
    (ha : At P σ .normal C (gIo P gs) (gHp gs P.globals.size) w0 N loc tm [] h .no a cs w) (hl : leS wk tm tm' h ol next = true) : At P σ' .normal C (gIo P gs) (gHp gs P.globals.size) w0 N loc tm' [] (mkH next ol) .no a cs w :=
  At_weak hm hg (fun _ => Iff.rfl) (gHp_next _ _) (fun id o h => by obtain ⟨l, h1, _⟩ := gHp_get h; exact (Gs.int_ok B.gint h1).1) rfl ha hl
theorem seg {T : Tab} (B : Base P σ T gs w0) {wk : Wk} (hm : WkOk σ σ' wk) (hg : wk.g = P.globals.size) {l rest : List Code} {al : List AC} (hal : l.map (cC P N loc) = al) {tm tm' : Tm} {h : Hp} {ol : List (Nat × AObj)} {next : Nat} (he : okN wk tm' ol next (evSsF T al tm [] h .no) = true) {a : Act} {cs : List Frame} {w : World}
    (ha : At P σ .normal C (gIo P gs) (gHp gs P.globals.size) w0 N loc tm [] h .no a cs w) (hk : ∀ a cs w, At P σ' .normal C (gIo P gs) (gHp gs P.globals.size) w0 N loc tm' [] (mkH next ol) .no a cs w → WL P .normal rest Q a cs w) : WL P .normal (l ++ rest) Q a cs w := by
  rw [evSsF_eq] at he
  generalize hr : evSs (evCall T 1000) T.fact al tm [] h .no = r at he
  unfold okN at he
  split at he
  · exact At_run B.depth B.one B.mixed B.call B.fact B.rel hal hr ha fun a cs w h1 => hk a cs w (B.weak hm hg h1 he)
  · cases he
theorem segR {T : Tab} (B : Base P σ T gs w0) {l rest : List Code} {al : List AC} (hal : l.map (cC P N loc) = al) {tm : Tm} {h : Hp} {ars : List AR} (he : okR ars (evSsF T al tm [] h .no) = true) {a : Act} {cs : List Frame} {w : World}
    (ha : At P σ .normal C (gIo P gs) (gHp gs P.globals.size) w0 N loc tm [] h .no a cs w) (hk : ∀ tm' h' a cs w, At P σ .normal C (gIo P gs) (gHp gs P.globals.size) w0 N loc tm' [] h' .no a cs w → fin ars tm' h' = .ret (.bo true) h' → Q .ret a cs w) : WL P .normal (l ++ rest) Q a cs w := by
  rw [evSsF_eq] at he
  generalize hr : evSs (evCall T 1000) T.fact al tm [] h .no = r at he
  unfold okR at he
  split at he
  · rename_i tm1 h1
    refine At_ret B.depth B.one B.mixed B.call B.fact B.rel hal hr ha fun a cs w h2 => hk _ _ a cs w h2 ?_
    cases hf : fin ars tm1 h1 with
    | no => rw [hf] at he; cases he
    | pan x hx => rw [hf] at he; cases he
    | ret x hx =>
      rw [hf] at he
      have : hx = h1 := by
        unfold fin at hf
        split at hf
        · injection hf with _ e; exact e.symm
        · cases hf
      subst this
      split at he
      · rename_i e; injection e with e1 e2; rw [e1]
      · cases he
  · cases he
/-- a loop's body goes on -/
theorem bodyN {T : Tab} (B : Base P σ T gs w0) {wk : Wk} (hm : WkOk σ σ' wk) (hg : wk.g = P.globals.size) {c : Code} {ac : AC} (hac : cC P N loc c = ac) {tm tm' : Tm} {h : Hp} {ol : List (Nat × AObj)} {next : Nat} (he : okN wk tm' ol next (evSsF T [ac] tm [] h .no) = true) {a : Act} {cs : List Frame} {w : World}
    (ha : At P σ .normal C (gIo P gs) (gHp gs P.globals.size) w0 N loc tm [] h .no a cs w) (hk : ∀ a cs w, At P σ' .normal C (gIo P gs) (gHp gs P.globals.size) w0 N loc tm' [] (mkH next ol) .no a cs w → Q .normal a cs w) : WX P .normal c Q a cs w := by
  rw [evSsF_eq] at he
  generalize hr : evC (evCall T 1000) T.fact ac tm [] h .no = r
  simp only [evSs, hr] at he
  cases r with
  | nrm tm1 ds1 h1 rs1 =>
    simp only at he
    unfold okN at he
    split at he
    · rename_i e
      injection e with e1 e2 e3 e4; subst e1; subst e2; subst e3; subst e4
      refine WX_mono (At_body B.depth B.one B.mixed B.call B.fact B.rel hac hr (by simp) ha) fun e a cs w hq => ?_
      cases e <;> first | exact hk _ _ _ (B.weak hm hg hq he) | exact hq.elim
    · cases he
  | _ => simp [okN] at he
/-- a loop's body leaves the loop -/
theorem bodyE {T : Tab} (B : Base P σ T gs w0) {wk : Wk} (hm : WkOk σ σ' wk) (hg : wk.g = P.globals.size) {c : Code} {ac : AC} (hac : cC P N loc c = ac) {id : Nat} {tm tm' : Tm} {h : Hp} {ol : List (Nat × AObj)} {next : Nat} (he : okE id wk tm' ol next (evSsF T [ac] tm [] h .no) = true) {a : Act} {cs : List Frame} {w : World}
    (ha : At P σ .normal C (gIo P gs) (gHp gs P.globals.size) w0 N loc tm [] h .no a cs w) (hk : ∀ a cs w, At P σ' .normal C (gIo P gs) (gHp gs P.globals.size) w0 N loc tm' [] (mkH next ol) .no a cs w → Q (.exit id) a cs w) : WX P .normal c Q a cs w := by
  rw [evSsF_eq] at he
  generalize hr : evC (evCall T 1000) T.fact ac tm [] h .no = r
  simp only [evSs, hr] at he
  cases r with
  | ex id' tm1 ds1 h1 rs1 =>
    simp only at he
    unfold okE at he
    split at he
    · rename_i e
      injection e with e0 e1 e2 e3 e4; subst e0; subst e1; subst e2; subst e3; subst e4
      rw [Bool.and_eq_true, Nat.beq_eq] at he
      obtain ⟨rfl, he⟩ := he
      refine WX_mono (At_body B.depth B.one B.mixed B.call B.fact B.rel hac hr (by simp) ha) fun e a cs w hq => ?_
      cases e with
      | exit id2 =>
        obtain ⟨e5, hq⟩ := hq
        subst e5
        exact hk _ _ _ (B.weak hm hg hq he)
      | _ => exact hq.elim
    · cases he
  | _ => simp [okE] at he
end

/-! the table, by its proofs -/
def TrAll {α : Type} (pr : Nat → α → Prop) : Tr α → Nat → Nat → Prop
  | .e, _, _ => True
  | .n v l r, a, b => (∀ x, v = some x → pr b x) ∧ TrAll pr l (2 * a) (a + b) ∧ TrAll pr r (2 * a) (2 * a + b)
theorem TrAll_get {α : Type} {pr : Nat → α → Prop} : ∀ {t : Tr α} {a b : Nat}, TrAll pr t a b → ∀ k x, t.get k = some x → pr (a * k + b) x := by
  intro t
  induction t with
  | e => intro a b _ k x h; simp [Tr.get] at h
  | n v l r ihl ihr =>
    intro a b h k x hk
    cases k with
    | zero =>
      simp only [Tr.get] at hk
      have := h.1 x hk
      simpa using this
    | succ k =>
      simp only [Tr.get] at hk
      have hk2 := Nat.div_add_mod k 2
      generalize hq : Nat.mod k 2 = q at hk
      have hm : k % 2 = q := hq
      have hd : Nat.div k 2 = k / 2 := rfl
      cases q with
      | zero =>
        simp only at hk
        have := ihl h.2.1 _ x hk
        rw [hd] at this
        have e : 2 * a * (k / 2) + (a + b) = a * (k + 1) + b := by
          have : k = 2 * (k / 2) := by omega
          generalize k / 2 = m at this
          subst this
          rw [Nat.mul_add, Nat.mul_one, Nat.mul_comm 2 a, Nat.mul_assoc]; omega
        rwa [e] at this
      | succ q =>
        simp only at hk
        have := ihr h.2.2 _ x hk
        rw [hd] at this
        have e : 2 * a * (k / 2) + (2 * a + b) = a * (k + 1) + b := by
          have : k = 2 * (k / 2) + 1 := by omega
          generalize k / 2 = m at this
          subst this
          rw [Nat.mul_comm 2 a, Nat.mul_assoc, show a * (2 * m + 1 + 1) = a * (2 * m) + a * 2 from by rw [Nat.add_assoc, Nat.mul_add]]; omega
        rwa [e] at this
theorem ent {α : Type} {pr : Nat → α → Prop} {b : Nat} {c : α} (h : pr b c) : ∀ x, some c = some x → pr b x := fun x e => by injection e with e; exact e ▸ h
theorem entN {α : Type} {pr : Nat → α → Prop} {b : Nat} : ∀ x, (none : Option α) = some x → pr b x := fun x e => by cases e
end Go.Ev
namespace Go.Ev
def insS (x : Nat × Nat) : List (Nat × Nat) → List (Nat × Nat)
  | [] => [x]
  | y :: l => match sLt y.1 y.2 x.1 x.2 with | true => y :: insS x l | false => x :: y :: l
def sortS : List (Nat × Nat) → List (Nat × Nat)
  | [] => []
  | x :: l => insS x (sortS l)
def keysS : List (AV × AV × Nat) → Option (List (Nat × Nat))
  | [] => some []
  | (.st l v, _, _) :: es => match keysS es with | some r => some ((l, v) :: r) | none => none
  | _ => none
def stL : List (Nat × Nat) → List AV
  | [] => []
  | (l, v) :: r => .st l v :: stL r
/-- (*Disk).List -/
def pList : List AV → Hp → RC
  | [.pt d 0], h => match h.get d with
    | some (.cells _ [.mp m, _, _, _]) => match h.get m with
      | some (.map es _) => match keysS es with
        | some ks => match sortS ks with
          | [] => .ret .nsl h
          | ks => .ret (.sl h.next 0 ks.length ks.length 1) (h.new (.cells false (stL ks))).2
        | none => .no
      | _ => .no
    | _ => .no
  | _, _ => .no
def sumB : List (AV × AV × Nat) → Nat → Option Nat
  | [], n => some n
  | (_, .ag [.st l _, _], _) :: es, n => sumB es (n + l)
  | _, _ => none
def pUsed : List AV → Hp → RC
  | [.pt d 0], h => match h.get d with
    | some (.cells _ [.mp m, _, _, _]) => match h.get m with
      | some (.map es _) => match sumB es 0 with | some n => .ret (.it .i64 (Int.ofNat n)) h | none => .no
      | _ => .no
    | _ => .no
  | _, _ => .no
def pName : List AV → Hp → RC
  | [.it .i64 (.ofNat n)], h =>
    match Nat.blt n 100000000 with
    | true =>
      let d (k : Nat) : Nat := 48 + n / 10 ^ k % 10
      .ret (.st 10 (0x6a2e * 256 ^ 8 + (d 7 * 256 ^ 7 + d 6 * 256 ^ 6 + d 5 * 256 ^ 5 + d 4 * 256 ^ 4 + d 3 * 256 ^ 3 + d 2 * 256 ^ 2 + d 1 * 256 + d 0))) h
    | false => .no
  | _, _ => .no
def pCmp : List AV → Hp → RC
  | [.st l v, .st l' v'], h => .ret (.it .i64 (match sLt l v l' v' with | true => -1 | false => match Nat.beq l l' && Nat.beq v v' with | true => 0 | false => 1)) h
  | _, _ => .no
def pCopy : List AV → Hp → RC
  | [.pt d 0], h => match h.get d with
    | some (.cells _ [.mp m, a, b, c]) => match h.get m with
      | some (.map es k) =>
        match h.new (.map es k) with
        | (m', h) => .ret (.pt h.next 0) (h.new (.cells false [.mp m', a, b, c])).2
      | _ => .no
    | _ => .no
  | _, _ => .no
/-- (*Round).Turn -/
def turnGo (l may : List AV) (n next : Nat) : Nat → Nat → Option Nat
  | 0, _ => none
  | f + 1, k => match Nat.blt k n with
    | false => none
    | true =>
      let i := Nat.mod (next + k) n
      match nth l (2 * i), nth l (2 * i + 1) with
      | some tag, some (.it .u32 (.ofNat (p + 1))) => match may.any (AV.same tag) with | true => some i | false => turnGo l may n next f (k + 1)
      | _, _ => turnGo l may n next f (k + 1)
def pTurn : List AV → Hp → RC
  | [.pt r 0, may], h => match h.get r, srcCells h 1 may with
    | some (.cells _ [.sl lid 0 n c ex, .it .i64 (.ofNat next), .bo true]), some (_, may) => match h.get lid with
      | some (.cells _ l) => match turnGo l may n next 1000 0 with
        | some i => match nth l (2 * i), nth l (2 * i + 1) with
          | some tag, some (.it .u32 (.ofNat p)) =>
            let p' := match Nat.beq p 4294967295 with | true => p | false => p - 1
            match spl (2 * i + 1) [.it .u32 (Int.ofNat p')] l with
            | some l => .ret (.tu [tag, .bo true]) ((h.put lid (.cells false l)).put r (.cells false [.sl lid 0 n c ex, .it .i64 (Int.ofNat (i + 1)), .bo true]))
            | none => .no
          | _, _ => .no
        | none => .ret (.tu [.st 0 0, .bo false]) h
      | _ => .no
    | some (.cells _ [.nsl, _, .bo true]), _ => .ret (.tu [.st 0 0, .bo false]) h
    | _, _ => .no
  | _, _ => .no
def prims (find : String → Option Nat) : Nat → Option (List AV → Hp → RC) := fun f =>
  if find "(*posthouse/disk.Disk).List" == some f then some pList
  else if find "(*posthouse/disk.Disk).Used" == some f then some pUsed
  else if find "posthouse/journal.name" == some f then some pName
  else if find "strings.Compare" == some f then some pCmp
  else if find "(*posthouse/disk.Disk).Copy" == some f then some pCopy
  else if find "(*posthouse/credit.Round).Turn" == some f then some pTurn
  else none
/-- the globals -/
def addG : List (Nat × List AV) → Hp → Hp
  | [], h => h
  | (g, l) :: gs, h => addG gs (h.put g (.cells true l))
def crcTab : List AV := ([0x00000000, 0x105ec76f, 0x20bd8ede, 0x30e349b1, 0x417b1dbc, 0x5125dad3, 0x61c69362, 0x7198540d, 0x82f63b78, 0x92a8fc17, 0xa24bb5a6, 0xb21572c9, 0xc38d26c4, 0xd3d3e1ab, 0xe330a81a, 0xf36e6f75] : List Nat).map fun n => AV.it .u32 (Int.ofNat n)
end Go.Ev
namespace Go.Ev
open Go Go.RowKit

section
variable {P : Program} {σ : Nat → Value}

theorem VRs_one {ι : Io} {n : Nat} {x : AV} {a : Array Value} (h : VRs σ ι n [x] a.toList) : ∃ v, a = #[v] ∧ VR σ ι n x v := by
  simp only [VRs] at h
  obtain ⟨v, ws, e, h1, rfl⟩ := h
  exact ⟨v, Array.toList_inj.1 e, h1⟩
theorem VRs_two {ι : Io} {n : Nat} {x y : AV} {a : Array Value} (h : VRs σ ι n [x, y] a.toList) : ∃ v u, a = #[v, u] ∧ VR σ ι n x v ∧ VR σ ι n y u := by
  simp only [VRs] at h
  obtain ⟨v, ws, e, h1, u, us, rfl, h2, rfl⟩ := h
  exact ⟨v, u, Array.toList_inj.1 e, h1, h2⟩

/-- an entry of the model's: a function without a body -/
structure IsExt (P : Program) (f : Nat) (e : Array Value → Sem Value) : Prop where
  fn : ∃ fn, P.funcs[f]? = some fn ∧ (fn.name == "runtime.NumGoroutine") = false ∧ fn.body.isNone = true ∧ Extern.findNext fn = none ∧ Extern.find fn = some e
theorem IsExt.run {f : Nat} {e : Array Value → Sem Value} (h : IsExt P f e) {args : Array Value} {w w' : World} {v : Value} (hr : (e args).run P w = .ok v w') : (callFunc f args).run P w = .ok (.value v) w' := by
  obtain ⟨fn, h1, h2, h3, h4, h5⟩ := h.fn
  rw [run_callFunc_extern h1 h2 h3 h4 h5, hr]; rfl

theorem compareBytes_less : ∀ (a b : List UInt8), Lib.compareBytes a b = if Op.bytesLess a b then -1 else if a = b then 0 else 1 := by
  intro a
  induction a with
  | nil => intro b; cases b <;> simp [Lib.compareBytes, Op.bytesLess]
  | cons x a ih =>
    intro b
    cases b with
    | nil => simp [Lib.compareBytes, Op.bytesLess]
    | cons y b =>
      simp only [Lib.compareBytes, Op.bytesLess]
      rw [ih b]
      by_cases h1 : x < y
      · simp [h1]
      · by_cases h2 : y < x
        · have h3 : x ≠ y := fun e => by subst e; exact h1 h2
          simp [h1, h2, h3]
        · have h3 : x = y := by
            apply UInt8.toNat_inj.1
            rw [UInt8.lt_iff_toNat_lt] at h1 h2
            omega
          subst h3
          simp [h1]

/-- strings' order -/
theorem cmp_ok {f : Nat} (he : IsExt P f Extern.BytealgCompare.compare) (args : List AV) (h : Hp) : CallR P σ f args h (pCmp args h) := by
  unfold pCmp
  split
  · rename_i h l v l' v'
    intro ι w vargs hR ha
    obtain ⟨x, y, rfl, hx, hy⟩ := VRs_two ha
    simp only [VR] at hx hy
    obtain ⟨a, rfl, rfl, rfl⟩ := hx
    obtain ⟨b, rfl, rfl, rfl⟩ := hy
    refine .inr ⟨_, w, ι, he.run (Lib.run_compareString a b w), Post_refl hR, ?_⟩
    simp only [VR]
    congr 1
    have e1 : a.data.toList.length = a.size := Array.length_toList
    have e2 : b.data.toList.length = b.size := Array.length_toList
    have e3 : Op.bytesLess a.data.toList b.data.toList = sLt a.size (encB a.data.toList) b.size (encB b.data.toList) := by rw [sLt_iff_aux, e1, e2]
    rw [compareBytes_less]
    simp only [e3]
    cases hl : sLt a.size (encB a.data.toList) b.size (encB b.data.toList) with
    | true => simp
    | false =>
      simp only [Bool.false_eq_true, if_false]
      by_cases hab : a.data.toList = b.data.toList
      · have hs : a.size = b.size := by rw [← e1, ← e2, hab]
        rw [if_pos hab, hab, hs]
        simp
      · rw [if_neg hab]
        have : (Nat.beq a.size b.size && Nat.beq (encB a.data.toList) (encB b.data.toList)) = false := by
          rw [← Bool.not_eq_true, Bool.and_eq_true, Nat.beq_eq, Nat.beq_eq]
          intro hh
          exact hab (by rw [(bytes_eq_iff).2 hh])
        rw [this]
  · trivial

/-- maps.clone -/
def pClone : List AV → Hp → RC
  | [.ifc t (.mp m)], h => match h.get m with
    | some (.map es k) => .ret (.ifc t (.mp h.next)) (h.new (.map es k)).2
    | _ => .no
  | _, _ => .no
theorem clone_ok {f : Nat} (he : IsExt P f Extern.MapsClone.clone) (args : List AV) (h : Hp) : CallR P σ f args h (pClone args h) := by
  unfold pClone
  split
  · rename_i h t m
    split
    · rename_i es k hg
      intro ι w vargs hR ha
      obtain ⟨x, rfl, hx⟩ := VRs_one ha
      simp only [VR] at hx
      obtain ⟨y, rfl, hd, rfl⟩ := hx
      obtain ⟨_, hlt, ents, h1, h2, h3, h4⟩ := hR.live m _ hg
      have hag := Ag_upd hR.fresh ⟨w.heap.size, 0, 0⟩
      refine .inr ⟨.iface t (.map (some w.heap.size)), { w with heap := w.heap.push (.map ents k) }, _, he.run ?_, Post_new hR (newAt_push w _) (sz := 0) ⟨ents, push_get w _, h2, VRs_any hag h3, VRs_any hag h4⟩, ?_⟩
      · show Sem.run P (do
          let .map entries clock ← getObj (ι m).blk | stuck "maps.clone: a map expected"
          pure (Value.iface t (Value.map (some (← newObj (Obj.map entries clock)))))) w = _
        have hg : (getObj (ι m).blk).run P w = .ok (.map ents k) w := by simp [getObj, Sem.run, h1]
        simp only [Sem.run_bind, hg, Result.andThen, run_newObj, Sem.run_pure]
      · simp only [VR]
        exact ⟨_, rfl, upd_d _ _ _, by rw [upd_same]⟩
    · trivial
  · trivial

/-! strings.Repeat, strings.Join, by the shelf's contracts -/
def repN (l v : Nat) : Nat → Nat
  | 0 => 0
  | c + 1 => v * 256 ^ (c * l) + repN l v c
def pRep : List AV → Hp → RC
  | [.st l v, .it .i64 (.ofNat c)], h => match Nat.ble (l * c) 1000000 && Nat.ble c 1000000 with
    | true => .ret (.st (c * l) (repN l v c)) h
    | false => .no
  | _, _ => .no
def RepC (P : Program) (f : Nat) : Prop := (∀ args w, (callFunc f args).run P w = .ok (.enter f args) w) ∧
  ∀ (s : ByteArray) (c : Nat) (w : World), c ≤ 9223372036854775807 → s.size * c ≤ 140737488355328 →
    Calls P f #[.string s, .int .i64 c] w fun e w' => e = .returned (.string ⟨(Lib.repeatL s.data.toList c).toArray⟩) ∧ Below w.heap.size w w'
theorem Post_below {ι : Io} {h : Hp} {w w' : World} (hR : Rel P σ ι h w) (hb : Below w.heap.size w w') : Post P σ ι h w ι h w' where
  ag := Ag.refl
  newd := fun _ h => .inl h
  next := Nat.le_refl _
  rel := {
    live := fun id o hg => by
      obtain ⟨h1, h2, h3⟩ := hR.live id o hg
      exact ⟨h1, Nat.lt_of_lt_of_le h2 hb.size, OR_any (hb.block _ h2) (fun _ h => ⟨h, rfl⟩) h3⟩
    inj := hR.inj
    dom := hR.dom
    glob := hR.glob }
  fra := ⟨hb.size, fun b hlt _ => hb.block b hlt, hb.tape, hb.os, hb.output⟩
  old := fun id o hg => .inl ⟨o, hg, fun h => h⟩
theorem encB_repeat (l : List UInt8) : ∀ c, encB (Lib.repeatL l c) = repN l.length (encB l) c := by
  intro c
  induction c with
  | zero => rfl
  | succ c ih => simp only [Lib.repeatL, repN]; rw [encB_append, Lib.repeatL_length, ih]
theorem rep_ok {f : Nat} (hc : RepC P f) (args : List AV) (h : Hp) : CallR P σ f args h (pRep args h) := by
  unfold pRep
  split
  · rename_i h l v c
    split
    · rename_i hle
      rw [Bool.and_eq_true, Nat.ble_eq, Nat.ble_eq] at hle
      intro ι w vargs hR ha
      obtain ⟨x, y, rfl, hx, hy⟩ := VRs_two ha
      simp only [VR] at hx hy
      obtain ⟨s, rfl, rfl, rfl⟩ := hx
      subst hy
      refine .inl ⟨hc.1 _ _, Calls.mono (hc.2 s c w (by omega) (by omega)) ?_⟩
      rintro e w' ⟨rfl, hb⟩
      refine ⟨_, rfl, ι, Post_below hR hb, ?_⟩
      simp only [VR]
      refine ⟨_, rfl, ?_, ?_⟩
      · show (Lib.repeatL s.data.toList c).toArray.size = _
        rw [List.size_toArray, Lib.repeatL_length, Array.length_toList]; rfl
      · simp only [encB_repeat]
        rw [Array.length_toList]; rfl
    · trivial
  · trivial

def stAll : List AV → Nat → Nat → Option (Nat × Nat)
  | [], l, v => some (l, v)
  | .st l' v' :: r, l, v => stAll r (l + l') (v * 256 ^ l' + v')
  | _, _, _ => none
def pJoin : List AV → Hp → RC
  | [.sl id off len cap _, .st 0 _], h => match slCells h 1 id off len with
    | some cs => match stAll cs 0 0 with
      | some (l, v) => match Nat.ble l 1000000 && Nat.ble len 1000000 && Nat.ble len cap with
        | true => .ret (.st l v) h
        | false => .no
      | none => .no
    | none => .no
  | _, _ => .no
def JoinC (P : Program) (f : Nat) : Prop := (∀ args w, (callFunc f args).run P w = .ok (.enter f args) w) ∧
  ∀ (bk o c : Nat) (xs : List ByteArray) (sep : ByteArray) (w : World),
    (∀ (j : Nat) x, xs[j]? = some x → w.cell? ⟨bk, o + j, none⟩ = some (.string x)) → bk < w.heap.size → xs.length ≤ 140737488355328 → xs.length ≤ c → (Lib.join (xs.map (·.data.toList)) sep.data.toList).length ≤ 140737488355328 →
    Calls P f #[.slice (some ⟨bk, o, none⟩) xs.length c, .string sep] w fun e w' => e = .returned (.string ⟨(Lib.join (xs.map (·.data.toList)) sep.data.toList).toArray⟩) ∧ Below w.heap.size w w'
theorem stAll_ok {ι : Io} {n : Nat} : ∀ (cs : List AV) (vs : List Value) (l v l' v' : Nat) (p : List UInt8), VRs σ ι n cs vs → stAll cs l v = some (l', v') → p.length = l → encB p = v →
    ∃ xs : List ByteArray, vs = xs.map Value.string ∧ (p ++ (xs.map (·.data.toList)).flatten).length = l' ∧ encB (p ++ (xs.map (·.data.toList)).flatten) = v' := by
  intro cs
  induction cs with
  | nil =>
    intro vs l v l' v' p h1 h2 h3 h4
    simp only [VRs] at h1; subst h1
    simp only [stAll] at h2; injection h2 with h2; injection h2 with e1 e2
    exact ⟨[], rfl, by simp [h3, e1], by simp [h4, e2]⟩
  | cons c cs ih =>
    intro vs l v l' v' p h1 h2 h3 h4
    simp only [VRs] at h1
    obtain ⟨x, ws, rfl, hx, hw⟩ := h1
    cases c <;> simp only [stAll, reduceCtorEq] at h2
    simp only [VR] at hx
    obtain ⟨b, rfl, rfl, rfl⟩ := hx
    have hl : b.data.toList.length = b.size := by rw [Array.length_toList]; rfl
    obtain ⟨xs, e1, e2, e3⟩ := ih ws _ _ l' v' (p ++ b.data.toList) hw h2 (by rw [List.length_append, h3, hl]) (by rw [encB_append, h4, hl])
    exact ⟨b :: xs, by rw [e1]; rfl, by simpa using e2, by simpa using e3⟩
theorem slCells_one {h : Hp} {w : World} {ι : Io} (hR : Rel P σ ι h w) {id off len : Nat} {cs : List AV} (hc : slCells h 1 id off len = some cs) : (ι id).blk < w.heap.size ∧ cs.length = len ∧ ∃ vs : List Value, VRs σ ι 0 cs vs ∧ ∀ j v, vs[j]? = some v → w.cell? ⟨(ι id).blk, (ι id).base + off + j, none⟩ = some v := by
  unfold slCells at hc
  split at hc
  · rename_i ro l hg
    split at hc
    · rename_i l2 hd
      rw [dropE_iff] at hd
      rw [takeE_iff] at hc
      obtain ⟨hd1, rfl⟩ := hd
      obtain ⟨ht1, rfl⟩ := hc
      obtain ⟨k1, k2, c, e, fr, h1, h2, h3, h4, h5⟩ := hR.live id _ hg
      rw [Nat.mul_one] at ht1 ⊢
      have hlen : ((l.drop off).take len).length = len := by rw [List.length_take]; omega
      refine ⟨k2, hlen, ((c.toList.drop ((ι id).base + off)).take len), ?_, ?_⟩
      · refine VRs_of_get ?_ ?_
        · rw [hlen, List.length_take, List.length_drop, Array.length_toList]
          rw [List.length_drop] at ht1
          omega
        · intro i x v hx hv
          rw [List.getElem?_take] at hx hv
          split at hx
          · rename_i hi
            rw [if_pos hi] at hv
            rw [List.getElem?_drop] at hx hv
            obtain ⟨_, v', h6, h7⟩ := h4 (off + i) x hx
            have : c.toList[(ι id).base + off + i]? = some v' := by rw [← h6]; simp [Nat.add_assoc]
            rw [this] at hv
            injection hv with hv; subst hv
            exact VR_n h7
          · cases hx
      · intro j v hv
        rw [List.getElem?_take] at hv
        split at hv
        · rw [List.getElem?_drop] at hv
          unfold World.cell?
          simp only [h1]
          simpa using hv
        · cases hv
    · cases hc
  · cases hc
theorem join_ok {f : Nat} (hc : JoinC P f) (args : List AV) (h : Hp) : CallR P σ f args h (pJoin args h) := by
  unfold pJoin
  split
  · rename_i h id off len cap g v
    split
    · rename_i cs hcs
      split
      · rename_i l v' hst
        split
        · rename_i hle
          rw [Bool.and_eq_true, Bool.and_eq_true, Nat.ble_eq, Nat.ble_eq, Nat.ble_eq] at hle
          intro ι w vargs hR ha
          obtain ⟨x, y, rfl, hx, hy⟩ := VRs_two ha
          simp only [VR] at hx hy
          obtain ⟨sep, rfl, hs1, _⟩ := hy
          obtain ⟨hid, o, cap', rfl, hcap, _, ho⟩ := hx
          obtain ⟨q1, q2, vs, q3, q4⟩ := slCells_one hR hcs
          obtain ⟨xs, e1, e2, e3⟩ := stAll_ok cs vs 0 0 l v' [] q3 hst rfl rfl
          subst e1
          have hxl : xs.length = len := by
            have := VRs_length q3
            rw [q2, List.length_map] at this
            exact this.symm
          have hsep : sep.data.toList = [] := by
            apply List.eq_nil_of_length_eq_zero
            rw [Array.length_toList]; exact hs1
          have hjoin : Lib.join (xs.map (·.data.toList)) sep.data.toList = (xs.map (·.data.toList)).flatten := by
            rw [hsep]
            cases xs with
            | nil => rfl
            | cons x r => rw [List.map_cons, Lib.join_cons]; simp [Lib.joinTail]; rfl
          simp only [List.nil_append] at e2 e3
          have hN : (Lib.join (xs.map (·.data.toList)) sep.data.toList).length = l := by rw [hjoin]; exact e2
          refine .inl ⟨hc.1 _ _, ?_⟩
          have hcall := hc.2 (ι id).blk o cap' xs sep w (fun j x hx => ?_) q1 (by omega) (by omega) (by rw [hN]; omega)
          · rw [hxl] at hcall
            refine Calls.mono hcall ?_
            rintro e w' ⟨rfl, hb⟩
            refine ⟨_, rfl, ι, Post_below hR hb, ?_⟩
            simp only [VR]
            refine ⟨_, rfl, ?_, ?_⟩
            · show (Lib.join (xs.map (·.data.toList)) sep.data.toList).toArray.size = _
              rw [List.size_toArray, hN]
            · simp only [hjoin]; exact e3
          · have := q4 j (.string x) (by rw [List.getElem?_map, hx]; rfl)
            rcases ho with ⟨rfl, _⟩ | ⟨h0, _⟩
            · exact this
            · have := (List.getElem?_eq_some_iff.1 hx).1
              omega
        · trivial
      · trivial
    · trivial
  · trivial
end
end Go.Ev
namespace Go.Ev
open Go Go.Lib

/-- a laid table of integers: the start's state -/
theorem rel_table {P : Program} {σ : Nat → Value} {w : World} {name : String} {g n : Nat} {t e : TypeId} {k : IntKind} {zs : List Int} (hg : P.globalNamed name = some g) (hlt : g < P.globals.size) (hy : (P.globals[g]?).map (·.type) = some t) (ht : P.underlying t = some (.array n e)) (he : P.underlying e = some (.int k)) (ce : P.cellsOf e = 1) (ct : P.cellsOf t = n)
    (h : VarReads P w name (tabData k zs)) : Rel P σ (gIo P [(g, zs.map (AV.it k))]) (gHp [(g, zs.map (AV.it k))] P.globals.size) w := by
  obtain ⟨g', t', cs, fuel, p, h1, h2, h3, h4⟩ := h
  obtain rfl := Option.some.inj (hg.symm.trans h1)
  obtain rfl := Option.some.inj (hy.symm.trans h2)
  have hcs := cells_of_tab ht he ce ct h4
  unfold World.var? at h3
  rw [hg] at h3
  simp only [Option.bind_some] at h3
  have hgz : gSz [(g, zs.map (AV.it k))] g = zs.length := by simp [gSz]
  refine ⟨fun id o ho => ?_, fun id id' o o' h1 h2 _ => ?_, fun id hd => by rw [gHp_next]; exact hd, fun g' hg' => ⟨hg', rfl, rfl⟩⟩
  · obtain ⟨l, hl, rfl⟩ := gHp_get ho
    simp only [List.mem_singleton, Prod.mk.injEq] at hl
    obtain ⟨rfl, rfl⟩ := hl
    split at h3
    · rename_i c e fr hc
      refine ⟨hlt, (Array.getElem?_eq_some_iff.1 hc).1, ?_⟩
      injection h3 with h3; subst h3
      have hsz : c.size = zs.length := by rw [← Array.length_toList, hcs]; simp
      refine ⟨c, e, fr, hc, by rw [hsz]; exact hgz.symm, by simp [gIo, hsz], fun i x hx => ?_, fun h => by cases h⟩
      rw [List.getElem?_map, Option.map_eq_some_iff] at hx
      obtain ⟨z, hz, rfl⟩ := hx
      refine ⟨rfl, .int k z, ?_, by simp [VR]⟩
      show c[0 + i]? = _
      rw [Nat.zero_add, ← Array.getElem?_toList, hcs]
      simp [hz]
    · cases h3
  · obtain ⟨_, hl, _⟩ := gHp_get h1
    obtain ⟨_, hl', _⟩ := gHp_get h2
    simp only [List.mem_singleton, Prod.mk.injEq] at hl hl'
    rw [hl.1, hl'.1]
end Go.Ev
