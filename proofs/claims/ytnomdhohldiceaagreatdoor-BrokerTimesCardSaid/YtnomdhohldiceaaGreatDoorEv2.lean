/-
  EvS25 .. EvD14: a part of the proof of BrokerTimesCardSaid: an evaluator of the program's form over partly known values, proved sound against the model, and its runs. Conditions: none beyond the given row.
-/
import Derived.Test.YtnomdhohldiceaaGreatDoorEv1
import Derived.Recover
import Derived.Scope
import Derived.Orders
import Derived.AtR
import Derived.RangeFuncIn
import Derived.RangeFuncLeaves
import Derived.RangeFuncRecord
namespace Go.Ev
open Go

section
variable {P : Program} {σ : Nat → Value} {ι : Io}

theorem slCells_ok {h : Hp} {es id off len : Nat} {new : List AV} (hc : slCells h es id off len = some new) {w : World} (hR : Rel P σ ι h w) {o cap' : Nat} (ho : (o = (ι id).base + off) ∨ (len = 0 ∧ cap' = 0)) :
    new.length = len * es ∧ new.all AV.one = true ∧ ∀ j, j ≤ len → ∃ vs : List Value, (loadCells ⟨(ι id).blk, o, none⟩ (j * es)).run P w = .ok vs.toArray w ∧ VRs σ ι h.next (new.take (j * es)) vs := by
  unfold slCells at hc
  split at hc
  · rename_i ro cs hget
    split at hc
    · rename_i l' hl'
      rw [dropE_iff] at hl'
      obtain ⟨hd1, rfl⟩ := hl'
      rw [takeE_iff, List.length_drop] at hc
      obtain ⟨ht1, rfl⟩ := hc
      obtain ⟨_, _, hO⟩ := hR.live id _ hget
      refine ⟨by rw [List.length_take, List.length_drop]; omega, ?_, fun j hj => ?_⟩
      · obtain ⟨vs, k1, k2, k3⟩ := row_cells (P := P) hO (o := off) (k := len * es) (by omega) _ rfl
        exact k3
      · have hle : j * es ≤ len * es := Nat.mul_le_mul_right _ hj
        rcases ho with rfl | ⟨rfl, _⟩
        · obtain ⟨vs, k1, k2, _⟩ := row_cells (P := P) hO (o := off) (k := j * es) (by omega) _ rfl
          refine ⟨vs, k1, ?_⟩
          rw [List.take_take, Nat.min_eq_left hle]; exact k2
        · have : j = 0 := by omega
          subst this
          exact ⟨[], by simp [loadCells, loadCellsFrom], by simp [VRs]⟩
    · cases hc
  · cases hc

theorem srcCells_ok {h : Hp} {es : Nat} {x : AV} {k : Nat} {new : List AV} (hc : srcCells h es x = some (k, new)) {w : World} (hR : Rel P σ ι h w) {v : Value} (hv : VR σ ι h.next x v) :
    (Builtin.lenOf v).run P w = .ok k w ∧ new.length = k * es ∧ new.all AV.one = true ∧ ∀ j, j ≤ k → ∃ vs : List Value, (Builtin.firstCells es j v).run P w = .ok vs.toArray w ∧ VRs σ ι h.next (new.take (j * es)) vs := by
  unfold srcCells at hc
  split at hc
  · injection hc with hc; injection hc with h1 h2; subst h1; subst h2
    simp only [VR] at hv; subst hv
    refine ⟨rfl, by simp, rfl, fun j hj => ⟨[], ?_, by simp [VRs]⟩⟩
    rfl
  · split at hc
    · injection hc with hc; injection hc with h1 h2; subst h1; subst h2
      simp only [VR] at hv
      obtain ⟨b, rfl, rfl, rfl⟩ := hv
      obtain ⟨q1, q2⟩ := bytesNat_VRs (σ := σ) (ι := ι) (n := h.next) b
      refine ⟨rfl, ?_, q2, fun j hj => ?_⟩
      · have := VRs_length q1; rw [this]; simp
      · refine ⟨((b.data.toList.map fun u => Value.int .u8 (u.toNat : Int))).take (j * 1), ?_, VRs_take q1 _⟩
        unfold Builtin.firstCells
        simp only [Sem.run_pure, Result.ok.injEq, and_true]
        rw [← Array.toList_inj]
        simp only [Array.toList_map, Nat.mul_one]
        rw [extract_data_list]
        simp [List.map_take]
    · cases hc
  · rename_i id off len cap g
    split at hc
    · rename_i r hr
      injection hc with hc; injection hc with h1 h2; subst h1; subst h2
      simp only [VR] at hv
      obtain ⟨_, o, cap', rfl, hcap, hg, ho⟩ := hv
      obtain ⟨k1, k2, k3⟩ := slCells_ok hr hR (o := o) (cap' := cap') (by rcases ho with ⟨a, _⟩ | a; exact .inl a; exact .inr a)
      exact ⟨rfl, k1, k2, k3⟩
    · cases hc
  · cases hc

theorem zeroCells_list (zs : Array Value) (k : Nat) : (Builtin.zeroCells zs k).toList = (List.replicate k zs.toList).flatten := by
  unfold Builtin.zeroCells
  exact zeros_list zs k

theorem wClr_ok (hσ : ∀ m, (σ m).oneCell' = true) {h : Hp} {w : World} (hR : Rel P σ ι h w) {ts : Array TypeId} {t e : TypeId} (hts : ts[0]? = some t) (ht : P.underlying t = some (.slice e)) {z : List AV} (hz0 : tZeroC P e = some z) {s x : AV} {rs rs' : RS} {h' : Hp}
    (hz : wClr h rs z s = .v x h' rs') {v : Value} (hv : VR σ ι h.next s v) (ty : TypeId) : WV P σ ι h w (Builtin.clear_ ts ty #[v]) x h' ∧ rs' = rs := by
  obtain ⟨zv, hzr, hz1, hz2⟩ := tZeroC_ok (σ := σ) (ι := ι) (n := h.next) hz0 hσ w
  unfold wClr at hz
  split at hz
  · injection hz with h5 h6 h7; subst h5; subst h6; subst h7
    simp only [VR] at hv; subst hv
    refine ⟨⟨.tuple #[], w, ι, ?_, Post_refl hR, by simp [VR, VRs]⟩, rfl⟩
    unfold Builtin.clear_; simp [hts, run_underlying ht]
  · rename_i id off len cap g
    simp only [VR] at hv
    obtain ⟨_, o, cap', rfl, hcap, hg, ho⟩ := hv
    split at hz
    · injection hz with h5 h6 h7; subst h5; subst h6; subst h7
      refine ⟨⟨.tuple #[], w, ι, ?_, Post_refl hR, by simp [VR, VRs]⟩, rfl⟩
      unfold Builtin.clear_; simp [hts, run_underlying ht]
    · rename_i hlen
      split at hz
      · rename_i l hget
        split at hz
        · rename_i l' hl'
          injection hz with h5 h6 h7; subst h5; subst h6; subst h7
          have ho' : o = (ι id).base + off := by
            rcases ho with ⟨a, _⟩ | ⟨a, _⟩
            · exact a
            · exact absurd a hlen
          subst ho'
          obtain ⟨w', k1, k2⟩ := store_row (P := P) hR hget hl' (VRs_rep hz1 len) (rep_all hz2 len) hσ
          refine ⟨⟨.tuple #[], w', ι, ?_, k2, by simp [VR, VRs]⟩, rfl⟩
          unfold Builtin.clear_
          have hl0 : len ≠ 0 := hlen
          simp only [hts, Sem.run_bind, run_underlying ht, Result.andThen_ok, List.getElem?_toArray, List.getElem?_cons_zero]
          cases len with
          | zero => exact absurd rfl hl0
          | succ len =>
            simp only [Sem.run_bind, hzr, Result.andThen_ok, zeroCells_list, k1, Sem.run_pure]
        · cases hz
      · cases hz
  · cases hz

theorem wCopy_ok (hσ : ∀ m, (σ m).oneCell' = true) {h : Hp} {w : World} (hR : Rel P σ ι h w) {ts : Array TypeId} {t e : TypeId} (hts : ts[0]? = some t) (ht : P.underlying t = some (.slice e)) {es : Nat} (hes : tSize P e = some es) {d s x : AV} {rs rs' : RS} {h' : Hp}
    (hz : wCopy h rs es d s = .v x h' rs') {vd vs : Value} (hd : VR σ ι h.next d vd) (hs : VR σ ι h.next s vs) (ty : TypeId) : WV P σ ι h w (Builtin.copy_ ts ty #[vd, vs]) x h' ∧ rs' = rs := by
  unfold wCopy at hz
  split at hz
  · rename_i p hp
    obtain ⟨k, new⟩ := p
    obtain ⟨q1, q2, q3, q4⟩ := srcCells_ok hp hR hs
    injection hz with h5 h6 h7; subst h5; subst h6; subst h7
    simp only [VR] at hd; subst hd
    obtain ⟨us, q5, q6⟩ := q4 (Nat.min k 0) (Nat.min_le_left _ _)
    refine ⟨⟨goInt 0, w, ι, ?_, Post_refl hR, by simp [VR, goInt]⟩, rfl⟩
    unfold Builtin.copy_
    simp only [Nat.min_zero, Nat.zero_mul] at q5
    have e0 : Nat.min k 0 = 0 := Nat.min_zero k
    simp [hts, run_underlying ht, q1, run_sizeOf hes]
    rw [e0] at *
    simp [q5]
  · rename_i id off len cap g k new hsrc
    obtain ⟨q1, q2, q3, q4⟩ := srcCells_ok hsrc hR hs
    simp only [VR] at hd
    obtain ⟨_, o, cap', rfl, hcap, hg, ho⟩ := hd
    split at hz
    · rename_i l new' hget htk
      rw [takeE_iff] at htk
      obtain ⟨ht1, rfl⟩ := htk
      split at hz
      · rename_i l' hl'
        injection hz with h5 h6 h7; subst h5; subst h6; subst h7
        obtain ⟨us, q5, q6⟩ := q4 (Nat.min k len) (Nat.min_le_left _ _)
        have hall : (new.take (Nat.min k len * es)).all AV.one = true := by
          rw [List.all_eq_true] at q3 ⊢
          exact fun x hx => q3 x (List.mem_of_mem_take hx)
        by_cases h0 : o = (ι id).base + off
        · subst h0
          obtain ⟨w', k1, k2⟩ := store_row (P := P) hR hget hl' q6 hall hσ
          refine ⟨⟨goInt (Nat.min k len : Nat), w', ι, ?_, k2, by simp [VR, goInt]⟩, rfl⟩
          unfold Builtin.copy_
          simp [hts, run_underlying ht, q1, run_sizeOf hes, q5, k1]
        · rcases ho with ⟨a, _⟩ | ⟨a, a2⟩
          · exact absurd a h0
          · subst a
            have e0 : Nat.min k 0 = 0 := Nat.min_zero k
            have hus : us = [] := by
              have := VRs_length q6
              rw [e0, Nat.zero_mul] at this
              exact List.eq_nil_of_length_eq_zero (by simpa using this.symm)
            obtain ⟨w', k1, k2⟩ := store_row (P := P) hR hget hl' q6 hall hσ
            have hw : w' = w := by rw [hus] at k1; simp [storeCells] at k1; exact k1.symm
            rw [hw] at k2
            rw [hus, e0] at q5
            refine ⟨⟨goInt (Nat.min k 0 : Nat), w, ι, ?_, k2, by simp [VR, goInt]⟩, rfl⟩
            unfold Builtin.copy_
            simp only [hts, Sem.run_bind, run_underlying ht, Result.andThen_ok, List.getElem?_toArray, List.getElem?_cons_zero, List.getElem?_cons_succ, q1, run_sizeOf hes, e0, q5, Sem.run_pure, storeCells]
      · cases hz
    · cases hz
  · cases hz
end
end Go.Ev
namespace Go.Ev
open Go

section
variable {P : Program} {σ : Nat → Value} {ι : Io}

theorem Rel_del {h : Hp} {w : World} (hR : Rel P σ ι h w) (id : Nat) : Rel P σ ι (h.del id) w where
  live := fun id' o hg => by
    rw [Hp.get_del] at hg
    split at hg
    · cases hg
    · exact hR.live id' o hg
  dom := hR.dom
  inj := fun id1 id2 o1 o2 h1 h2 he => by
    rw [Hp.get_del] at h1 h2
    split at h1
    · cases h1
    · split at h2
      · cases h2
      · exact hR.inj id1 id2 o1 o2 h1 h2 he
  glob := hR.glob
theorem Post_del {ι' : Io} {h h' : Hp} {w w' : World} {id : Nat} (hp : Post P σ ι (h.del id) w ι' h' w') : Post P σ ι h w ι' h' w' where
  ag := hp.ag
  newd := hp.newd
  next := hp.next
  rel := hp.rel
  fra := ⟨hp.fra.size, fun b hb hn => hp.fra.same b hb fun id' o hg hr => by
      rw [Hp.get_del] at hg
      split at hg
      · cases hg
      · exact hn id' o hg hr, hp.fra.tape, hp.fra.os, hp.fra.output⟩
  old := fun id' o hg => by
    have key : ∀ {i o}, (h.del id).get i = some o → h.get i = some o := by
      intro i o hg
      rw [Hp.get_del] at hg
      split at hg
      · cases hg
      · exact hg
    rcases hp.old id' o hg with ⟨o', h1, hw⟩ | ⟨h1, h2 | ⟨id2, o2, h3, h4, h5⟩⟩
    · exact .inl ⟨o', key h1, hw⟩
    · exact .inr ⟨h1, .inl h2⟩
    · exact .inr ⟨h1, .inr ⟨id2, o2, key h3, h4, h5⟩⟩

theorem Post_move {h : Hp} {w w' : World} (hR : Rel P σ ι h w) {id : Nat} {o0 : AObj} (hget : h.get id = some o0) (hrw : o0.rw = true) (hP : PutAt w w' (ι id).blk) {base sz : Nat} {o : AObj}
    (hO : OR P σ (upd ι h.next ⟨(ι id).blk, base, sz⟩) (h.next + 1) ⟨(ι id).blk, base, sz⟩ w' o) : Post P σ ι h w (upd ι h.next ⟨(ι id).blk, base, sz⟩) ((h.del id).new o).2 w' := by
  obtain ⟨hid, hbk, _⟩ := hR.live id o0 hget
  have hget' : ∀ id' o', ((h.del id).new o).2.get id' = some o' → (id' = h.next ∧ o' = o) ∨ (id' ≠ h.next ∧ id' ≠ id ∧ h.get id' = some o') := by
    intro id' o' hg
    rw [Hp.get_new, Hp.next_del] at hg
    split at hg
    · rename_i e; injection hg with hg; exact .inl ⟨e, hg.symm⟩
    · rename_i e
      rw [Hp.get_del] at hg
      split at hg
      · cases hg
      · rename_i e2; exact .inr ⟨e, e2, hg⟩
  exact {
    ag := Ag_upd hR.fresh _
    newd := fun id hd => by rcases hd with rfl | hd; exact .inr (Nat.le_refl _); exact .inl hd
    next := by simp
    rel := {
      live := fun id' o' hg => by
        rcases hget' id' o' hg with ⟨rfl, rfl⟩ | ⟨h1, h2, h3⟩
        · rw [upd_same]
          exact ⟨upd_d _ _ _, by rw [hP.size]; exact hbk, hO⟩
        · obtain ⟨k1, k2, k3⟩ := hR.live id' o' h3
          have e2 : upd ι h.next ⟨(ι id).blk, base, sz⟩ id' = ι id' := (Ag_upd hR.fresh _ id' k1).2
          rw [e2]
          refine ⟨(Ag_upd hR.fresh _ id' k1).1, by rw [hP.size]; exact k2, ?_⟩
          exact OR_congr (hP.same _ fun e3 => h2 (hR.inj _ _ _ _ h3 hget e3)) (Ag_upd hR.fresh _) (by simp) k3
      inj := fun id1 id2 o1 o2 hg1 hg2 heq => by
        rcases hget' id1 o1 hg1 with ⟨rfl, rfl⟩ | ⟨h1, h2, h3⟩ <;> rcases hget' id2 o2 hg2 with ⟨rfl, rfl⟩ | ⟨k1, k2, k3⟩
        · rfl
        · rw [upd_same, (Ag_upd hR.fresh _ id2 (hR.live _ _ k3).1).2] at heq
          exact absurd (hR.inj _ _ _ _ k3 hget heq.symm) k2
        · rw [upd_same, (Ag_upd hR.fresh _ id1 (hR.live _ _ h3).1).2] at heq
          exact absurd (hR.inj _ _ _ _ h3 hget heq) h2
        · rw [(Ag_upd hR.fresh _ id1 (hR.live _ _ h3).1).2, (Ag_upd hR.fresh _ id2 (hR.live _ _ k3).1).2] at heq
          exact hR.inj _ _ _ _ h3 k3 heq
      dom := fun id hd => by
        rcases hd with rfl | hd
        · simp
        · have := hR.dom id hd; simp; omega
      glob := fun g hg => by
        obtain ⟨h1, h2⟩ := hR.glob g hg
        rw [(Ag_upd hR.fresh _ g h1).2]; exact ⟨(Ag_upd hR.fresh _ g h1).1, h2⟩ }
    fra := ⟨by rw [hP.size]; omega, fun b hb hn => hP.same b (fun e => hn id o0 hget hrw e.symm), hP.tape, hP.os, hP.output⟩
    old := fun id' o' hg => by
      rcases hget' id' o' hg with ⟨rfl, rfl⟩ | ⟨h1, h2, h3⟩
      · exact .inr ⟨Nat.le_refl _, .inr ⟨id, o0, hget, hrw, by rw [upd_same]⟩⟩
      · exact .inl ⟨o', h3, fun h => h⟩ }

theorem growBy_le (need : Nat) : ∀ (r c : Nat), c ≤ need + (need + 768) / 4 → Builtin.growBy need r c ≤ need + (need + 768) / 4 := by
  intro r
  induction r with
  | zero => intro c h; exact h
  | succ r ih =>
    intro c h
    simp only [Builtin.growBy]
    split
    · exact h
    · exact ih _ (by omega)
theorem next_le (need cap : Nat) (h : cap < need) : Builtin.nextslicecap need cap ≤ 2 * need + 512 := by
  unfold Builtin.nextslicecap
  split
  · omega
  · split
    · omega
    · have := growBy_le need 4 cap (by omega)
      omega
theorem next_small {need cap b : Nat} (h : cap < need) (h1 : need * b ≤ 1000000) (h2 : need ≤ 1000000) : Builtin.nextslicecap need cap * b ≤ 2 ^ 48 := by
  have h3 := next_le need cap h
  have h4 : b ≤ 1000000 := by
    have : 1 * b ≤ need * b := Nat.mul_le_mul_right _ (by omega)
    omega
  have h5 : Builtin.nextslicecap need cap * b ≤ (2 * need + 512) * b := Nat.mul_le_mul_right _ h3
  have h6 : (2 * need + 512) * b = 2 * (need * b) + 512 * b := by rw [Nat.add_mul, Nat.mul_assoc]
  have h7 : (2 : Nat) ^ 48 = 281474976710656 := rfl
  omega
end
end Go.Ev
namespace Go.Ev
open Go

section
variable {P : Program} {σ : Nat → Value} {ι : Io}

theorem isInt1_ok {ts : Array TypeId} (h : isInt1 P ts = false) : ∃ t d, ts[1]? = some t ∧ P.underlying t = some d ∧ ∀ k, d ≠ .int k := by
  unfold isInt1 at h
  split at h
  · rename_i t ht
    split at h
    · cases h
    · rename_i d hn hd
      exact ⟨t, d, ht, hd, fun k e => hn k e⟩
    · cases h
  · cases h

theorem noInt {d : TypeDesc} (h : ∀ k, d ≠ .int k) : (d matches .int _) = false := by
  cases d <;> first | rfl | exact absurd rfl (h _)

theorem run_typeInfo {t : TypeId} {b : Nat} (h : tBytes P t = some b) (w : World) : ∃ i, (typeInfo t).run P w = .ok i w ∧ i.bytes = b := by
  unfold tBytes at h
  cases hi : P.info? t with
  | none => rw [hi] at h; cases h
  | some i =>
    rw [hi] at h
    simp at h
    exact ⟨i, by unfold typeInfo; simp [hi], h⟩

theorem app_in {w w' : World} {ts : Array TypeId} {t e : TypeId} (hts : ts[0]? = some t) (ht : P.underlying t = some (.slice e)) {es : Nat} (hes : tSize P e = some es) (hint : isInt1 P ts = false)
    {base : Option Addr} {len cap k : Nat} {x : Value} (hk : (Builtin.lenOf x).run P w = .ok k w) (hfit : len + k ≤ cap) {new : Array Value} (hnew : (Builtin.firstCells es k x).run P w = .ok new w)
    (hst : (match base with | some a => storeCells (a.add (len * es)) new.toList | none => pure () : Sem Unit).run P w = .ok () w') (ty : TypeId) :
    (Builtin.append_ ts ty #[.slice base len cap, x]).run P w = .ok (.slice base (len + k) cap) w' := by
  obtain ⟨t1, d1, h1, h2, h3⟩ := isInt1_ok hint
  unfold Builtin.append_
  simp only [hts, Sem.run_bind, run_underlying ht, Result.andThen_ok, List.getElem?_toArray, List.getElem?_cons_zero, List.getElem?_cons_succ, run_sizeOf hes, h1, run_underlying h2, Sem.run_pure, noInt h3]
  simp only [Bool.false_eq_true, if_false, Sem.run_bind, hk, Bool.not_false, if_true, Result.andThen_ok]
  rw [if_pos hfit]
  cases base with
  | none =>
    simp only [Sem.run_pure, Result.ok.injEq, true_and] at hst
    subst hst
    simp only [Sem.run_bind, hnew, Result.andThen_ok, Sem.run_pure]
  | some a =>
    simp only at hst
    simp only [Sem.run_bind, hnew, Result.andThen_ok, hst, Sem.run_pure]

theorem app_out {w : World} {ts : Array TypeId} {t e : TypeId} (hts : ts[0]? = some t) (ht : P.underlying t = some (.slice e)) {es eb : Nat} (hes : tSize P e = some es) (heb : tBytes P e = some eb) (hint : isInt1 P ts = false) {zv : Value} (hzv : (zeroValue e).run P w = .ok zv w) (hzv' : ∀ w', (zeroValue e).run P w' = .ok zv w')
    {base : Option Addr} {len cap k : Nat} {x : Value} (hk : (Builtin.lenOf x).run P w = .ok k w) (hfit : ¬ len + k ≤ cap) (hb : (len + k) * eb ≤ 1000000) (hn : len + k ≤ 1000000)
    {old new : Array Value} (hold : (Builtin.firstCells es len (.slice base len cap)).run P { w with drawn := w.drawn + 1 } = .ok old { w with drawn := w.drawn + 1 }) (hnew : (Builtin.firstCells es k x).run P { w with drawn := w.drawn + 1 } = .ok new { w with drawn := w.drawn + 1 }) (ty : TypeId) :
    ∃ cap' w', len + k ≤ cap' ∧ (Builtin.append_ ts ty #[.slice base len cap, x]).run P w = .ok (.slice (some ⟨w.heap.size, 0, none⟩) (len + k) cap') w' ∧
      w'.heap = w.heap.push (.cells (old ++ new ++ Builtin.zeroCells zv.cells (cap' - (len + k))) e) ∧ w'.tape = w.tape ∧ w'.os = w.os ∧ w'.output = w.output := by
  obtain ⟨i, hi, hib⟩ := run_typeInfo heb w
  have hcut : len + k ≤ (Question.appendCap (len + k) cap e).cut (w.tape w.drawn (.appendCap (len + k) cap e)) := by simp only [Question.cut]; omega
  refine ⟨_, { w with drawn := w.drawn + 1, heap := w.heap.push (.cells (old ++ new ++ Builtin.zeroCells zv.cells ((Question.appendCap (len + k) cap e).cut (w.tape w.drawn (.appendCap (len + k) cap e)) - (len + k))) e) }, hcut, ?_, rfl, rfl, rfl, rfl⟩
  obtain ⟨t1, d1, h1, h2, h3⟩ := isInt1_ok hint
  unfold Builtin.append_
  simp only [hts, Sem.run_bind, run_underlying ht, Result.andThen_ok, List.getElem?_toArray, List.getElem?_cons_zero, List.getElem?_cons_succ, run_sizeOf hes, h1, run_underlying h2, Sem.run_pure, noInt h3]
  simp only [Bool.false_eq_true, if_false, Sem.run_bind, hk, Bool.not_false, if_true, Result.andThen_ok]
  rw [if_neg hfit]
  have hmax : ¬ ((((len + k : Nat) : Int) > IntKind.i64.max) ∧ (False ∨ i.bytes = 0)) := by
    intro ⟨a, _⟩
    have : IntKind.i64.max = 9223372036854775807 := by decide
    rw [this] at a; omega
  have hns : ¬ (Builtin.nextslicecap (len + k) cap * i.bytes > 2 ^ 48) := by
    rw [hib]
    have := next_small (need := len + k) (cap := cap) (b := eb) (by omega) hb hn
    omega
  have hnf : (Question.appendCap (len + k) cap e).forced = false := rfl
  obtain ⟨i2, hi2, _⟩ := run_typeInfo heb { w with drawn := w.drawn + 1 }
  simp only [Sem.run_bind, hi, Result.andThen_ok]
  rw [if_neg hmax]
  simp only [Sem.run_bind, hi, Result.andThen_ok]
  rw [if_neg hns]
  simp only [Sem.run_bind, run_choose, hnf, Bool.false_eq_true, if_false, Result.andThen_ok, hi2, run_askRoom]
  rw [hold]
  simp only [Result.andThen_ok]
  rw [hnew]
  simp only [Result.andThen_ok, hzv', run_newRow, Sem.run_pure, Sem.run_bind]
end
end Go.Ev
namespace Go.Ev
open Go

section
variable {P : Program} {σ : Nat → Value} {ι : Io}

theorem Rel_heap {h : Hp} {w w' : World} (hR : Rel P σ ι h w) (hw : w'.heap = w.heap) : Rel P σ ι h w' where
  live := fun id o hg => by
    obtain ⟨h1, h2, h3⟩ := hR.live id o hg
    exact ⟨h1, by rw [hw]; exact h2, OR_congr (by rw [hw]) Ag.refl (Nat.le_refl _) h3⟩
  inj := hR.inj
  dom := hR.dom
  glob := hR.glob

theorem newAt_of {w w' : World} {o : Obj} (h : w'.heap = w.heap.push o) (h1 : w'.tape = w.tape) (h2 : w'.os = w.os) (h3 : w'.output = w.output) : NewAt w w' :=
  ⟨by rw [h]; simp, fun b hb => by rw [h]; simp [Array.getElem?_push, Nat.ne_of_lt hb], h1, h2, h3⟩

/-- the outcome of an append that makes a new row -/
theorem app_row {h : Hp} {w w' : World} (hR : Rel P σ ι h w) {old new : List AV} {vo vn vz : List Value} (ho : VRs σ ι h.next old vo) (ho1 : old.all AV.one = true) (hn : VRs σ ι h.next new vn) (hn1 : new.all AV.one = true) {e : TypeId}
    {es k cap' : Nat} (hes : 1 ≤ es) (hlen : (old ++ new).length = k * es) (hz : vz.length = (cap' - k) * es) (hk : k ≤ cap')
    (hw : w'.heap = w.heap.push (.cells (vo ++ vn ++ vz).toArray e)) (h1 : w'.tape = w.tape) (h2 : w'.os = w.os) (h3 : w'.output = w.output) :
    ∃ ι', Post P σ ι h w ι' (h.new (.cells false (old ++ new))).2 w' ∧ VR σ ι' (h.next + 1) (.sl h.next 0 k k es) (.slice (some ⟨w.heap.size, 0, none⟩) k cap') := by
  have hsz : (vo ++ vn ++ vz).toArray.size = cap' * es := by
    have e1 := VRs_length ho
    have e2 := VRs_length hn
    simp only [List.length_append] at hlen
    simp only [List.size_toArray, List.length_append, hz, ← e1, ← e2, hlen]
    rw [← Nat.add_mul]; congr 1; omega
  have hb : w'.heap[w.heap.size]? = some (.cells (vo ++ vn ++ vz).toArray e) := by rw [hw]; simp
  refine ⟨upd ι h.next ⟨w.heap.size, 0, (vo ++ vn ++ vz).toArray.size⟩, Post_new hR (newAt_of hw h1 h2 h3) ?_, ?_⟩
  · refine OR_row hb (VRs_mono (Ag_upd hR.fresh _) (by omega) (VRs_append ho hn)) (by simp only [List.all_append, ho1, hn1, Bool.and_self]) (fun i v hi => ?_) (by intro o ho; simp) (by omega) false
    have hlt := (List.getElem?_eq_some_iff.1 hi).1
    rw [Nat.zero_add, List.getElem?_toArray, List.getElem?_append_left hlt]; exact hi
  · simp only [VR, upd_same]
    refine ⟨upd_d _ _ _, _, _, rfl, hk, fun h0 => absurd h0 (by omega), .inl ⟨rfl, fun _ => ?_⟩⟩
    rw [hsz, Nat.zero_add]

/-- growing in place -/
theorem grow_in (hσ : ∀ m, (σ m).oneCell' = true) {h : Hp} {w : World} (hR : Rel P σ ι h w) {id : Nat} {l old new : List AV} (hget : h.get id = some (.cells false l)) {off len es k cap' o : Nat} (hold : old = l.drop off) (hlen : old.length = len * es)
    {vn : List Value} (hn : VRs σ ι h.next new vn) (hn1 : new.all AV.one = true) (hnl : new.length = k * es) (ho : o = (ι id).base + off) (hcap : o + cap' * es = (ι id).size) (hfit : len + k ≤ cap') (hoff : off ≤ l.length) :
    ∃ w' ι', (storeCells ⟨(ι id).blk, o + len * es, none⟩ vn).run P w = .ok () w' ∧ Post P σ ι h w ι' ((h.del id).new (.cells false (old ++ new))).2 w' ∧
      (1 ≤ es → VR σ ι' (h.next + 1) (.sl h.next 0 (len + k) (len + k) es) (.slice (some ⟨(ι id).blk, o, none⟩) (len + k) cap')) := by
  obtain ⟨hid, hbk, c, e, fr, k1, k2, k3, k4, k5⟩ := hR.live id _ hget
  have hl := VRs_length hn
  have hll : l.length = off + len * es := by rw [hold, List.length_drop] at hlen; omega
  have hfr : ∀ o, o < c.size → (fr.1 ≤ o && o < fr.2) = false := by
    intro o ho
    have := k5 rfl o ho
    unfold World.frozen? at this
    simp only [k1] at this
    exact this
  have hroom : o + len * es + vn.length ≤ c.size := by
    have : (len + k) * es ≤ cap' * es := Nat.mul_le_mul_right _ hfit
    rw [Nat.add_mul] at this
    omega
  obtain ⟨w', c', q1, q2, q3, q4⟩ := run_storeCells' (P := P) (ι id).blk e fr vn (o + len * es) 0 c w k1 (by omega) (by
    intro v hv
    obtain ⟨i, hi, rfl⟩ := List.mem_iff_getElem.1 hv
    have hx : new[i]? = some new[i] := List.getElem?_eq_getElem (by omega)
    obtain ⟨v', hv1, hv2⟩ := VRs_get hn hx
    rw [List.getElem?_eq_getElem hi] at hv1
    injection hv1 with hv1; rw [hv1]
    exact VR_one hσ hv2 (List.all_eq_true.1 hn1 _ (List.mem_of_getElem? hx))) hfr
  rw [Nat.add_zero] at q4
  have hsz : c'.size = c.size := by
    have := congrArg List.length q4
    simp only [Array.length_toList, List.length_append, List.length_take, List.length_drop] at this
    omega
  have hc' : ∀ j : Nat, c'[j]? = (c.toList.take (o + len * es) ++ vn ++ c.toList.drop (o + len * es + vn.length))[j]? := by
    intro j; rw [← q4]; simp
  have e1 : (c.toList.take (o + len * es)).length = o + len * es := by simp; omega
  refine ⟨w', upd ι h.next ⟨(ι id).blk, (ι id).base + off, (ι id).size⟩, ?_, Post_move hR hget rfl q3 ⟨c', e, fr, q2, by rw [hsz]; exact k2, ?_, ?_, ?_⟩, ?_⟩
  · exact q1
  · rw [hsz, List.length_append, hlen, hnl]
    simp only
    omega
  · intro i x hx
    rw [hc']
    by_cases hi1 : i < old.length
    · rw [List.getElem?_append_left hi1, hold, List.getElem?_drop] at hx
      obtain ⟨a1, v, a2, a3⟩ := k4 (off + i) x hx
      refine ⟨a1, v, ?_, VR_mono (Ag_upd hR.fresh _) (by omega) a3⟩
      simp only
      rw [List.append_assoc, List.getElem?_append_left (by rw [e1]; omega), List.getElem?_take, if_pos (by omega)]
      rw [Nat.add_assoc]; simpa using a2
    · rw [List.getElem?_append_right (by omega)] at hx
      obtain ⟨v, a2, a3⟩ := VRs_get hn hx
      have hlt := (List.getElem?_eq_some_iff.1 a2).1
      refine ⟨List.all_eq_true.1 hn1 _ (List.mem_of_getElem? hx), v, ?_, VR_mono (Ag_upd hR.fresh _) (by omega) a3⟩
      simp only
      rw [List.getElem?_append_left (by rw [List.length_append, e1]; omega), List.getElem?_append_right (by rw [e1]; omega), e1]
      rw [← a2]; congr 1; omega
  · intro _ o' ho'
    unfold World.frozen?
    simp only [q2]
    exact hfr o' (by omega)
  · intro hes
    simp only [VR, upd_same]
    exact ⟨upd_d _ _ _, _, _, rfl, hfit, fun h0 => absurd h0 (by omega), .inl ⟨by rw [ho]; rfl, fun _ => hcap⟩⟩

theorem wApp_ok (hσ : ∀ m, (σ m).oneCell' = true) {h : Hp} {w : World} (hR : Rel P σ ι h w) {ts : Array TypeId} {t e : TypeId} (hts : ts[0]? = some t) (ht : P.underlying t = some (.slice e)) {es eb : Nat} (hes : tSize P e = some es) (heb : tBytes P e = some eb)
    {z : List AV} (hz0 : tZeroC P e = some z) (hzl : z.length = es) (hint : isInt1 P ts = false) {s x y : AV} {rs rs' : RS} {h' : Hp} (hz : wApp h rs es eb s x = .v y h' rs') {vs vx : Value} (hs : VR σ ι h.next s vs) (hx : VR σ ι h.next x vx) (ty : TypeId) :
    WV P σ ι h w (Builtin.append_ ts ty #[vs, vx]) y h' ∧ rs' = rs := by
  obtain ⟨zv, hzr, hz1, hz2⟩ := tZeroC_ok (σ := σ) (ι := ι) (n := h.next) hz0 hσ w
  have hzr' : ∀ w', (zeroValue e).run P w' = .ok zv w' := by
    intro w'
    unfold tZeroC at hz0
    split at hz0
    · rename_i q hq
      obtain ⟨v1, a1, _⟩ := run_zeroValue (σ := σ) (ι := ι) (n := h.next) hq w
      have hc : ∀ w, (zeroValue e).run P w = .ok v1 w := by
        intro w2
        unfold tZero at hq
        unfold zeroValue typeInfo at a1 ⊢
        cases hi : P.info? e with
        | none => rw [hi] at hq; cases hq
        | some i =>
          simp only [Sem.run_bind, run_program, Result.andThen_ok, hi, Sem.run_pure] at a1 ⊢
          cases hzz : i.zero with
          | none => rw [hzz] at a1; simp at a1
          | some v2 => rw [hzz] at a1; simp at a1 ⊢; exact a1
      rw [hc] at hzr; injection hzr with hzr; rw [hc, hzr]
    · cases hz0
  have hzsz : zv.cells.size = es := by have := VRs_length hz1; simp at this; omega
  have hzc : ∀ k, (Builtin.zeroCells zv.cells k).size = k * es := by
    intro k; unfold Builtin.zeroCells; simp [hzsz]
  unfold wApp at hz
  split at hz
  · cases hz
  · rename_i k new hsrc
    obtain ⟨q1, q2, q3, q4⟩ := srcCells_ok hsrc hR hx
    obtain ⟨vn, q5, q6⟩ := q4 k (Nat.le_refl _)
    rw [← q2, List.take_length] at q6
    have hR1 : Rel P σ ι h { w with drawn := w.drawn + 1 } := Rel_heap hR rfl
    obtain ⟨_, _, _, q4'⟩ := srcCells_ok hsrc hR1 hx
    obtain ⟨vm, q5', q6'⟩ := q4' k (Nat.le_refl _)
    rw [← q2, List.take_length] at q6'
    unfold appendTo at hz
    split at hz
    · simp only [VR] at hs; subst hs
      split at hz
      · injection hz with h5 h6 h7; subst h5; subst h6; subst h7
        refine ⟨⟨.slice none 0 0, w, ι, ?_, Post_refl hR, by simp [VR]⟩, rfl⟩
        exact app_in (w' := w) hts ht hes hint (base := none) q1 (by omega) q5 rfl ty
      · rename_i hk0
        split at hz
        · rename_i hle
          rw [Bool.and_eq_true, Bool.and_eq_true, Nat.ble_eq, Nat.ble_eq, Nat.ble_eq] at hle
          injection hz with h5 h6 h7; subst h5; subst h6; subst h7
          have hk0' : k ≠ 0 := hk0
          obtain ⟨cap', w', r1, r2, r3, r4, r5, r6⟩ := app_out hts ht hes heb hint hzr hzr' (base := none) (len := 0) (cap := 0) q1 (by omega) (by simpa using hle.1.1) (by omega) (old := #[]) rfl q5' ty
          have r3' : w'.heap = w.heap.push (.cells ([] ++ vm ++ (Builtin.zeroCells zv.cells (cap' - k)).toList).toArray e) := by
            rw [r3, Nat.zero_add]; congr 2
            rw [← Array.toList_inj]; simp
          obtain ⟨ι', p1, p2⟩ := app_row hR (old := []) (vo := []) (by simp [VRs]) rfl q6' q3 (e := e) (es := es) (k := k) (cap' := cap') hle.2 (by simpa using q2) (by simp [hzc]) (by omega) r3' r4 r5 r6
          refine ⟨⟨_, w', ι', r2, ?_, ?_⟩, rfl⟩
          · simpa using p1
          · simpa using p2
        · cases hz
    · rename_i id off len cap g
      simp only [VR] at hs
      obtain ⟨hid, o, cap', rfl, hcap, hg, ho⟩ := hs
      have hoo : (o = (ι id).base + off) ∨ (len = 0 ∧ cap' = 0) := by
        rcases ho with ⟨a, _⟩ | a
        · exact .inl a
        · exact .inr a
      -- in place
      have inplace : ∀ {l l' : List AV}, h.get id = some (.cells false l) → spl (off + len * es) new l = some l' → len + k ≤ cap' →
          ∃ w', (Builtin.append_ ts ty #[.slice (some ⟨(ι id).blk, o, none⟩) len cap', vx]).run P w = .ok (.slice (some ⟨(ι id).blk, o, none⟩) (len + k) cap') w' ∧ Post P σ ι h w ι (h.put id (.cells false l')) w' := by
        intro l l' hget hl' hfit
        by_cases h0 : o = (ι id).base + off
        · obtain ⟨w', k1, k2⟩ := store_row (P := P) hR hget hl' q6 q3 hσ
          refine ⟨w', app_in hts ht hes hint q1 hfit q5 ?_ ty, k2⟩
          simp only [Addr_add_spot, h0]
          rw [Nat.add_assoc]; exact k1
        · rcases ho with ⟨a, _⟩ | ⟨a, a2⟩
          · exact absurd a h0
          · have hk : k = 0 := by omega
            subst hk
            have hnew : new = [] := List.eq_nil_of_length_eq_zero (by rw [q2]; simp)
            have hvn : vn = [] := by rw [hnew] at q6; simpa [VRs] using q6
            obtain ⟨w', k1, k2⟩ := store_row (P := P) hR hget hl' q6 q3 hσ
            have hw : w' = w := by rw [hvn] at k1; simp [storeCells] at k1; exact k1.symm
            rw [hw] at k2
            refine ⟨w, app_in hts ht hes hint q1 hfit q5 ?_ ty, k2⟩
            rw [hvn]; simp [storeCells]
      split at hz
      · rename_i hfit
        rw [Nat.ble_eq] at hfit
        split at hz
        · rename_i l hget
          split at hz
          · rename_i l' hl'
            injection hz with h5 h6 h7; subst h5; subst h6; subst h7
            obtain ⟨w', k1, k2⟩ := inplace hget hl' (by omega)
            refine ⟨⟨_, w', ι, k1, k2, ?_⟩, rfl⟩
            simp only [VR, Hp.next_put]
            refine ⟨hid, o, cap', rfl, hcap, hg, ?_⟩
            rcases ho with a | ⟨a, a2⟩
            · exact .inl a
            · exact .inr ⟨by omega, a2⟩
          · cases hz
        · cases hz
      · rename_i hfit
        have hfit' : ¬ len + k ≤ cap := by rw [← Nat.ble_eq, hfit]; simp
        split at hz
        · cases hz
        · rename_i hle
          rw [Bool.and_eq_true, Bool.and_eq_true, Nat.ble_eq, Nat.ble_eq, Nat.ble_eq] at hle
          -- a new row
          have outrow : ∀ {old : List AV}, ¬ len + k ≤ cap' → (∃ vo : List Value, (Builtin.firstCells es len (.slice (some ⟨(ι id).blk, o, none⟩) len cap')).run P { w with drawn := w.drawn + 1 } = .ok vo.toArray { w with drawn := w.drawn + 1 } ∧ VRs σ ι h.next old vo) →
              old.length = len * es → old.all AV.one = true → ∀ h1 : Hp, Rel P σ ι h1 w → h1.next = h.next →
              ∃ v w' ι', (Builtin.append_ ts ty #[.slice (some ⟨(ι id).blk, o, none⟩) len cap', vx]).run P w = .ok v w' ∧ Post P σ ι h1 w ι' (h1.new (.cells false (old ++ new))).2 w' ∧ VR σ ι' (h.next + 1) (.sl h.next 0 (len + k) (len + k) es) v := by
            intro old hno ⟨vo, ho1, ho2⟩ hol ho3 h1 hR2 hnx
            obtain ⟨cap2, w', r1, r2, r3, r4, r5, r6⟩ := app_out hts ht hes heb hint hzr hzr' q1 hno hle.1.1 hle.1.2 ho1 q5' ty
            have r3' : w'.heap = w.heap.push (.cells (vo ++ vm ++ (Builtin.zeroCells zv.cells (cap2 - (len + k))).toList).toArray e) := by
              rw [r3]; congr 2
              rw [← Array.toList_inj]; simp
            obtain ⟨ι', p1, p2⟩ := app_row hR2 (old := old) (vo := vo) (by rw [hnx]; exact ho2) ho3 (by rw [hnx]; exact q6') q3 (e := e) (es := es) (k := len + k) (cap' := cap2) hle.2 (by rw [List.length_append, hol, q2, Nat.add_mul]) (by simp [hzc]) r1 r3' r4 r5 r6
            rw [hnx] at p2
            exact ⟨_, w', ι', r2, p1, p2⟩
          split at hz
          · have hcc : cap' = cap := hg rfl
            split at hz
            · rename_i old hold
              injection hz with h5 h6 h7; subst h5; subst h6; subst h7
              obtain ⟨s1, s2, s3⟩ := slCells_ok (P := P) hold hR1 hoo
              obtain ⟨vo, s4, s5⟩ := s3 len (Nat.le_refl _)
              rw [← s1, List.take_length] at s5
              obtain ⟨v, w', ι', t1, t2, t3⟩ := outrow (by rw [hcc]; exact hfit') ⟨vo, s4, s5⟩ s1 s2 h hR rfl
              exact ⟨⟨v, w', ι', t1, t2, by simpa using t3⟩, rfl⟩
            · cases hz
          · split at hz
            · rename_i g0 _ l hgs hget
              rw [Nat.beq_eq] at hgs
              split at hz
              · rename_i old hold
                split at hz
                · rename_i hlen
                  rw [lenIs_iff] at hlen
                  injection hz with h5 h6 h7; subst h5; subst h6; subst h7
                  rw [dropE_iff] at hold
                  obtain ⟨hoff, hold⟩ := hold
                  have hsc : slCells h es id off len = some old := by
                    unfold slCells
                    rw [hget]
                    simp only
                    have : dropE off l = some old := dropE_iff.2 ⟨hoff, hold⟩
                    rw [this]
                    simp only
                    exact takeE_iff.2 ⟨by omega, by rw [← hlen, List.take_length]⟩
                  obtain ⟨s1, s2, s3⟩ := slCells_ok (P := P) hsc hR1 hoo
                  obtain ⟨vo, s4, s5⟩ := s3 len (Nat.le_refl _)
                  rw [← s1, List.take_length] at s5
                  by_cases hfit2 : len + k ≤ cap'
                  · have hoc : o = (ι id).base + off ∧ o + cap' * g = (ι id).size := by
                      rcases ho with ⟨a, b⟩ | ⟨a, b⟩
                      · exact ⟨a, b (by intro e; subst e; exact absurd rfl (by assumption))⟩
                      · omega
                    obtain ⟨w', ι', t1, t2, t3⟩ := grow_in (P := P) hσ hR hget hold hlen q6 q3 (k := k) q2 hoc.1 (by rw [← hgs]; exact hoc.2) hfit2 hoff
                    refine ⟨⟨_, w', ι', app_in hts ht hes hint q1 hfit2 q5 (by simp only [Addr_add_spot]; exact t1) ty, t2, ?_⟩, rfl⟩
                    simpa using t3 (by omega)
                  · obtain ⟨v, w', ι', t1, t2, t3⟩ := outrow hfit2 ⟨vo, s4, s5⟩ s1 s2 (h.del id) (Rel_del hR id) rfl
                    exact ⟨⟨v, w', ι', t1, Post_del t2, by simpa using t3⟩, rfl⟩
                · cases hz
              · cases hz
            · cases hz
    · cases hz
end
end Go.Ev
namespace Go.Ev
open Go

section
variable {P : Program} {σ : Nat → Value} {ι : Io}

def WO.plain : WO → Bool
  | .call .. | .recv | .dfr .. | .pan _ | .bad => false
  | _ => true

/-- a plain writer's answer -/
def WPl (P : Program) (σ : Nat → Value) (ι : Io) (h : Hp) (w : World) (rs : RS) (s : Sem Next) : R1 → Prop
  | .v x h' rs' => rs' = rs ∧ ∃ v w' ι', s.run P w = .ok (.value v) w' ∧ Post P σ ι h w ι' h' w' ∧ VR σ ι' h'.next x v
  | .sk h' rs' => rs' = rs ∧ ∃ w' ι', s.run P w = .ok .skip w' ∧ Post P σ ι h w ι' h' w'
  | .no => True
  | _ => False

theorem WV.pl {h h' : Hp} {w : World} {rs rs' : RS} {s : Sem Value} {x : AV} (hw : WV P σ ι h w s x h' ∧ rs' = rs) : WPl P σ ι h w rs (do pure (.value (← s))) (.v x h' rs') := by
  obtain ⟨⟨v, w', ι', h1, h2, h3⟩, h4⟩ := hw
  exact ⟨h4, v, w', ι', run_value' h1, h2, h3⟩
theorem WU.pl {h h' : Hp} {w : World} {rs rs' : RS} {s : Sem Unit} (hw : WU P σ ι h w s h' ∧ rs' = rs) : WPl P σ ι h w rs (do s; pure .skip) (.sk h' rs') := by
  obtain ⟨⟨w', ι', h1, h2⟩, h3⟩ := hw
  exact ⟨h3, w', ι', by simp [h1], h2⟩
theorem only_v {r : R1} (h : ∀ x h' rs', r = .v x h' rs' → True) : True := trivial

/-- a writer that answers by a value alone -/
theorem pl_v {h : Hp} {w : World} {rs : RS} {s : Sem Value} {t : Sem Next} (ht : t = do pure (.value (← s))) {r : R1} (hr : r = .no ∨ ∃ x h' rs', r = .v x h' rs') (hh : ∀ x h' rs', r = .v x h' rs' → WV P σ ι h w s x h' ∧ rs' = rs) : WPl P σ ι h w rs t r := by
  rcases hr with rfl | ⟨x, h', rs', rfl⟩
  · trivial
  · rw [ht]; exact WV.pl (hh x h' rs' rfl)
theorem pl_u {h : Hp} {w : World} {rs : RS} {s : Sem Unit} {t : Sem Next} (ht : t = do s; pure .skip) {r : R1} (hr : r = .no ∨ ∃ h' rs', r = .sk h' rs') (hh : ∀ h' rs', r = .sk h' rs' → WU P σ ι h w s h' ∧ rs' = rs) : WPl P σ ι h w rs t r := by
  rcases hr with rfl | ⟨h', rs', rfl⟩
  · trivial
  · rw [ht]; exact WU.pl (hh h' rs' rfl)

theorem store_is {h : Hp} {rs : RS} {n : Nat} {a x : AV} : wStore h rs n a x = .no ∨ ∃ h' rs', wStore h rs n a x = .sk h' rs' := by
  unfold wStore; (repeat' split) <;> first | exact .inl rfl | exact .inr ⟨_, _, rfl⟩
theorem mupd_is {h : Hp} {rs : RS} {sh : Sh} {a b x : AV} : wMupd h rs sh a b x = .no ∨ ∃ h' rs', wMupd h rs sh a b x = .sk h' rs' := by
  unfold wMupd; (repeat' split) <;> first | exact .inl rfl | exact .inr ⟨_, _, rfl⟩
theorem estore_is {h : Hp} {rs : RS} {a b x : AV} : wEstore h rs a b x = .no ∨ ∃ h' rs', wEstore h rs a b x = .sk h' rs' := by
  unfold wEstore; (repeat' split) <;> first | exact .inl rfl | exact .inr ⟨_, _, rfl⟩
theorem ment_is {h : Hp} {rs : RS} {sh : Sh} {z a b : AV} : wMent h rs sh z a b = .no ∨ ∃ x h' rs', wMent h rs sh z a b = .v x h' rs' := by
  unfold wMent; (repeat' split) <;> first | exact .inl rfl | exact .inr ⟨_, _, _, rfl⟩
theorem rng_is {h : Hp} {rs : RS} {a : AV} : wRng h rs a = .no ∨ ∃ x h' rs', wRng h rs a = .v x h' rs' := by
  unfold wRng; (repeat' split) <;> first | exact .inl rfl | exact .inr ⟨_, _, _, rfl⟩
theorem nxt_is {h : Hp} {rs : RS} {a : AV} : wNxt h rs a = .no ∨ ∃ x h' rs', wNxt h rs a = .v x h' rs' := by
  unfold wNxt; (repeat' split) <;> first | exact .inl rfl | exact .inr ⟨_, _, _, rfl⟩
theorem ent_is {h : Hp} {rs : RS} {a : AV} : wEnt h rs a = .no ∨ ∃ x h' rs', wEnt h rs a = .v x h' rs' := by
  unfold wEnt; (repeat' split) <;> first | exact .inl rfl | exact .inr ⟨_, _, _, rfl⟩
theorem app_is {h : Hp} {rs : RS} {es eb : Nat} {a b : AV} : wApp h rs es eb a b = .no ∨ ∃ x h' rs', wApp h rs es eb a b = .v x h' rs' := by
  unfold wApp appendTo; (repeat' split) <;> first | exact .inl rfl | exact .inr ⟨_, _, _, rfl⟩
theorem copy_is {h : Hp} {rs : RS} {es : Nat} {a b : AV} : wCopy h rs es a b = .no ∨ ∃ x h' rs', wCopy h rs es a b = .v x h' rs' := by
  unfold wCopy; (repeat' split) <;> first | exact .inl rfl | exact .inr ⟨_, _, _, rfl⟩
theorem delk_is {h : Hp} {rs : RS} {sh : Sh} {a b : AV} : wDelk h rs sh a b = .no ∨ ∃ x h' rs', wDelk h rs sh a b = .v x h' rs' := by
  unfold wDelk; (repeat' split) <;> first | exact .inl rfl | exact .inr ⟨_, _, _, rfl⟩
theorem clr_is {h : Hp} {rs : RS} {z : List AV} {a : AV} : wClr h rs z a = .no ∨ ∃ x h' rs', wClr h rs z a = .v x h' rs' := by
  unfold wClr; (repeat' split) <;> first | exact .inl rfl | exact .inr ⟨_, _, _, rfl⟩

theorem bi_ok (hσ : ∀ m, (σ m).oneCell' = true) {h : Hp} {w : World} (hR : Rel P σ ι h w) {ρ : Nat → AD} {tm : Tm} {vs : Vs} {den : Operand → Value} {c : Call} {b : Builtin} (hcal : c.callee = .builtin b) {as : List AD}
    (hargs : VRs σ ι h.next (evDs tm vs as) (c.args.toList.map den)) {wo : WO} (hc : cBi P b c.argTypes as = some (.w wo)) (hpl : wo.plain = true) (call : CallF) (rs : RS) {dst : Option Nat} {type : TypeId} {pos : String} {after : Array Edge} {guard : Option (Nat × Bool)} :
    WPl P σ ι h w rs (execOp den ⟨dst, .call c, type, pos, after, guard⟩) (evW call tm vs h rs wo) := by
  have hrun : ∀ (b : Builtin), c.callee = .builtin b → execOp den ⟨dst, .call c, type, pos, after, guard⟩ = builtin b c.argTypes type (c.args.map fun | .const _ => true | _ => false) (c.args.map den) := by
    intro b hb
    simp only [execOp, resolve, hb]
    rfl
  rw [hrun b hcal]
  have harr : c.args.map den = (c.args.toList.map den).toArray := Array.toList_inj.1 (by simp)
  rw [harr]
  generalize c.args.toList.map den = gl at hargs
  unfold cBi at hc
  split at hc <;> first
    | (cases hc; done)
    | skip
  · rename_i e s x harg
    split at hc
    · rename_i n k z h1 h2 h3
      split at hc
      · cases hc
      · rename_i hcond
        rw [Bool.or_eq_true, not_or, Bool.not_eq_true, Bool.not_eq_true] at hcond
        obtain ⟨hi, hzl⟩ := hcond
        injection hc with hc; injection hc with hc; subst hc
        simp only [evDs, VRs] at hargs
        obtain ⟨v1, ws, rfl, hv1, v2, ws2, rfl, hv2, rfl⟩ := hargs
        unfold tArg0 at harg
        split at harg
        · rename_i t0 ht0
          refine pl_v (s := Builtin.append_ c.argTypes type #[v1, v2]) rfl app_is fun x h' rs' hz => ?_
          exact wApp_ok hσ hR ht0 harg h1 h2 h3 (by simpa using hzl) hi hz hv1 hv2 type
        · cases harg
    · cases hc
  · rename_i e s x harg
    split at hc
    · rename_i n h1
      injection hc with hc; injection hc with hc; subst hc
      simp only [evDs, VRs] at hargs
      obtain ⟨v1, ws, rfl, hv1, v2, ws2, rfl, hv2, rfl⟩ := hargs
      unfold tArg0 at harg
      split at harg
      · rename_i t0 ht0
        refine pl_v (s := Builtin.copy_ c.argTypes type #[v1, v2]) rfl copy_is fun x h' rs' hz => ?_
        exact wCopy_ok hσ hR ht0 harg h1 hz hv1 hv2 type
      · cases harg
    · cases hc
  · rename_i k e m x harg
    split at hc
    · rename_i sh h1
      injection hc with hc; injection hc with hc; subst hc
      simp only [evDs, VRs] at hargs
      obtain ⟨v1, ws, rfl, hv1, v2, ws2, rfl, hv2, rfl⟩ := hargs
      unfold tArg0 at harg
      split at harg
      · rename_i t0 ht0
        refine pl_v (s := Builtin.delete_ c.argTypes type #[v1, v2]) rfl delk_is fun x h' rs' hz => ?_
        exact wDelk_ok hR ht0 harg (tSh_fits h1) hz hv1 hv2 type
      · cases harg
    · cases hc
  · rename_i e x harg
    split at hc
    · rename_i z h1
      injection hc with hc; injection hc with hc; subst hc
      simp only [evDs, VRs] at hargs
      obtain ⟨v1, ws, rfl, hv1, rfl⟩ := hargs
      unfold tArg0 at harg
      split at harg
      · rename_i t0 ht0
        refine pl_v (s := Builtin.clear_ c.argTypes type #[v1]) rfl clr_is fun x h' rs' hz => ?_
        exact wClr_ok hσ hR ht0 harg h1 hz hv1 type
      · cases harg
    · cases hc
end
end Go.Ev
namespace Go.Ev
open Go

section
variable {P : Program} {σ : Nat → Value} {ι : Io}

theorem evW_ok (hσ : ∀ m, (σ m).oneCell' = true) {h : Hp} {w : World} (hR : Rel P σ ι h w) {o : Oper} {ρ : Nat → AD} {tm : Tm} {vs : Vs} {den : Operand → Value} (hD : Opd σ ι h.next ρ (evD tm vs) den o.op.operands.toList)
    {wo : WO} (hc : cOp P ρ o.op = some (.w wo)) (hpl : wo.plain = true) (call : CallF) (rs : RS) : WPl P σ ι h w rs (execOp den o) (evW call tm vs h rs wo) := by
  obtain ⟨dst, op, type, pos, after, guard⟩ := o
  cases op <;> simp only [cOp] at hc <;> simp only [Op.operands] at hD
  case store t a x =>
    unfold cStore at hc
    split at hc
    · rename_i n d e h1 h2 h3
      injection hc with hc; injection hc with hc; subst hc
      refine pl_u (s := Instr.storeAt t (den a) (den x)) rfl store_is fun h' rs' hz => ?_
      exact wStore_ok hσ hR h1 hz (hD a (by simp) _ h2) (hD x (by simp) _ h3)
    · cases hc
  case mapUpdate t m k x =>
    unfold cMupd at hc
    split at hc
    · rename_i sh z a b c h1 h2 h3 h4
      injection hc with hc; injection hc with hc; subst hc
      obtain ⟨kt, e, hd, hf, _⟩ := tMap_ok h1
      refine pl_u (s := Instr.mapUpdate t (den m) (den k) (den x)) rfl mupd_is fun h' rs' hz => ?_
      exact wMupd_ok hR hd hf hz (hD m (by simp) _ h2) (hD k (by simp) _ h3) (hD x (by simp) _ h4)
    · cases hc
  case insert t m k x =>
    unfold cMupd at hc
    split at hc
    · rename_i sh z a b c h1 h2 h3 h4
      injection hc with hc; injection hc with hc; subst hc
      obtain ⟨kt, e, hd, hf, _⟩ := tMap_ok h1
      refine pl_u (s := Instr.mapUpdate t (den m) (den k) (den x)) rfl mupd_is fun h' rs' hz => ?_
      exact wMupd_ok hR hd hf hz (hD m (by simp) _ h2) (hD k (by simp) _ h3) (hD x (by simp) _ h4)
    · cases hc
  case mapEntry t m k =>
    unfold cMent at hc
    split at hc
    · rename_i sh z a b h1 h2 h3
      injection hc with hc; injection hc with hc; subst hc
      refine pl_v (s := Instr.mapEntry t (den m) (den k)) rfl ment_is fun x h' rs' hz => ?_
      exact wMent_ok hR h1 hz (hD m (by simp) _ h2) (hD k (by simp) _ h3)
    · cases hc
  case entryStore t m s x =>
    unfold cEst at hc
    split at hc
    · rename_i a b c h1 h2 h3
      injection hc with hc; injection hc with hc; subst hc
      refine pl_u (s := Instr.entryStore t (den m) (den s) (den x)) rfl estore_is fun h' rs' hz => ?_
      exact wEstore_ok hR hz (hD m (by simp) _ h1) (hD s (by simp) _ h2) (hD x (by simp) _ h3)
    · cases hc
  case range t x =>
    unfold cRng at hc
    split at hc
    · rename_i k e a h1 h2
      injection hc with hc; injection hc with hc; subst hc
      refine pl_v (s := Instr.range t (den x)) rfl rng_is fun x' h' rs' hz => ?_
      exact wRng_ok hR h1 hz (hD x (by simp) _ h2)
    · cases hc
  case next x str =>
    split at hc
    · cases hc
    · rename_i hstr
      rw [Bool.not_eq_true] at hstr; subst hstr
      obtain ⟨d, h1, h2⟩ := c1_ok hc
      injection h2 with h2; subst h2
      refine pl_v (s := Instr.next (den x) false type) rfl nxt_is fun x' h' rs' hz => ?_
      exact wNxt_ok hR hz (hD x (by simp) _ h1) type
  case entry x =>
    obtain ⟨d, h1, h2⟩ := c1_ok hc
    injection h2 with h2; subst h2
    refine pl_v (s := Instr.entry (den x)) rfl ent_is fun x' h' rs' hz => ?_
    exact wEnt_ok hR hz (hD x (by simp) _ h1)
  case call c =>
    unfold cCall at hc
    split at hc
    · split at hc
      · injection hc with hc; injection hc with hc; subst hc; cases hpl
      · cases hc
    · injection hc with hc; injection hc with hc; subst hc; cases hpl
    · rename_i b as hcal has hnr
      have hargs := cDs_ok (σ := σ) (ι := ι) (n := h.next) (tm := tm) (vs := vs) (den := den) hnr (fun y hy => hD y (by
        simp only [Call.operands, Array.toList_append]
        simp at hy ⊢; exact .inr hy))
      exact bi_ok (ρ := ρ) hσ hR (by assumption) hargs hc hpl call rs
    · cases hc
  case panic x =>
    obtain ⟨d, _, h2⟩ := c1_ok hc; injection h2 with h2; subst h2; cases hpl
  case defer c =>
    unfold cDfr at hc
    split at hc
    · split at hc
      · injection hc with hc; injection hc with hc; subst hc; cases hpl
      · cases hc
    · cases hc
  all_goals first
    | (cases hc; done)
    | (obtain ⟨d, _, h2⟩ := c1_ok hc; cases h2; done)
    | (unfold cAlloc at hc; (repeat' split at hc) <;> first | (cases hc; done) | (injection hc with hc; cases hc; done))
    | (unfold cBslice at hc; (repeat' split at hc) <;> first | (cases hc; done) | (injection hc with hc; cases hc; done))
    | (unfold cBuild at hc; (repeat' split at hc) <;> first | (cases hc; done) | (injection hc with hc; cases hc; done))
    | (unfold cBin at hc; (repeat' split at hc) <;> first | (cases hc; done) | (injection hc with hc; cases hc; done))
    | (unfold cPick at hc; (repeat' split at hc) <;> first | (cases hc; done) | (injection hc with hc; cases hc; done))
    | (unfold cMkfn at hc; (repeat' split at hc) <;> first | (cases hc; done) | (injection hc with hc; cases hc; done))
    | (unfold cMkmap at hc; (repeat' split at hc) <;> first | (cases hc; done) | (injection hc with hc; cases hc; done))
    | (unfold cMksl at hc; (repeat' split at hc) <;> first | (cases hc; done) | (injection hc with hc; cases hc; done))
    | (unfold cSlice at hc; (repeat' split at hc) <;> first | (cases hc; done) | (injection hc with hc; cases hc; done))
    | (unfold cFadr at hc; (repeat' split at hc) <;> first | (cases hc; done) | (injection hc with hc; cases hc; done))
    | (unfold cFld at hc; (repeat' split at hc) <;> first | (cases hc; done) | (injection hc with hc; cases hc; done))
    | (unfold cIadr at hc; (repeat' split at hc) <;> first | (cases hc; done) | (injection hc with hc; cases hc; done))
    | (unfold cIdx at hc; (repeat' split at hc) <;> first | (cases hc; done) | (injection hc with hc; cases hc; done))
    | (unfold cLoad at hc; (repeat' split at hc) <;> first | (cases hc; done) | (injection hc with hc; cases hc; done))
    | (unfold cLkp at hc; (repeat' split at hc) <;> first | (cases hc; done) | (injection hc with hc; cases hc; done))
    | (unfold cTass at hc; (repeat' split at hc) <;> first | (cases hc; done) | (injection hc with hc; cases hc; done))
    | (unfold cConv at hc; (repeat' split at hc) <;> first | (cases hc; done) | (injection hc with hc; cases hc; done))
    | (split at hc <;> first | (cases hc; done) | (obtain ⟨d, _, h2⟩ := c1_ok hc; cases h2; done))

/-- what an operation that isn't plain is -/
theorem cW_call {ρ : Nat → AD} {op : Op} {f : AD} {as : List AD} (hc : cOp P ρ op = some (.w (.call f as))) : ∃ c g, op = .call c ∧ c.callee = .value g ∧ cD ρ g = some f ∧ cDs ρ c.args.toList = some as := by
  cases op <;> simp only [cOp] at hc
  case call c =>
    unfold cCall at hc
    split at hc
    · rename_i g as' h1 h2
      split at hc
      · rename_i d hd
        injection hc with hc; injection hc with hc; injection hc with h3 h4; subst h3; subst h4
        exact ⟨c, g, rfl, h1, hd, h2⟩
      · cases hc
    · injection hc with hc; injection hc with hc; cases hc
    · unfold cBi at hc
      (repeat' split at hc) <;> first | (cases hc; done) | (injection hc with hc; injection hc with hc; cases hc; done)
    · cases hc
  all_goals first
    | (cases hc; done)
    | (obtain ⟨d, _, h2⟩ := c1_ok hc; cases h2; done)
    | (unfold cAlloc at hc; (repeat' split at hc) <;> (cases hc; done))
    | (unfold cBslice at hc; (repeat' split at hc) <;> (cases hc; done))
    | (unfold cBuild at hc; (repeat' split at hc) <;> (cases hc; done))
    | (unfold cBin at hc; (repeat' split at hc) <;> (cases hc; done))
    | (unfold cPick at hc; (repeat' split at hc) <;> (cases hc; done))
    | (unfold cMkfn at hc; (repeat' split at hc) <;> (cases hc; done))
    | (unfold cMkmap at hc; (repeat' split at hc) <;> (cases hc; done))
    | (unfold cMksl at hc; (repeat' split at hc) <;> (cases hc; done))
    | (unfold cSlice at hc; (repeat' split at hc) <;> (cases hc; done))
    | (unfold cFadr at hc; (repeat' split at hc) <;> (cases hc; done))
    | (unfold cFld at hc; (repeat' split at hc) <;> (cases hc; done))
    | (unfold cIadr at hc; (repeat' split at hc) <;> (cases hc; done))
    | (unfold cIdx at hc; (repeat' split at hc) <;> (cases hc; done))
    | (unfold cLoad at hc; (repeat' split at hc) <;> (cases hc; done))
    | (unfold cStore at hc; (repeat' split at hc) <;> (cases hc; done))
    | (unfold cLkp at hc; (repeat' split at hc) <;> (cases hc; done))
    | (unfold cTass at hc; (repeat' split at hc) <;> (cases hc; done))
    | (unfold cConv at hc; (repeat' split at hc) <;> (cases hc; done))
    | (unfold cMupd at hc; (repeat' split at hc) <;> (cases hc; done))
    | (unfold cMent at hc; (repeat' split at hc) <;> (cases hc; done))
    | (unfold cEst at hc; (repeat' split at hc) <;> (cases hc; done))
    | (unfold cRng at hc; (repeat' split at hc) <;> (cases hc; done))
    | (unfold cDfr at hc; (repeat' split at hc) <;> (cases hc; done))
    | (split at hc <;> first | (cases hc; done) | (obtain ⟨d, _, h2⟩ := c1_ok hc; cases h2; done))

theorem cW_recv {ρ : Nat → AD} {op : Op} (hc : cOp P ρ op = some (.w .recv)) : ∃ c, op = .call c ∧ c.callee = .builtin .recover := by
  cases op <;> simp only [cOp] at hc
  case call c =>
    unfold cCall at hc
    split at hc
    · split at hc <;> (cases hc; done)
    · exact ⟨c, rfl, by assumption⟩
    · unfold cBi at hc
      (repeat' split at hc) <;> first | (cases hc; done) | (injection hc with hc; injection hc with hc; cases hc; done)
    · cases hc
  all_goals first
    | (cases hc; done)
    | (obtain ⟨d, _, h2⟩ := c1_ok hc; cases h2; done)
    | (unfold cAlloc at hc; (repeat' split at hc) <;> (cases hc; done))
    | (unfold cBslice at hc; (repeat' split at hc) <;> (cases hc; done))
    | (unfold cBuild at hc; (repeat' split at hc) <;> (cases hc; done))
    | (unfold cBin at hc; (repeat' split at hc) <;> (cases hc; done))
    | (unfold cPick at hc; (repeat' split at hc) <;> (cases hc; done))
    | (unfold cMkfn at hc; (repeat' split at hc) <;> (cases hc; done))
    | (unfold cMkmap at hc; (repeat' split at hc) <;> (cases hc; done))
    | (unfold cMksl at hc; (repeat' split at hc) <;> (cases hc; done))
    | (unfold cSlice at hc; (repeat' split at hc) <;> (cases hc; done))
    | (unfold cFadr at hc; (repeat' split at hc) <;> (cases hc; done))
    | (unfold cFld at hc; (repeat' split at hc) <;> (cases hc; done))
    | (unfold cIadr at hc; (repeat' split at hc) <;> (cases hc; done))
    | (unfold cIdx at hc; (repeat' split at hc) <;> (cases hc; done))
    | (unfold cLoad at hc; (repeat' split at hc) <;> (cases hc; done))
    | (unfold cStore at hc; (repeat' split at hc) <;> (cases hc; done))
    | (unfold cLkp at hc; (repeat' split at hc) <;> (cases hc; done))
    | (unfold cTass at hc; (repeat' split at hc) <;> (cases hc; done))
    | (unfold cConv at hc; (repeat' split at hc) <;> (cases hc; done))
    | (unfold cMupd at hc; (repeat' split at hc) <;> (cases hc; done))
    | (unfold cMent at hc; (repeat' split at hc) <;> (cases hc; done))
    | (unfold cEst at hc; (repeat' split at hc) <;> (cases hc; done))
    | (unfold cRng at hc; (repeat' split at hc) <;> (cases hc; done))
    | (unfold cDfr at hc; (repeat' split at hc) <;> (cases hc; done))
    | (split at hc <;> first | (cases hc; done) | (obtain ⟨d, _, h2⟩ := c1_ok hc; cases h2; done))

theorem cW_pan {ρ : Nat → AD} {op : Op} {d : AD} (hc : cOp P ρ op = some (.w (.pan d))) : ∃ x, op = .panic x ∧ cD ρ x = some d := by
  cases op <;> simp only [cOp] at hc
  case panic x =>
    obtain ⟨d, h1, h2⟩ := c1_ok hc; injection h2 with h2; injection h2 with h2; subst h2; exact ⟨x, rfl, h1⟩
  case call c =>
    unfold cCall at hc
    split at hc
    · split at hc <;> (cases hc; done)
    · cases hc
    · unfold cBi at hc
      (repeat' split at hc) <;> first | (cases hc; done) | (injection hc with hc; injection hc with hc; cases hc; done)
    · cases hc
  all_goals first
    | (cases hc; done)
    | (obtain ⟨d, _, h2⟩ := c1_ok hc; cases h2; done)
    | (unfold cAlloc at hc; (repeat' split at hc) <;> (cases hc; done))
    | (unfold cBslice at hc; (repeat' split at hc) <;> (cases hc; done))
    | (unfold cBuild at hc; (repeat' split at hc) <;> (cases hc; done))
    | (unfold cBin at hc; (repeat' split at hc) <;> (cases hc; done))
    | (unfold cPick at hc; (repeat' split at hc) <;> (cases hc; done))
    | (unfold cMkfn at hc; (repeat' split at hc) <;> (cases hc; done))
    | (unfold cMkmap at hc; (repeat' split at hc) <;> (cases hc; done))
    | (unfold cMksl at hc; (repeat' split at hc) <;> (cases hc; done))
    | (unfold cSlice at hc; (repeat' split at hc) <;> (cases hc; done))
    | (unfold cFadr at hc; (repeat' split at hc) <;> (cases hc; done))
    | (unfold cFld at hc; (repeat' split at hc) <;> (cases hc; done))
    | (unfold cIadr at hc; (repeat' split at hc) <;> (cases hc; done))
    | (unfold cIdx at hc; (repeat' split at hc) <;> (cases hc; done))
    | (unfold cLoad at hc; (repeat' split at hc) <;> (cases hc; done))
    | (unfold cStore at hc; (repeat' split at hc) <;> (cases hc; done))
    | (unfold cLkp at hc; (repeat' split at hc) <;> (cases hc; done))
    | (unfold cTass at hc; (repeat' split at hc) <;> (cases hc; done))
    | (unfold cConv at hc; (repeat' split at hc) <;> (cases hc; done))
    | (unfold cMupd at hc; (repeat' split at hc) <;> (cases hc; done))
    | (unfold cMent at hc; (repeat' split at hc) <;> (cases hc; done))
    | (unfold cEst at hc; (repeat' split at hc) <;> (cases hc; done))
    | (unfold cRng at hc; (repeat' split at hc) <;> (cases hc; done))
    | (unfold cDfr at hc; (repeat' split at hc) <;> (cases hc; done))
    | (split at hc <;> first | (cases hc; done) | (obtain ⟨d, _, h2⟩ := c1_ok hc; cases h2; done))

theorem cW_dfr {ρ : Nat → AD} {op : Op} {f : AD} {as : List AD} (hc : cOp P ρ op = some (.w (.dfr f as))) : ∃ c g, op = .defer c ∧ c.callee = .value g ∧ cD ρ g = some f ∧ cDs ρ c.args.toList = some as := by
  cases op <;> simp only [cOp] at hc
  case defer c =>
    unfold cDfr at hc
    split at hc
    · rename_i g as' h1 h2
      split at hc
      · rename_i d hd
        injection hc with hc; injection hc with hc; injection hc with h3 h4; subst h3; subst h4
        exact ⟨c, g, rfl, h1, hd, h2⟩
      · cases hc
    · cases hc
  case call c =>
    unfold cCall at hc
    split at hc
    · split at hc <;> (cases hc; done)
    · cases hc
    · unfold cBi at hc
      (repeat' split at hc) <;> first | (cases hc; done) | (injection hc with hc; injection hc with hc; cases hc; done)
    · cases hc
  all_goals first
    | (cases hc; done)
    | (obtain ⟨d, _, h2⟩ := c1_ok hc; cases h2; done)
    | (unfold cAlloc at hc; (repeat' split at hc) <;> (cases hc; done))
    | (unfold cBslice at hc; (repeat' split at hc) <;> (cases hc; done))
    | (unfold cBuild at hc; (repeat' split at hc) <;> (cases hc; done))
    | (unfold cBin at hc; (repeat' split at hc) <;> (cases hc; done))
    | (unfold cPick at hc; (repeat' split at hc) <;> (cases hc; done))
    | (unfold cMkfn at hc; (repeat' split at hc) <;> (cases hc; done))
    | (unfold cMkmap at hc; (repeat' split at hc) <;> (cases hc; done))
    | (unfold cMksl at hc; (repeat' split at hc) <;> (cases hc; done))
    | (unfold cSlice at hc; (repeat' split at hc) <;> (cases hc; done))
    | (unfold cFadr at hc; (repeat' split at hc) <;> (cases hc; done))
    | (unfold cFld at hc; (repeat' split at hc) <;> (cases hc; done))
    | (unfold cIadr at hc; (repeat' split at hc) <;> (cases hc; done))
    | (unfold cIdx at hc; (repeat' split at hc) <;> (cases hc; done))
    | (unfold cLoad at hc; (repeat' split at hc) <;> (cases hc; done))
    | (unfold cStore at hc; (repeat' split at hc) <;> (cases hc; done))
    | (unfold cLkp at hc; (repeat' split at hc) <;> (cases hc; done))
    | (unfold cTass at hc; (repeat' split at hc) <;> (cases hc; done))
    | (unfold cConv at hc; (repeat' split at hc) <;> (cases hc; done))
    | (unfold cMupd at hc; (repeat' split at hc) <;> (cases hc; done))
    | (unfold cMent at hc; (repeat' split at hc) <;> (cases hc; done))
    | (unfold cEst at hc; (repeat' split at hc) <;> (cases hc; done))
    | (unfold cRng at hc; (repeat' split at hc) <;> (cases hc; done))
    | (unfold cDfr at hc; (repeat' split at hc) <;> (cases hc; done))
    | (split at hc <;> first | (cases hc; done) | (obtain ⟨d, _, h2⟩ := c1_ok hc; cases h2; done))
end
end Go.Ev
namespace Go.Ev
open Go

section
variable {P : Program} {σ : Nat → Value} {ι ι1 ι2 : Io}

theorem Post_trans {h h1 h2 : Hp} {w w1 w2 : World} (hR : Rel P σ ι h w) (a : Post P σ ι h w ι1 h1 w1) (b : Post P σ ι1 h1 w1 ι2 h2 w2) : Post P σ ι h w ι2 h2 w2 where
  ag := Ag.trans a.ag b.ag a.next
  newd := fun id hd => by
    rcases b.newd id hd with h3 | h3
    · exact a.newd id h3
    · exact .inr (Nat.le_trans a.next h3)
  next := Nat.le_trans a.next b.next
  rel := b.rel
  fra := {
    size := Nat.le_trans a.fra.size b.fra.size
    same := fun x hx hn => by
      rw [b.fra.same x (Nat.lt_of_lt_of_le hx a.fra.size) fun id o hg hr he => ?_, a.fra.same x hx hn]
      rcases a.old id o hg with ⟨o', h3, h4⟩ | ⟨h3, h4 | ⟨id', o', h5, h6, h7⟩⟩
      · have e : ι1 id = ι id := (a.ag id (hR.live id o' h3).1).2
        rw [e] at he; exact hn id o' h3 (h4 hr) he
      · omega
      · exact hn id' o' h5 h6 (h7 ▸ he)
    tape := b.fra.tape.trans a.fra.tape
    os := b.fra.os.trans a.fra.os
    output := b.fra.output.trans a.fra.output }
  old := fun id o hg => by
    have blkOld : ∀ {id' : Nat} {o1 : AObj}, h1.get id' = some o1 → o1.rw = true → w.heap.size ≤ (ι1 id').blk ∨ ∃ id'' o', h.get id'' = some o' ∧ o'.rw = true ∧ (ι1 id').blk = (ι id'').blk := by
      intro id' o1 hg1 hr1
      rcases a.old id' o1 hg1 with ⟨o', h3, h4⟩ | ⟨_, h4⟩
      · exact .inr ⟨id', o', h3, h4 hr1, by rw [(a.ag id' (hR.live id' o' h3).1).2]⟩
      · exact h4
    rcases b.old id o hg with ⟨o1, g1, g2⟩ | ⟨g1, g2⟩
    · have e : ι2 id = ι1 id := (b.ag id (a.rel.live id o1 g1).1).2
      rcases a.old id o1 g1 with ⟨o', h3, h4⟩ | ⟨h3, h4⟩
      · exact .inl ⟨o', h3, fun hr => h4 (g2 hr)⟩
      · exact .inr ⟨h3, by rw [e]; exact h4⟩
    · refine .inr ⟨Nat.le_trans a.next g1, ?_⟩
      rcases g2 with g2 | ⟨id', o', g3, g4, g5⟩
      · exact .inl (Nat.le_trans a.fra.size g2)
      · rw [g5]; exact blkOld g3 g4

/-! frames -/
/-- the deferred calls -/
def DfR (P : Program) (σ : Nat → Value) (ι : Io) (p : AV × List AV) (d : Deferred) : Prop :=
  (∃ id, p = (.pt id 0, []) ∧ ι.d id ∧ d = { target := .collected (ι id).blk, args := #[] }) ∨
  ∃ vf vas, VR σ ι 0 p.1 vf ∧ VRs σ ι 0 p.2 vas.toList ∧ ∀ w, (Deferred.ofValue vf vas).run P w = .ok d w
def DsR (P : Program) (σ : Nat → Value) (ι : Io) : Ds → List Deferred → Prop
  | [], ds => ds = []
  | p :: ps, ds => ∃ d ds', ds = d :: ds' ∧ DfR P σ ι p d ∧ DsR P σ ι ps ds'
/-- what a deferred function's caller is in -/
def MdR (σ : Nat → Value) (ι : Io) : RS → FrameMode → Prop
  | .no, _ => False
  | .rnd, _ => False
  | .idle, u => u = .returning
  | .pan x, u => ∃ v, u = .panicking [{ v, recovered := false }] ∧ VR σ ι 0 x v
  | .got x, u => ∃ v, u = .panicking [{ v, recovered := true }] ∧ VR σ ι 0 x v

theorem VR_n {n n' : Nat} {x : AV} {v : Value} (h : VR σ ι n x v) : VR σ ι n' x v := VR_any Ag.refl h
theorem VRs_n {n n' : Nat} {xs : List AV} {vs : List Value} (h : VRs σ ι n xs vs) : VRs σ ι n' xs vs := VRs_any Ag.refl h
end
end Go.Ev
namespace Go.Ev
open Go

/-- kinds of frames: of calls, of deferred calls, of rounds -/
inductive Kd where
  | normal | deferred | rnd (l : Nat)
def Kd.kind : Kd → CallKind
  | .deferred => .deferred
  | _ => .normal
def Kd.ro : Kd → Option Nat
  | .rnd l => some l
  | _ => none

/-! a frame of a kind, its callers kept in sight -/
def ArrX (P : Program) (m : Machine) (b : Frame) (k : List Item) (cs : List Frame) : Exit → Act → World → Prop
  | .normal, a, w => Steps P m (lone (b.atR a k) cs w)
  | .exit id, a, w => (∀ k', exitTo id k = some k' → Steps P m (lone (b.atR a k') cs w)) ∧
      (exitTo id k = none → ∃ k₁, exitTo id k₁ = none ∧ Steps P m (lone (b.atR a (.code (.exit id) :: k₁)) cs w))
  | .goto l, a, w => ∀ k', gotoIn l k = some k' → Steps P m (lone (b.atR a k') cs w)
  | .ret, a, w => ∃ k₁, Steps P m (lone (b.atR a (.code .ret :: k₁)) cs w)
  | .panic chain, a, w => ∃ todo, Steps P m (lone { b.atR a todo with mode := .panicking chain } cs w)
  | .outgrown, _, _ => False

theorem ArrX.of_steps {P : Program} {m m₁ : Machine} {b : Frame} {k : List Item} {cs : List Frame} {e : Exit} {a : Act} {w : World} (h : Steps P m m₁) (h' : ArrX P m₁ b k cs e a w) : ArrX P m b k cs e a w := by
  cases e with
  | normal => exact Steps.trans h h'
  | exit id => exact ⟨fun k' hk => Steps.trans h (h'.1 k' hk), fun hn => let ⟨k₁, h1, h2⟩ := h'.2 hn; ⟨k₁, h1, Steps.trans h h2⟩⟩
  | goto l => exact fun k' hk => Steps.trans h (h' k' hk)
  | ret => exact let ⟨k₁, h2⟩ := h'; ⟨k₁, Steps.trans h h2⟩
  | panic ch => exact let ⟨k₁, h2⟩ := h'; ⟨k₁, Steps.trans h h2⟩
  | outgrown => exact h'
/-- an exit that is no normal one goes past an item that catches nothing -/
theorem ArrX.pass {P : Program} {m : Machine} {b : Frame} {x : Item} {k : List Item} {cs : List Frame} {e : Exit} {a : Act} {w : World} (he : e ≠ .normal) (hx : ∀ id, exitTo id (x :: k) = exitTo id k) (hg : ∀ l, gotoIn l (x :: k) = gotoIn l k) (h : ArrX P m b (x :: k) cs e a w) : ArrX P m b k cs e a w := by
  cases e with
  | normal => exact absurd rfl he
  | exit id => exact ⟨fun k' hk => h.1 k' (by rw [hx]; exact hk), fun hn => h.2 (by rw [hx]; exact hn)⟩
  | goto l => exact fun k' hk => h k' (by rw [hg]; exact hk)
  | ret => exact h
  | panic ch => exact h
  | outgrown => exact h
/-- in a frame that is no round's -/
theorem ArrX.arrives {P : Program} {m : Machine} {b : Frame} (hb : b.roundOf = none) {k : List Item} {cs : List Frame} {e : Exit} {a : Act} {w : World} (h : ArrX P m b k cs e a w) : Arrives P m b k cs e a w := by
  cases e with
  | normal => simp only [ArrX, Frame.atR_of_none hb] at h; exact h
  | exit id => simp only [ArrX, Frame.atR_of_none hb] at h; exact h.1
  | goto l => simp only [ArrX, Frame.atR_of_none hb] at h; exact h
  | ret =>
    obtain ⟨k₁, h2⟩ := h
    have h3 := Steps.trans h2 (.one (stepR_ret hb))
    rw [Frame.atR_of_none hb] at h3
    exact ⟨_, h3⟩
  | panic ch => simp only [ArrX, Frame.atR_of_none hb] at h; exact h
  | outgrown => exact h.elim

abbrev PostX := Exit → Act → List Frame → World → Prop
def WX (P : Program) (κ : Kd) (c : Code) (Q : PostX) (a : Act) (cs : List Frame) (w : World) : Prop :=
  ∀ (b : Frame) (k : List Item), b.kind = κ.kind → b.roundOf = κ.ro →
    ∃ e a' cs' w', Q e a' cs' w' ∧ ArrX P (lone (b.atR a (.code c :: k)) cs w) b k cs' e a' w'
def RX (P : Program) (κ : Kd) (ops : Array Oper) (Q : PostX) (l : List Nat) (a : Act) (cs : List Frame) (w : World) : Prop :=
  ∀ (b : Frame) (k : List Item), b.kind = κ.kind → b.roundOf = κ.ro →
    ∃ e a' cs' w', Q e a' cs' w' ∧ ArrX P (lone (b.atR a (.inRegion ops l :: k)) cs w) b k cs' e a' w'

section
variable {P : Program} {κ : Kd} {Q : PostX} {a : Act} {cs : List Frame} {w : World}

theorem WX_mono {c : Code} {Q' : PostX} (h : WX P κ c Q a cs w) (hq : ∀ e a cs w, Q e a cs w → Q' e a cs w) : WX P κ c Q' a cs w :=
  fun b k hb hr => let ⟨e, a', cs', w', q, r⟩ := h b k hb hr; ⟨e, a', cs', w', hq _ _ _ _ q, r⟩
theorem RX_mono {ops : Array Oper} {l : List Nat} {Q' : PostX} (h : RX P κ ops Q l a cs w) (hq : ∀ e a cs w, Q e a cs w → Q' e a cs w) : RX P κ ops Q' l a cs w :=
  fun b k hb hr => let ⟨e, a', cs', w', q, r⟩ := h b k hb hr; ⟨e, a', cs', w', hq _ _ _ _ q, r⟩
theorem WX_skip (h : Q .normal a cs w) : WX P κ .skip Q a cs w := fun _ _ _ _ => ⟨.normal, a, cs, w, h, .one stepR_skip⟩
theorem WX_label {l : Nat} (h : Q .normal a cs w) : WX P κ (.label l) Q a cs w := fun _ _ _ _ => ⟨.normal, a, cs, w, h, .one stepR_label⟩
theorem WX_exit {id : Nat} (h : Q (.exit id) a cs w) : WX P κ (.exit id) Q a cs w := fun _ k _ _ => ⟨.exit id, a, cs, w, h, fun _ hk => .one (stepR_exit hk), fun hn => ⟨k, hn, Steps.refl P _⟩⟩
theorem WX_ret (h : Q .ret a cs w) : WX P κ .ret Q a cs w := fun _ k _ _ => ⟨.ret, a, cs, w, h, k, Steps.refl P _⟩
theorem WX_seq {x y : Code} (h : WX P κ x (Exit.thenS (WX P κ y Q) Q) a cs w) : WX P κ (.seq x y) Q a cs w := by
  intro b k hb hr
  obtain ⟨e, a₁, cs₁, w₁, hq, harr⟩ := h b (.code y :: k) hb hr
  cases e with
  | normal =>
    obtain ⟨e₂, a₂, cs₂, w₂, hq₂, harr₂⟩ := hq b k hb hr
    exact ⟨e₂, a₂, cs₂, w₂, hq₂, .of_steps (.head stepR_seq harr) harr₂⟩
  | exit id => exact ⟨_, a₁, cs₁, w₁, hq, .of_steps (.one stepR_seq) (.pass (x := .code y) (by simp) (fun _ => rfl) (fun _ => rfl) harr)⟩
  | goto l => exact ⟨_, a₁, cs₁, w₁, hq, .of_steps (.one stepR_seq) (.pass (x := .code y) (by simp) (fun _ => rfl) (fun _ => rfl) harr)⟩
  | ret => exact ⟨_, a₁, cs₁, w₁, hq, .of_steps (.one stepR_seq) (.pass (x := .code y) (by simp) (fun _ => rfl) (fun _ => rfl) harr)⟩
  | panic ch => exact ⟨_, a₁, cs₁, w₁, hq, .of_steps (.one stepR_seq) (.pass (x := .code y) (by simp) (fun _ => rfl) (fun _ => rfl) harr)⟩
  | outgrown => exact harr.elim
theorem WX_cond {c : Operand} {x y : Code} {t : Bool} (hc : a.eval c = .bool t) (h : WX P κ (if t then x else y) Q a cs w) : WX P κ (.cond c x y) Q a cs w :=
  fun b k hb hr => let ⟨e, a', cs', w', q, r⟩ := h b k hb hr; ⟨e, a', cs', w', q, .of_steps (.one (stepR_cond hc)) r⟩
def inBlockX (id : Nat) (Q : PostX) : PostX
  | .exit id', a, cs, w => if id' = id then Q .normal a cs w else Q (.exit id') a cs w
  | e, a, cs, w => Q e a cs w
theorem WX_block {id : Nat} {c : Code} (h : WX P κ c (inBlockX id Q) a cs w) : WX P κ (.block id c) Q a cs w := by
  intro b k hb hr
  obtain ⟨e, a₁, cs₁, w₁, hq, harr⟩ := h b (.inBlock id :: k) hb hr
  have hg : ∀ l, gotoIn l (.inBlock id :: k) = gotoIn l k := fun _ => rfl
  cases e with
  | normal => exact ⟨.normal, a₁, cs₁, w₁, hq, .head stepR_block (Steps.trans harr (.one stepR_inBlock))⟩
  | exit id' =>
    by_cases hid : id' = id
    · simp only [inBlockX, hid, if_true] at hq
      exact ⟨.normal, a₁, cs₁, w₁, hq, .head stepR_block (harr.1 k (by simp [exitTo, hid]))⟩
    · simp only [inBlockX, hid, if_false] at hq
      have : (id == id') = false := by simp; exact fun h => hid h.symm
      exact ⟨.exit id', a₁, cs₁, w₁, hq, .of_steps (.one stepR_block) ⟨fun k' hk => harr.1 k' (by simp [exitTo, this, hk]), fun hn => harr.2 (by simp [exitTo, this, hn])⟩⟩
  | goto l => exact ⟨_, a₁, cs₁, w₁, hq, .of_steps (.one stepR_block) fun k' hk => harr k' (by rw [hg]; exact hk)⟩
  | ret => exact ⟨_, a₁, cs₁, w₁, hq, .of_steps (b := b) (k := k) (e := .ret) (.one stepR_block) harr⟩
  | panic ch => exact ⟨_, a₁, cs₁, w₁, hq, .of_steps (b := b) (k := k) (e := .panic ch) (.one stepR_block) harr⟩
  | outgrown => exact harr.elim
/-- a loop, one round ahead -/
def LX (P : Program) (κ : Kd) (c : Code) (Q : PostX) (a : Act) (cs : List Frame) (w : World) : Prop :=
  ∀ (b : Frame) (k : List Item), b.kind = κ.kind → b.roundOf = κ.ro →
    ∃ e a' cs' w', Q e a' cs' w' ∧ ArrX P (lone (b.atR a (.code c :: .inLoop c :: k)) cs w) b k cs' e a' w'
theorem WX_loop {c : Code} (h : LX P κ c Q a cs w) : WX P κ (.loop c) Q a cs w :=
  fun b k hb hr => let ⟨e, a', cs', w', q, r⟩ := h b k hb hr; ⟨e, a', cs', w', q, .of_steps (.one stepR_loop) r⟩
theorem LX_round {c : Code} (h : WX P κ c (Exit.thenS (LX P κ c Q) Q) a cs w) : LX P κ c Q a cs w := by
  intro b k hb hr
  obtain ⟨e, a₁, cs₁, w₁, hq, harr⟩ := h b (.inLoop c :: k) hb hr
  cases e with
  | normal =>
    obtain ⟨e₂, a₂, cs₂, w₂, hq₂, harr₂⟩ := hq b k hb hr
    exact ⟨e₂, a₂, cs₂, w₂, hq₂, .of_steps (Steps.trans harr (.one stepR_inLoop)) harr₂⟩
  | exit id => exact ⟨_, a₁, cs₁, w₁, hq, .pass (x := .inLoop c) (by simp) (fun _ => rfl) (fun _ => rfl) harr⟩
  | goto l => exact ⟨_, a₁, cs₁, w₁, hq, .pass (x := .inLoop c) (by simp) (fun _ => rfl) (fun _ => rfl) harr⟩
  | ret => exact ⟨_, a₁, cs₁, w₁, hq, .pass (x := .inLoop c) (by simp) (fun _ => rfl) (fun _ => rfl) harr⟩
  | panic ch => exact ⟨_, a₁, cs₁, w₁, hq, .pass (x := .inLoop c) (by simp) (fun _ => rfl) (fun _ => rfl) harr⟩
  | outgrown => exact harr.elim
theorem stepR_scope {b : Frame} {k : List Item} {c : Code} : step P (lone (b.atR a (.code (.scope c) :: k)) cs w) = .next (lone (b.atR a (.code c :: .inScope c :: k)) cs w) :=
  step_lone_go (by simp [stepG, stepG.exec, Frame.atR])
theorem stepR_inScope {b : Frame} {k : List Item} {c : Code} : step P (lone (b.atR a (.inScope c :: k)) cs w) = .next (lone (b.atR a k) cs w) :=
  step_lone_go (by simp [stepG, stepG.exec, Frame.atR])
theorem WX_scope {c : Code} (h : WX P κ c Q a cs w) (hg : ∀ l a cs w, ¬ Q (.goto l) a cs w) : WX P κ (.scope c) Q a cs w := by
  intro b k hb hr
  obtain ⟨e, a₁, cs₁, w₁, hq, harr⟩ := h b (.inScope c :: k) hb hr
  cases e with
  | normal => exact ⟨.normal, a₁, cs₁, w₁, hq, .head stepR_scope (Steps.trans harr (.one stepR_inScope))⟩
  | exit id => exact ⟨_, a₁, cs₁, w₁, hq, .of_steps (.one stepR_scope) ⟨fun k' hk => harr.1 k' hk, fun hn => harr.2 hn⟩⟩
  | goto l => exact absurd hq (hg _ _ _ _)
  | ret => exact ⟨_, a₁, cs₁, w₁, hq, .of_steps (b := b) (k := k) (e := .ret) (.one stepR_scope) harr⟩
  | panic ch => exact ⟨_, a₁, cs₁, w₁, hq, .of_steps (b := b) (k := k) (e := .panic ch) (.one stepR_scope) harr⟩
  | outgrown => exact harr.elim

/-! regions -/
variable {ops : Array Oper} {i : Nat} {rest : List Nat} {o : Oper}
theorem WX_region {id : Nat} (h : RX P κ ops Q (List.range ops.size) a cs w) : WX P κ (.region id ops false) Q a cs w :=
  fun b k hb hr => let ⟨e, a', cs', w', q, r⟩ := h b k hb hr; ⟨e, a', cs', w', q, .of_steps (.one stepR_region) r⟩
theorem WX_draw {id : Nat} (hm : P.follows .mixedOrders = true) (h : ∀ t, RX P κ ops Q (Region.linearise.go .any ops ops.size t (Array.replicate ops.size false) []) a cs { w with drawn := w.drawn + 1 }) :
    WX P κ (.region id ops true) Q a cs w := by
  intro b k hb hr
  obtain ⟨e, a', cs', w', q, r⟩ := h (w.tape w.drawn (.order b.fn id)) b k hb hr
  refine ⟨e, a', cs', w', q, .of_steps (.one stepR_region_draw) ?_⟩
  have : Region.schedule (P.follows .mixedOrders) ops (w.tape w.drawn (.order b.fn id)) = Region.linearise.go .any ops ops.size (w.tape w.drawn (.order b.fn id)) (Array.replicate ops.size false) [] := by
    simp only [Region.schedule, hm, Bool.true_or, if_true]
    rfl
  rw [this]
  exact r
theorem RX_nil (h : Q .normal a cs w) : RX P κ ops Q [] a cs w := fun _ _ _ _ => ⟨.normal, a, cs, w, h, .one stepR_region_end⟩
theorem RX_off (ho : ops[i]? = some o) (hw : Region.wanted o (yielded ops a.tmps) = false) (h : RX P κ ops Q rest (a.put o.dst undef) cs w) : RX P κ ops Q (i :: rest) a cs w := by
  intro b k hb hr
  obtain ⟨e, a', cs', w', hq, harr⟩ := h b k hb hr
  have hs := stepR_op_skip (P := P) (b := b) (a := a) (k := k) (cs := cs) (w := w) (ops := ops) (i := i) (rest := rest) (by simp [ho]; simpa using hw)
  simp only [ho, Option.bind_some] at hs
  exact ⟨e, a', cs', w', hq, .of_steps (.one hs) harr⟩
theorem fin_at (ho : ops[i]? = some o) (b : Frame) (k : List Item) (v : Value) : (b.atR a (.inRegion ops (i :: rest) :: k)).finish v = b.atR (a.put o.dst v) (.inRegion ops rest :: k) := by
  rw [Frame.finish_atR, ho]; rfl
/-- in a round an operation is what it is elsewhere, but a deferred call -/
theorem semAt_run {ro : Option Nat} {ρ : Operand → Value} {r : Result Next} (hr : (execOp ρ o).run P w = r) (hd : ∀ d w', r ≠ .ok (.defer d) w') : (o.semAt ro ρ).run P w = r := by
  cases ro with
  | none => exact hr
  | some l =>
    cases ho : o.op with
    | «defer» c =>
      obtain ⟨dst, op, type, pos, after, guard⟩ := o
      simp only at ho; subst ho
      simp only [execOp, Oper.semAt, Sem.run_bind] at hr ⊢
      cases hres : (resolve ρ c type).run P w with
      | ok d w1 => rw [hres] at hr; simp only [Result.andThen_ok, Sem.run_pure] at hr; exact absurd hr.symm (hd _ _)
      | halt s w1 => rw [hres] at hr; exact hr
    | _ => rw [Oper.semAt_eq _ _ _ (fun c => by rw [ho]; simp)]; exact hr
theorem RX_value (ho : ops[i]? = some o) (hw : Region.wanted o (yielded ops a.tmps) = true) {v : Value} {w' : World} (hr : (execOp a.eval o).run P w = .ok (.value v) w') (h : RX P κ ops Q rest (a.put o.dst v) cs w') : RX P κ ops Q (i :: rest) a cs w := by
  intro b k hb hro
  have hg := stepGR_op (P := P) (b := b) (k := k) (cs := cs) (w := w) (rest := rest) ho hw
  have hr' := semAt_run (ro := b.roundOf) hr (by simp)
  obtain ⟨e, a', cs', w'', hq, harr⟩ := h b k hb hro
  refine ⟨e, a', cs', w'', hq, .of_steps (.one (step_lone_go ?_)) harr⟩
  rw [hg, ← fin_at ho]; simp [stepG.apply, hr']
theorem RX_sk (ho : ops[i]? = some o) (hw : Region.wanted o (yielded ops a.tmps) = true) {w' : World} (hr : (execOp a.eval o).run P w = .ok .skip w') (h : RX P κ ops Q rest (a.put o.dst undef) cs w') : RX P κ ops Q (i :: rest) a cs w := by
  intro b k hb hro
  have hg := stepGR_op (P := P) (b := b) (k := k) (cs := cs) (w := w) (rest := rest) ho hw
  have hr' := semAt_run (ro := b.roundOf) hr (by simp)
  obtain ⟨e, a', cs', w'', hq, harr⟩ := h b k hb hro
  refine ⟨e, a', cs', w'', hq, .of_steps (.one (step_lone_go ?_)) harr⟩
  rw [hg, ← fin_at ho]; simp [stepG.apply, hr']
theorem RX_defer (hκ : κ.ro = none) (ho : ops[i]? = some o) (hw : Region.wanted o (yielded ops a.tmps) = true) {d : Deferred} {w' : World} (hr : (execOp a.eval o).run P w = .ok (.defer d) w') (h : RX P κ ops Q rest ({ a with defers := d :: a.defers }.put o.dst undef) cs w') : RX P κ ops Q (i :: rest) a cs w := by
  intro b k hb hro
  have hg := stepGR_op (P := P) (b := b) (k := k) (cs := cs) (w := w) (rest := rest) ho hw
  rw [hro, hκ, Oper.semAt_none] at hg
  obtain ⟨e, a', cs', w'', hq, harr⟩ := h b k hb hro
  refine ⟨e, a', cs', w'', hq, .of_steps (.one (step_lone_go ?_)) harr⟩
  have : ({ b.atR a (.inRegion ops (i :: rest) :: k) with defers := d :: a.defers } : Frame).finish undef =
      b.atR ({ a with defers := d :: a.defers }.put o.dst undef) (.inRegion ops rest :: k) := by
    have := Frame.finish_atR b { a with defers := d :: a.defers } ops i rest k undef
    rw [ho] at this; exact this
  rw [hg]; simp only [stepG.apply, Sem.runT_eq, hr, GStep.bare_after]
  exact congrArg (fun fr => GStep.go { frame := fr, callers := cs, status := .running, dying := none } w') this
theorem RX_call (ho : ops[i]? = some o) (hw : Region.wanted o (yielded ops a.tmps) = true) {f : FuncId} {args : Array Value} {w' : World} (hr : (execOp a.eval o).run P w = .ok (.enter f args) w')
    (h : Calls P f args w' fun
      | .returned v, w'' => RX P κ ops Q rest (a.put o.dst v) cs w''
      | .panicked chain, w'' => Q (.panic chain) a cs w''
      | .outgrown, _ => False) : RX P κ ops Q (i :: rest) a cs w := by
  intro b k hb hro
  have hg := stepGR_op (P := P) (b := b) (k := k) (cs := cs) (w := w) (rest := rest) ho hw
  have hr' := semAt_run (ro := b.roundOf) hr (by simp)
  obtain ⟨e, w'', fr, hR, hsteps, _, hleave⟩ := h (b.atR a (.inRegion ops (i :: rest) :: k) :: cs)
  have henter : step P (lone (b.atR a (.inRegion ops (i :: rest) :: k)) cs w) =
      .next (lone (Frame.enter P f args .normal) (b.atR a (.inRegion ops (i :: rest) :: k) :: cs) w') :=
    step_lone_go (by rw [hg]; simp [stepG.apply, hr', Frame.atR])
  cases e with
  | returned v =>
    obtain ⟨e, a', cs'', w₃, hq, harr⟩ := hR b k hb hro
    refine ⟨e, a', cs'', w₃, hq, .of_steps (.head henter (hsteps.trans (.one ?_))) harr⟩
    rw [← fin_at ho]; exact step_leave_returned hleave
  | panicked chain =>
    refine ⟨.panic chain, a, cs, w'', hR, .inRegion ops (i :: rest) :: k, .head henter (hsteps.trans (.one ?_))⟩
    rw [← Frame.raise_atR]; exact step_leave_panicked hleave
  | outgrown => exact hR.elim
theorem RX_panic (ho : ops[i]? = some o) (hw : Region.wanted o (yielded ops a.tmps) = true) {v : Value} {w' : World} (hr : (execOp a.eval o).run P w = .halt (.panic v) w') (h : Q (.panic [{ v, recovered := false }]) a cs w') : RX P κ ops Q (i :: rest) a cs w := by
  intro b k hb hro
  have hg := stepGR_op (P := P) (b := b) (k := k) (cs := cs) (w := w) (rest := rest) ho hw
  have hr' := semAt_run (ro := b.roundOf) hr (by simp)
  refine ⟨_, a, cs, w', h, .inRegion ops (i :: rest) :: k, .one (step_lone_go ?_)⟩
  rw [hg, ← Frame.raise_atR]; simp [stepG.apply, hr']
theorem RX_recover (hκ : κ = .deferred) (ho : ops[i]? = some o) (hw : Region.wanted o (yielded ops a.tmps) = true) {w' : World} (hr : (execOp a.eval o).run P w = .ok .recover w')
    (h : match recoverD cs with | some (v, cs') => RX P κ ops Q rest (a.put o.dst v) cs' w' | none => RX P κ ops Q rest (a.put o.dst .nilIface) cs w') : RX P κ ops Q (i :: rest) a cs w := by
  intro b k hb hro
  have hg := stepGR_op (P := P) (b := b) (k := k) (cs := cs) (w := w) (rest := rest) ho hw
  have hk : (b.atR a (.inRegion ops (i :: rest) :: k)).kind = .deferred := by subst hκ; exact hb
  have hn : b.roundOf = none := by subst hκ; exact hro
  rw [hn, Oper.semAt_none] at hg
  have htr := tryRecover_deferred hk cs
  split at h
  · rename_i v cs' hrec
    obtain ⟨e, a', cs'', w'', hq, harr⟩ := h b k hb hro
    refine ⟨e, a', cs'', w'', hq, .of_steps (.one (step_lone_go ?_)) harr⟩
    rw [hg, ← fin_at ho]
    simp only [Frame.atR, hn] at htr ⊢
    simp [stepG.apply, hr, htr, hrec]
  · rename_i hrec
    obtain ⟨e, a', cs'', w'', hq, harr⟩ := h b k hb hro
    refine ⟨e, a', cs'', w'', hq, .of_steps (.one (step_lone_go ?_)) harr⟩
    rw [hg, ← fin_at ho]
    simp only [Frame.atR, hn] at htr ⊢
    simp [stepG.apply, hr, htr, hrec]

/-! rounds of a range over a function -/
def RoundX (P : Program) (l : Nat) (f : FuncId) (tmps : Array Value) (assign body : Code) (w : World) (R : Value → World → Prop) : Prop :=
  ∀ c cs, ∃ v w', R v w' ∧ Steps P (lone (Frame.round l f tmps assign body .normal) (c :: cs) w) (lone (c.finish v) cs w')
def roundPostX (P : Program) (l : Nat) (R : Value → World → Prop) (cs : List Frame) : PostX
  | .normal, _, cs', w => cs' = cs ∧ ∃ v w', (Instr.endRound l none).run P w = .ok v w' ∧ R v w'
  | .ret, _, cs', w => cs' = cs ∧ ∃ v w', (Instr.endRound l (some .ret)).run P w = .ok v w' ∧ R v w'
  | .exit id, _, cs', w => cs' = cs ∧ ∃ v w', (Instr.endRound l (some (.exit id))).run P w = .ok v w' ∧ R v w'
  | _, _, _, _ => False
theorem roundX_of_WX {l : Nat} {f : FuncId} {tmps : Array Value} {assign body : Code} {R : Value → World → Prop}
    (h : ∀ cs, WX P (.rnd l) assign (Exit.thenS (fun a₁ cs₁ w₁ => cs₁ = cs ∧ ∃ w₂, (Instr.beginRound l).run P w₁ = .ok () w₂ ∧ WX P (.rnd l) body (roundPostX P l R cs) a₁ cs w₂) (fun _ _ _ _ => False)) { tmps := tmps, defers := [] } cs w) :
    RoundX P l f tmps assign body w R := by
  intro c cs
  let b : Frame := { (default : Frame) with fn := f, kind := .normal, roundOf := some l }
  have hb0 : Frame.round l f tmps assign body .normal = b.atR { tmps := tmps, defers := [] } [.code assign, .beginRound, .code body] := by
    simp [Frame.round, Frame.atR, b]
  obtain ⟨e, a₁, cs₁, w₁, hq, harr⟩ := h (c :: cs) b [.beginRound, .code body] rfl rfl
  rw [← hb0] at harr
  cases e with
  | normal =>
    obtain ⟨rfl, w₂, hbr, hbody⟩ := hq
    have s1 := stepR_beginRound (P := P) (b := b) (a := a₁) (k := [.code body]) (cs := c :: cs) (l := l) rfl hbr
    obtain ⟨e₂, a₂, cs₂, w₃, hq₂, harr₂⟩ := hbody b [] rfl rfl
    cases e₂ with
    | normal =>
      obtain ⟨rfl, v, w₄, hend, hR⟩ := hq₂
      exact ⟨v, w₄, hR, Steps.trans harr (.head s1 (Steps.trans harr₂ (.one (stepR_round_end rfl rfl hend))))⟩
    | ret =>
      obtain ⟨rfl, v, w₄, hend, hR⟩ := hq₂
      obtain ⟨k₁, hs⟩ := harr₂
      exact ⟨v, w₄, hR, Steps.trans harr (.head s1 (Steps.trans hs (.one (stepR_round_ret rfl rfl hend))))⟩
    | exit id =>
      obtain ⟨rfl, v, w₄, hend, hR⟩ := hq₂
      obtain ⟨k₁, hk, hs⟩ := harr₂.2 rfl
      exact ⟨v, w₄, hR, Steps.trans harr (.head s1 (Steps.trans hs (.one (stepR_round_exit rfl rfl hk hend))))⟩
    | goto t => exact hq₂.elim
    | panic chain => exact hq₂.elim
    | outgrown => exact hq₂.elim
  | exit id => exact hq.elim
  | goto t => exact hq.elim
  | ret => exact hq.elim
  | panic chain => exact hq.elim
  | outgrown => exact hq.elim
theorem RX_yield (ho : ops[i]? = some o) (hw : Region.wanted o (yielded ops a.tmps) = true) {l : Nat} {f : FuncId} {tmps : Array Value} {assign body : Code} {w' : World} (hr : (execOp a.eval o).run P w = .ok (.round l f tmps assign body) w')
    (h : RoundX P l f tmps assign body w' fun v w'' => RX P κ ops Q rest (a.put o.dst v) cs w'') : RX P κ ops Q (i :: rest) a cs w := by
  intro b k hb hro
  have hg := stepGR_op (P := P) (b := b) (k := k) (cs := cs) (w := w) (rest := rest) ho hw
  have hr' := semAt_run (ro := b.roundOf) hr (by simp)
  obtain ⟨v, w'', hR, hsteps⟩ := h (b.atR a (.inRegion ops (i :: rest) :: k)) cs
  have henter : step P (lone (b.atR a (.inRegion ops (i :: rest) :: k)) cs w) =
      .next (lone (Frame.round l f tmps assign body .normal) (b.atR a (.inRegion ops (i :: rest) :: k) :: cs) w') :=
    step_lone_go (by rw [hg]; simp [stepG.apply, hr', Frame.atR])
  obtain ⟨e, a', cs'', w₃, hq, harr⟩ := hR b k hb hro
  refine ⟨e, a', cs'', w₃, hq, .of_steps (.head henter ?_) harr⟩
  rw [← fin_at ho]; exact hsteps

/-! the statement -/
def rangePostX (P : Program) (κ : Kd) (l : Nat) (Q : PostX) (a' : Act) (cs : List Frame) : Ending → World → Prop
  | .returned _, w₃ => ∃ jump w₄, (Instr.endLoop l).run P w₃ = .ok jump w₄ ∧
      (match jump with
       | none => Q .normal a' cs w₄
       | some c => WX P κ c Q a' cs w₄)
  | _, _ => False
theorem WX_rangeFunc {g : Operand} {ps : Array Tmp} {assign body : Code} (hκ : κ.ro = none)
    (h : ∀ fn, ∃ (l : Nat) (mark : List Deferred) (w₁ : World) (d : Deferred) (w₁' : World) (f : FuncId) (args : Array Value) (w₂ : World),
      (Instr.enterLoop fn a.tmps ps assign body none).run P w = .ok (l, mark) w₁ ∧
      (resolve a.eval (rangeCall g l) 0).run P w₁ = .ok d w₁' ∧
      (invoke d.target d.args).run P w₁' = .ok (.enter f args) w₂ ∧
      Calls P f args w₂ (rangePostX P κ l Q { a with defers := mark ++ a.defers } cs)) : WX P κ (.rangeFunc g ps assign body) Q a cs w := by
  intro b k hb hro
  obtain ⟨l, mark, w₁, d, w₁', f, args, w₂, he, hres, hinv, hcall⟩ := h b.fn
  rw [show (none : Option Nat) = b.roundOf from by rw [hro, hκ]] at he
  have henter := stepR_rangeFunc (P := P) (b := b) (a := a) (k := k) (cs := cs) (w := w) he hres hinv
  obtain ⟨e, w₃, fr, hR, hsteps, _, hleave⟩ := hcall (b.atR { a with defers := mark ++ a.defers } (.inRangeFunc l :: k) :: cs)
  cases e with
  | returned v =>
    obtain ⟨jump, w₄, hend, hj⟩ := hR
    have sback : Steps P (lone (b.atR a (.code (.rangeFunc g ps assign body) :: k)) cs w) (lone (b.atR { a with defers := mark ++ a.defers } ((jump.map Item.code).toList ++ k)) cs w₄) := by
      refine .head henter (Steps.trans hsteps (.head ?_ (.one (stepR_endRangeFunc hend))))
      rw [← finish_atR_inRangeFunc l v]; exact step_leave_returned hleave
    cases jump with
    | none => exact ⟨.normal, _, cs, w₄, hj, sback⟩
    | some c =>
      obtain ⟨e', a'', cs', w₅, hq, harr⟩ := hj b k hb hro
      exact ⟨e', a'', cs', w₅, hq, .of_steps sback harr⟩
  | panicked chain => exact hR.elim
  | outgrown => exact hR.elim
end
end Go.Ev
namespace Go.Ev
open Go

section
variable {P : Program} {σ : Nat → Value} {ι ι' : Io}

theorem TmR_mono (ha : Ag 0 ι ι') {tm : Tm} {tmps : Array Value} (h : TmR σ ι tm tmps) : TmR σ ι' tm tmps := fun d x hx => VR_any ha (h d x hx)
theorem DsR_mono (ha : Ag 0 ι ι') : ∀ {ds : Ds} {dl : List Deferred}, DsR P σ ι ds dl → DsR P σ ι' ds dl
  | [], _, h => h
  | p :: ps, _, ⟨d, ds', e, .inr ⟨vf, vas, h1, h2, h3⟩, h4⟩ => ⟨d, ds', e, .inr ⟨vf, vas, VR_any ha h1, VRs_any ha h2, h3⟩, DsR_mono ha h4⟩
  | p :: ps, _, ⟨d, ds', e, .inl ⟨id, h1, h2, h3⟩, h4⟩ => ⟨d, ds', e, .inl ⟨id, h1, (ha id h2).1, by rw [h3, (ha id h2).2]⟩, DsR_mono ha h4⟩
theorem MdR_mono (ha : Ag 0 ι ι') {rs : RS} {u : FrameMode} (h : MdR σ ι rs u) : MdR σ ι' rs u := by
  cases rs with
  | no => exact h
  | rnd => exact h
  | idle => exact h
  | pan x => obtain ⟨v, e, h1⟩ := h; exact ⟨v, e, VR_any ha h1⟩
  | got x => obtain ⟨v, e, h1⟩ := h; exact ⟨v, e, VR_any ha h1⟩

/-- the callers -/
def CsR (σ : Nat → Value) (ι : Io) (κ : Kd) (C : List Frame) (rs : RS) (cs : List Frame) : Prop :=
  match κ with
  | .normal => rs = .no ∧ cs = C
  | .deferred => ∃ c0 cs1 u, C = c0 :: cs1 ∧ cs = { c0 with mode := u } :: cs1 ∧ MdR σ ι rs u
  | .rnd _ => rs = .rnd ∧ cs = C
theorem CsR_mono (ha : Ag 0 ι ι') {κ : Kd} {C : List Frame} {rs : RS} {cs : List Frame} (h : CsR σ ι κ C rs cs) : CsR σ ι' κ C rs cs := by
  cases κ <;> simp only [CsR] at h ⊢
  · exact h
  · obtain ⟨c0, cs1, u, h1, h2, h3⟩ := h; exact ⟨c0, cs1, u, h1, h2, MdR_mono ha h3⟩
  · exact h

/-- a frame's state, but for its slots -/
structure StR (P : Program) (σ : Nat → Value) (κ : Kd) (C : List Frame) (ι0 : Io) (h0 : Hp) (w0 : World) (N loc : Nat) (tm : Tm) (ds : Ds) (h : Hp) (rs : RS) (a : Act) (cs : List Frame) (w : World) (ι : Io) : Prop where
  post : Post P σ ι0 h0 w0 ι h w
  dfr : DsR P σ ι ds a.defers
  cs : CsR σ ι κ C rs cs
  size : N ≤ a.tmps.size
  loc : ∀ d, loc.testBit d = false → tm.get d = none

def OutR (P : Program) (σ : Nat → Value) (κ : Kd) (C : List Frame) (ι0 : Io) (h0 : Hp) (w0 : World) (N loc : Nat) : R3 → PostX
  | .nrm tm ds h rs, .normal, a, cs, w => ∃ ι, StR P σ κ C ι0 h0 w0 N loc tm ds h rs a cs w ι ∧ TmR σ ι tm a.tmps
  | .ex id tm ds h rs, .exit id', a, cs, w => id = id' ∧ ∃ ι, StR P σ κ C ι0 h0 w0 N loc tm ds h rs a cs w ι ∧ TmR σ ι tm a.tmps
  | .rt tm ds h rs, .ret, a, cs, w => ∃ ι, StR P σ κ C ι0 h0 w0 N loc tm ds h rs a cs w ι ∧ TmR σ ι tm a.tmps
  | .pn x tm ds h rs, .panic chain, a, cs, w => ∃ ι, StR P σ κ C ι0 h0 w0 N loc tm ds h rs a cs w ι ∧ TmR σ ι tm a.tmps ∧ ∃ v, chain = [{ v, recovered := false }] ∧ VR σ ι 0 x v
  | _, _, _, _, _ => False

/-- what a call comes to -/
def CallR (P : Program) (σ : Nat → Value) (f : FuncId) (args : List AV) (h : Hp) : RC → Prop
  | .no => True
  | .ret x h' => ∀ (ι : Io) (w : World) (vargs : Array Value), Rel P σ ι h w → VRs σ ι 0 args vargs.toList →
      ((callFunc f vargs).run P w = .ok (.enter f vargs) w ∧ Calls P f vargs w fun e w' => ∃ v, e = .returned v ∧ ∃ ι', Post P σ ι h w ι' h' w' ∧ VR σ ι' 0 x v) ∨
      (∃ v w' ι', (callFunc f vargs).run P w = .ok (.value v) w' ∧ Post P σ ι h w ι' h' w' ∧ VR σ ι' 0 x v)
  | .pan x h' => ∀ (ι : Io) (w : World) (vargs : Array Value), Rel P σ ι h w → VRs σ ι 0 args vargs.toList → (callFunc f vargs).run P w = .ok (.enter f vargs) w ∧
      Calls P f vargs w fun e w' => ∃ v, e = .panicked [{ v, recovered := false }] ∧ ∃ ι', Post P σ ι h w ι' h' w' ∧ VR σ ι' 0 x v
/-- what a yield comes to -/
def YieldR (P : Program) (σ : Nat → Value) (id : Nat) (args : List AV) (h : Hp) : RC → Prop
  | .ret x h' => ∀ (ι : Io) (w : World) (vargs : Array Value), Rel P σ ι h w → VRs σ ι 0 args vargs.toList → ι.d id →
      ∃ fn tmps asg body, (Instr.yield (ι id).blk vargs).run P w = .ok (.round (ι id).blk fn tmps asg body) w ∧
        RoundX P (ι id).blk fn tmps asg body w fun v w' => ∃ ι', Post P σ ι h w ι' h' w' ∧ VR σ ι' 0 x v
  | _ => True
structure CallOk (P : Program) (σ : Nat → Value) (call : CallF) : Prop where
  fn : ∀ f args h, CallR P σ f args h (call.fn f args h)
  yl : ∀ id args h, YieldR P σ id args h (call.yl id args h)

/-! slots in a region in text order -/
theorem lastW_go (t i : Nat) : ∀ (l : List Oper) (k : Nat) (acc : Option Nat), k ≤ i →
    ((l.zipIdx k).foldl (fun acc (p : Oper × Nat) => if Nat.blt p.2 (i + 1) && p.1.dst == some t then some p.2 else acc) acc) =
      match (l[i - k]?).bind (·.dst) == some t with
      | true => some i
      | false => ((l.zipIdx k).foldl (fun acc (p : Oper × Nat) => if Nat.blt p.2 i && p.1.dst == some t then some p.2 else acc) acc) := by
  have past : ∀ (l : List Oper) (k b : Nat) (acc : Option Nat), b ≤ k → ((l.zipIdx k).foldl (fun acc (p : Oper × Nat) => if Nat.blt p.2 b && p.1.dst == some t then some p.2 else acc) acc) = acc := by
    intro l
    induction l with
    | nil => intros; rfl
    | cons o l ih =>
      intro k b acc hb
      simp only [List.zipIdx_cons, List.foldl_cons]
      have : Nat.blt k b = false := by rw [← Bool.not_eq_true, Nat.blt_eq]; omega
      rw [this]
      simp only [Bool.false_and, Bool.false_eq_true, if_false]
      exact ih (k + 1) b acc (by omega)
  intro l
  induction l with
  | nil => intro k acc hk; simp
  | cons o l ih =>
    intro k acc hk
    simp only [List.zipIdx_cons, List.foldl_cons]
    by_cases h : k = i
    · subst h
      have e1 : Nat.blt k (k + 1) = true := by rw [Nat.blt_eq]; omega
      have e2 : Nat.blt k k = false := by rw [← Bool.not_eq_true, Nat.blt_eq]; omega
      rw [e1, e2, past l (k + 1) (k + 1) _ (Nat.le_refl _), past l (k + 1) k _ (by omega)]
      simp only [Nat.sub_self, List.getElem?_cons_zero, Option.bind_some, Bool.true_and, Bool.false_and, Bool.false_eq_true, if_false]
      cases hd : (o.dst == some t) <;> simp
    · have e1 : Nat.blt k (i + 1) = true := by rw [Nat.blt_eq]; omega
      have e2 : Nat.blt k i = true := by rw [Nat.blt_eq]; omega
      rw [e1, e2, ih (k + 1) _ (by omega)]
      rw [show i - k = (i - (k + 1)) + 1 from by omega, List.getElem?_cons_succ]
theorem lastW_succ (l : List Oper) (t i : Nat) : lastW l t (i + 1) = match (l[i]?).bind (·.dst) == some t with | true => some i | false => lastW l t i := by
  have := lastW_go t i l 0 none (Nat.zero_le _)
  simpa [lastW] using this
theorem lastW_zero (l : List Oper) (t : Nat) : lastW l t 0 = none := by
  unfold lastW
  generalize l.zipIdx = z
  induction z with
  | nil => rfl
  | cons p z ih =>
    simp only [List.foldl_cons]
    have : Nat.blt p.2 0 = false := by rw [← Bool.not_eq_true, Nat.blt_eq]; omega
    rw [this]
    simpa using ih
theorem lastW_spec (l : List Oper) (t : Nat) : ∀ i, (∀ j, lastW l t i = some j → j < i ∧ (l[j]?).bind (·.dst) = some t ∧ ∀ j', j < j' → j' < i → (l[j']?).bind (·.dst) ≠ some t) ∧ (lastW l t i = none → ∀ j', j' < i → (l[j']?).bind (·.dst) ≠ some t) := by
  intro i
  induction i with
  | zero => rw [lastW_zero]; exact ⟨by simp, fun _ j' h => absurd h (by omega)⟩
  | succ i ih =>
    rw [lastW_succ]
    cases hd : ((l[i]?).bind (·.dst) == some t) with
    | true =>
      rw [beq_iff_eq] at hd
      simp only
      refine ⟨fun j hj => ?_, by simp⟩
      injection hj with hj; subst hj
      exact ⟨by omega, hd, fun j' h1 h2 => by omega⟩
    | false =>
      rw [beq_eq_false_iff_ne] at hd
      simp only
      refine ⟨fun j hj => ?_, fun hn j' hj' => ?_⟩
      · obtain ⟨h1, h2, h3⟩ := ih.1 j hj
        refine ⟨by omega, h2, fun j' q1 q2 => ?_⟩
        by_cases e : j' = i
        · rw [e]; exact hd
        · exact h3 j' q1 (by omega)
      · by_cases e : j' = i
        · rw [e]; exact hd
        · exact ih.2 hn j' (by omega)

/-- what the slots hold ahead of operation i -/
def SlR (σ : Nat → Value) (ι : Io) (l : List Oper) (i : Nat) (tm : Tm) (vs : Vs) (tmps : Array Value) : Prop :=
  ∀ t, VR σ ι 0 (evD tm vs (resSeq l i t)) (tmps.getD t undef)
theorem lookO_cons (i j : Nat) (x : AV) (vs : Vs) : lookO j ((i, x) :: vs) = if i = j then some x else lookO j vs := by
  simp only [lookO]
  cases h : Nat.beq i j with
  | true => rw [Nat.beq_eq] at h; simp [h]
  | false => have : i ≠ j := fun e => by rw [e] at h; simp at h
             simp [this]
theorem lookV_cons (i j : Nat) (x : AV) (vs : Vs) : lookV j ((i, x) :: vs) = if i = j then x else lookV j vs := by
  simp only [lookV]
  cases h : Nat.beq i j with
  | true => rw [Nat.beq_eq] at h; simp [h]
  | false => have : i ≠ j := fun e => by rw [e] at h; simp at h
             simp [this]
theorem lookV_O (j : Nat) : ∀ vs : Vs, lookV j vs = (lookO j vs).getD .bot := by
  intro vs
  induction vs with
  | nil => rfl
  | cons p vs ih =>
    obtain ⟨i, v⟩ := p
    rw [lookO_cons, lookV_cons]
    split
    · rfl
    · exact ih

theorem SlR_step {l : List Oper} {i : Nat} {tm : Tm} {vs : Vs} {a : Act} (h : SlR σ ι l i tm vs a.tmps) {o : Oper} (ho : l[i]? = some o) {N : Nat} (hN : N ≤ a.tmps.size) (hd : ∀ d, o.dst = some d → d < N)
    (ha : Ag 0 ι ι') {x : AV} {v : Value} (hx : VR σ ι' 0 x v) : SlR σ ι' l (i + 1) tm ((i, x) :: vs) (a.put o.dst v).tmps := by
  intro t
  unfold resSeq
  rw [lastW_succ, ho]
  simp only [Option.bind_some]
  have old := h t
  unfold resSeq at old
  cases hb : (o.dst == some t) with
  | true =>
    rw [beq_iff_eq] at hb
    simp only [evD, lookV_cons, if_true]
    have hlt := hd t hb
    rw [hb]
    simp only [Act.put]
    rw [Array.getD_eq_getD_getElem?, Array.getElem?_setIfInBounds_self]
    rw [if_pos (Nat.lt_of_lt_of_le hlt hN)]
    exact hx
  | false =>
    rw [beq_eq_false_iff_ne] at hb
    simp only
    have e : (a.put o.dst v).tmps.getD t undef = a.tmps.getD t undef := by
      cases hdd : o.dst with
      | none => rfl
      | some d =>
        simp only [Act.put]
        rw [Array.getD_eq_getD_getElem?, Array.getD_eq_getD_getElem?, Array.getElem?_setIfInBounds_ne]
        intro e; rw [hdd, e] at hb; exact hb rfl
    rw [e]
    split
    · rename_i j hj
      rw [hj] at old
      have := ((lastW_spec l t i).1 j hj).1
      simp only [evD, lookV_cons] at old ⊢
      rw [if_neg (by omega)]
      exact VR_any ha old
    · rename_i hj
      rw [hj] at old
      exact VR_any ha old
end
end Go.Ev
namespace Go.Ev
open Go

section
variable {P : Program} {σ : Nat → Value} {ι ι' : Io}

theorem rgOk_spec {n m : Nat} : ∀ {l : List Oper}, rgOk n m l = true → ∀ o ∈ l, (∀ d, o.dst = some d → d < n) ∧ ∀ x ∈ o.op.operands.toList, noGlob m x = true := by
  intro l
  induction l with
  | nil => intro _ o ho; cases ho
  | cons p l ih =>
    intro h o ho
    simp only [rgOk, Bool.and_eq_true] at h
    obtain ⟨⟨h1, h2⟩, h3⟩ := h
    rcases List.mem_cons.1 ho with rfl | ho
    · refine ⟨fun d hd => ?_, fun x hx => List.all_eq_true.1 h2 x hx⟩
      rw [hd] at h1; simpa using h1
    · exact ih h3 o ho

/-- operands, by what the slots hold -/
theorem opd_ok {h : Hp} {w : World} (hR : Rel P σ ι h w) {ρ : Nat → AD} {tm : Tm} {vs : Vs} {a : Act} (hs : ∀ t, VR σ ι 0 (evD tm vs (ρ t)) (a.tmps.getD t undef)) {m : Nat} (hm : m ≤ P.globals.size) {l : List Operand} (hg : ∀ x ∈ l, noGlob m x = true) (n : Nat) :
    Opd σ ι n ρ (evD tm vs) a.eval l := by
  intro x hx d hd
  have hgx := hg x hx
  cases x with
  | tmp t => simp only [cD] at hd; injection hd with hd; subst hd; exact VR_n (hs t)
  | const v =>
    simp only [cD] at hd
    cases hv : cVal v with
    | none => rw [hv] at hd; cases hd
    | some y => rw [hv] at hd; injection hd with hd; subst hd; exact cVal_ok hv
  | global g =>
    simp only [cD] at hd; injection hd with hd; subst hd
    simp only [noGlob, Nat.blt_eq] at hgx
    obtain ⟨h1, h2, h3⟩ := hR.glob g (by omega)
    simp only [evD, VR, Act.eval]
    exact ⟨h1, by rw [h2, h3]⟩
  | func f =>
    simp only [cD] at hd; injection hd with hd; subst hd
    simp only [evD, VR, Act.eval]
    exact ⟨_, _, rfl, by simp [VRs], by simp [VRs]⟩

theorem not_bool {x : AV} {c : Bool} (hv : VR σ ι 0 x (.bool c)) (hn1 : ∀ b, x ≠ .bo b) (hn2 : x ≠ .bot) (hn3 : ∀ n, x ≠ .atom n) : False := by
  cases x <;> simp only [VR] at hv
  case bo b => exact hn1 _ rfl
  case bot => exact hn2 rfl
  case atom n => exact hn3 _ rfl
  case si k m => obtain ⟨_, a, hv⟩ := hv; cases hv
  case ss m => obtain ⟨_, a, hv⟩ := hv; cases hv
  all_goals first
    | (cases hv; done)
    | (obtain ⟨_, hv, _⟩ := hv; cases hv; done)
    | (obtain ⟨_, hv⟩ := hv; cases hv; done)
    | (obtain ⟨_, _, hv, _⟩ := hv; cases hv; done)
    | (obtain ⟨_, _, _, hv, _⟩ := hv; cases hv; done)

/-- guards -/
theorem wanted_ok {ops : Array Oper} {ρ : Nat → AD} {tm : Tm} {vs : Vs} {tmps : Array Value} (hs : ∀ t, VR σ ι 0 (evD tm vs (ρ t)) (tmps.getD t undef)) {o : Oper} {i anc : Nat} {b : Bool} (h : wanted tm vs (cOper P ops.toList ρ o i anc).gd = some b) :
    Region.wanted o (yielded ops tmps) = b := by
  unfold Region.wanted
  unfold cOper at h
  simp only at h
  cases hg : o.guard with
  | none => rw [hg] at h; simp only [wanted] at h; injection h
  | some p =>
    obtain ⟨j, want⟩ := p
    rw [hg] at h
    simp only at h ⊢
    unfold yielded
    cases hj : (ops.toList[j]?).bind (·.dst) with
    | none => rw [hj] at h; simp [wanted, evD] at h
    | some d =>
      rw [hj] at h
      have hj' : (ops[j]?).bind (·.dst) = some d := by simpa using hj
      rw [hj']
      simp only [Option.bind_some]
      simp only [wanted] at h
      have hv := hs d
      have hgd : ∀ v, tmps.getD d undef = v → (∀ c, v ≠ .bool c) → ∀ c, tmps[d]? ≠ some (.bool c) := by
        intro v hv hn c hc
        rw [Array.getD_eq_getD_getElem?, hc] at hv
        exact hn c hv.symm
      have off : (∀ c, tmps.getD d undef ≠ .bool c) → ((match tmps[d]? with | some (.bool b) => some b | _ => none) == some want) = false := by
        intro hn
        split
        · rename_i c hc
          exact absurd hc (hgd _ rfl hn c)
        · rfl
      split at h
      · rename_i c he
        injection h with h
        rw [he] at hv
        simp only [VR] at hv
        have : tmps[d]? = some (.bool c) := by
          rw [Array.getD_eq_getD_getElem?] at hv
          cases ht : tmps[d]? with
          | none => rw [ht] at hv; simp [undef] at hv
          | some u => rw [ht] at hv; simp at hv; rw [hv]
        rw [this, ← h]
        cases c <;> cases want <;> rfl
      · cases h
      · cases h
      · rename_i hn1 hn2 hn3
        injection h with h
        rw [← h]
        refine off fun c hc => ?_
        rw [hc] at hv
        exact not_bool hv (fun b e => hn1 b e) (fun e => hn2 e) (fun n e => hn3 n e)

/-! what a region leaves -/
def flG (loc : Nat) (l : List Oper) (k : Nat) : List (Nat × Nat) :=
  (l.zipIdx k).filterMap fun (o, j) => match o.dst with | some d => if Nat.testBit loc d then some (j, d) else none | none => none
theorem flush_go (loc : Nat) (vs : Vs) : ∀ (l : List Oper) (k : Nat) (tm : Tm) (d : Nat) (x : AV), (flush (flG loc l k) vs tm).get d = some x →
    (∃ j, k ≤ j ∧ (l[j - k]?).bind (·.dst) = some d ∧ lookO j vs = some x ∧ ∀ j', j < j' → (l[j' - k]?).bind (·.dst) = some d → lookO j' vs = none) ∨
    (tm.get d = some x ∧ ∀ j', k ≤ j' → (l[j' - k]?).bind (·.dst) = some d → Nat.testBit loc d = true → lookO j' vs = none) := by
  intro l
  induction l with
  | nil => intro k tm d x h; exact .inr ⟨h, fun j' _ hj => by simp at hj⟩
  | cons o l ih =>
    intro k tm d x h
    have shift : ∀ {j}, k + 1 ≤ j → (o :: l)[j - k]? = l[j - (k + 1)]? := by
      intro j hj
      rw [show j - k = (j - (k + 1)) + 1 from by omega, List.getElem?_cons_succ]
    have step : ∀ (tm' : Tm), (flush (flG loc l (k + 1)) vs tm').get d = some x → (tm'.get d = some x → (tm.get d = some x ∧ (o.dst = some d → Nat.testBit loc d = true → lookO k vs = none)) ∨ (o.dst = some d ∧ lookO k vs = some x ∧ Nat.testBit loc d = true)) →
        (∃ j, k ≤ j ∧ ((o :: l)[j - k]?).bind (·.dst) = some d ∧ lookO j vs = some x ∧ ∀ j', j < j' → ((o :: l)[j' - k]?).bind (·.dst) = some d → lookO j' vs = none) ∨
        (tm.get d = some x ∧ ∀ j', k ≤ j' → ((o :: l)[j' - k]?).bind (·.dst) = some d → Nat.testBit loc d = true → lookO j' vs = none) := by
      intro tm' h hk
      rcases ih (k + 1) tm' d x h with ⟨j, h1, h2, h3, h4⟩ | ⟨h1, h2⟩
      · exact .inl ⟨j, by omega, by rw [shift h1]; exact h2, h3, fun j' hj' hh => h4 j' hj' (by rw [shift (by omega)] at hh; exact hh)⟩
      · by_cases hloc : Nat.testBit loc d = true
        · rcases hk h1 with ⟨h3, h4⟩ | ⟨h3, h4⟩
          · refine .inr ⟨h3, fun j' hj' hh hl => ?_⟩
            by_cases e : j' = k
            · subst e; simp at hh; exact h4 hh hl
            · rw [shift (by omega)] at hh; exact h2 j' (by omega) hh hl
          · refine .inl ⟨k, Nat.le_refl _, by simpa using h3, h4.1, fun j' hj' hh => ?_⟩
            rw [shift (by omega)] at hh; exact h2 j' (by omega) hh hloc
        · rcases hk h1 with ⟨h3, _⟩ | ⟨h3, h4⟩
          · exact .inr ⟨h3, fun j' _ _ hl => absurd hl hloc⟩
          · exact absurd h4.2 hloc
    unfold flG at h
    rw [List.zipIdx_cons, List.filterMap_cons] at h
    cases hd : o.dst with
    | none =>
      simp only [hd] at h
      exact step tm h fun h1 => .inl ⟨h1, fun e => by rw [hd] at e; cases e⟩
    | some d0 =>
      simp only [hd] at h
      by_cases hl : Nat.testBit loc d0 = true
      · rw [if_pos hl] at h
        simp only [flush] at h
        cases hlk : lookO k vs with
        | none =>
          rw [hlk] at h
          exact step tm h fun h1 => .inl ⟨h1, fun _ _ => by rw [hlk]⟩
        | some v =>
          rw [hlk] at h
          refine step _ h fun h1 => ?_
          rw [Tr.get_set] at h1
          split at h1
          · rename_i e; injection h1 with h1; subst h1
            exact .inr ⟨by rw [hd, e], hlk, by rw [e]; exact hl⟩
          · rename_i e
            exact .inl ⟨h1, fun e2 => by rw [hd] at e2; injection e2 with e2; exact absurd e2.symm e⟩
      · rw [if_neg hl] at h
        refine step tm h fun h1 => .inl ⟨h1, fun e hl2 => ?_⟩
        rw [hd] at e; injection e with e; subst e; exact absurd hl2 hl
end
end Go.Ev
namespace Go.Ev
open Go

section
variable {P : Program} {σ : Nat → Value} {ι ι' : Io}

theorem flOf_eq (loc : Nat) (l : List Oper) : flOf loc l = flG loc l 0 := rfl
theorem flush_other (vs : Vs) : ∀ (fl : List (Nat × Nat)) (tm : Tm) (d : Nat), (∀ p ∈ fl, p.2 ≠ d) → (flush fl vs tm).get d = tm.get d := by
  intro fl
  induction fl with
  | nil => intro tm d _; rfl
  | cons p fl ih =>
    intro tm d h
    obtain ⟨j, d0⟩ := p
    simp only [flush]
    split
    · rw [ih _ d (fun p hp => h p (by simp [hp])), Tr.get_set, if_neg (fun e => h (j, d0) (by simp) e.symm)]
    · exact ih _ d (fun p hp => h p (by simp [hp]))
theorem flG_loc (loc : Nat) : ∀ (l : List Oper) (k : Nat), ∀ p ∈ flG loc l k, Nat.testBit loc p.2 = true := by
  intro l k p hp
  unfold flG at hp
  rw [List.mem_filterMap] at hp
  obtain ⟨⟨o, j⟩, _, h⟩ := hp
  simp only at h
  split at h
  · split at h
    · injection h with h; subst h; assumption
    · cases h
  · cases h

theorem flush_ok {l : List Oper} {i loc : Nat} {tm : Tm} {vs : Vs} {tmps : Array Value} (hs : SlR σ ι l i tm vs tmps) (hvs : ∀ j, (lookO j vs).isSome = true ↔ j < i) (hloc : ∀ d, loc.testBit d = false → tm.get d = none) :
    TmR σ ι (flush (flOf loc l) vs tm) tmps ∧ ∀ d, loc.testBit d = false → (flush (flOf loc l) vs tm).get d = none := by
  have hother : ∀ d, loc.testBit d = false → (flush (flOf loc l) vs tm).get d = none := by
    intro d hd
    rw [flOf_eq, flush_other _ _ _ _ (fun p hp e => by have := flG_loc loc l 0 p hp; rw [e, hd] at this; cases this)]
    exact hloc d hd
  refine ⟨fun d x hx => ?_, hother⟩
  have hl : loc.testBit d = true := by
    cases hb : loc.testBit d with
    | true => rfl
    | false => rw [hother d hb] at hx; cases hx
  have old := hs d
  unfold resSeq at old
  rw [flOf_eq] at hx
  obtain ⟨sp1, sp2⟩ := lastW_spec l d i
  rcases flush_go loc vs l 0 tm d x hx with ⟨j, _, h2, h3, h4⟩ | ⟨h1, h2⟩
  · rw [Nat.sub_zero] at h2
    have hji : j < i := (hvs j).1 (by rw [h3]; rfl)
    cases hlw : lastW l d i with
    | none => exact absurd h2 (sp2 hlw j hji)
    | some j0 =>
      rw [hlw] at old
      obtain ⟨q1, q2, q3⟩ := sp1 j0 hlw
      have : j0 = j := by
        by_cases e : j < j0
        · have := h4 j0 e (by rw [Nat.sub_zero]; exact q2)
          have h5 := (hvs j0).2 q1
          rw [this] at h5; cases h5
        · by_cases e2 : j0 < j
          · exact absurd h2 (q3 j e2 hji)
          · omega
      subst this
      simp only [evD, lookV_O, h3, Option.getD_some] at old
      exact old
  · cases hlw : lastW l d i with
    | none =>
      rw [hlw] at old
      simp only [evD, getT, h1] at old
      exact old
    | some j0 =>
      obtain ⟨q1, q2, q3⟩ := sp1 j0 hlw
      have := h2 j0 (Nat.zero_le _) (by rw [Nat.sub_zero]; exact q2) hl
      have h5 := (hvs j0).2 q1
      rw [this] at h5; cases h5

theorem put_size (a : Act) (dst : Option Tmp) (v : Value) : (a.put dst v).tmps.size = a.tmps.size := by
  cases dst <;> simp [Act.put]
theorem put_defers (a : Act) (dst : Option Tmp) (v : Value) : (a.put dst v).defers = a.defers := by
  cases dst <;> rfl

/-- a region's operations, compiled -/
def aops (P : Program) (l : List Oper) : List AOp := l.zipIdx.map fun (o, i) => cOper P l (resSeq l i) o i 0
theorem aops_get {l : List Oper} {i : Nat} {o : Oper} (h : l[i]? = some o) : (aops P l).drop i = cOper P l (resSeq l i) o i 0 :: (aops P l).drop (i + 1) := by
  have : (aops P l)[i]? = some (cOper P l (resSeq l i) o i 0) := by
    unfold aops
    rw [List.getElem?_map, List.getElem?_zipIdx, h]
    simp
  have hlt : i < (aops P l).length := (List.getElem?_eq_some_iff.1 this).1
  rw [List.drop_eq_getElem_cons hlt]
  congr 1
  exact (List.getElem?_eq_some_iff.1 this).2
theorem aops_len (l : List Oper) : (aops P l).length = l.length := by simp [aops]

theorem execOp_call {c : Call} {g : Operand} (hc : c.callee = .value g) {den : Operand → Value} {dst : Option Tmp} {type : TypeId} {pos : String} {after : Array Edge} {guard : Option (Nat × Bool)} {f : FuncId} {as bs : Array Value}
    (hg : den g = .func (.func f) as bs) : execOp den ⟨dst, .call c, type, pos, after, guard⟩ = callFunc f (as ++ c.args.map den ++ bs) := by
  simp only [execOp, resolve, hc, hg, Deferred.ofValue]
  rfl
theorem execOp_yield {c : Call} {g : Operand} (hc : c.callee = .value g) {den : Operand → Value} {dst : Option Tmp} {type : TypeId} {pos : String} {after : Array Edge} {guard : Option (Nat × Bool)} {l : Nat}
    (hg : den g = .func (.yield l) #[] #[]) : execOp den ⟨dst, .call c, type, pos, after, guard⟩ = Instr.yield l (c.args.map den) := by
  simp only [execOp, resolve, hc, hg, Deferred.ofValue]
  show Instr.yield l (#[] ++ c.args.map den) = _
  rw [Array.empty_append]
theorem execOp_defer {c : Call} {g : Operand} (hc : c.callee = .value g) {den : Operand → Value} {dst : Option Tmp} {type : TypeId} {pos : String} {after : Array Edge} {guard : Option (Nat × Bool)} {w : World} {d : Deferred}
    (hd : (Deferred.ofValue (den g) (c.args.map den)).run P w = .ok d w) : (execOp den ⟨dst, .defer c, type, pos, after, guard⟩).run P w = .ok (.defer d) w := by
  simp only [execOp, resolve, hc, Sem.run_bind, hd, Result.andThen_ok, Sem.run_pure]
end
end Go.Ev
namespace Go.Ev
open Go

section
variable {P : Program} {σ : Nat → Value} {κ : Kd} {C : List Frame} {ι0 : Io} {h0 : Hp} {w0 : World} {N loc : Nat}

theorem StR.rel {tm : Tm} {ds : Ds} {h : Hp} {rs : RS} {a : Act} {cs : List Frame} {w : World} {ι : Io} (hs : StR P σ κ C ι0 h0 w0 N loc tm ds h rs a cs w ι) : Rel P σ ι h w := hs.post.rel

/-- a state goes on -/
theorem StR.next (hR0 : Rel P σ ι0 h0 w0) {tm : Tm} {ds : Ds} {h h' : Hp} {rs : RS} {a : Act} {cs : List Frame} {w w' : World} {ι ι' : Io} (hs : StR P σ κ C ι0 h0 w0 N loc tm ds h rs a cs w ι) (hp : Post P σ ι h w ι' h' w') (dst : Option Tmp) (v : Value) :
    StR P σ κ C ι0 h0 w0 N loc tm ds h' rs (a.put dst v) cs w' ι' :=
  ⟨Post_trans hR0 hs.post hp, by rw [put_defers]; exact DsR_mono hp.ag hs.dfr, CsR_mono hp.ag hs.cs, by rw [put_size]; exact hs.size, hs.loc⟩

theorem evOps_ok (hP : 40 ≤ P.depth) (hσ : ∀ m, (σ m).oneCell' = true) {call : CallF} (hcall : CallOk P σ call) {fc : Fct} (hfc : FcOk σ fc) (hR0 : Rel P σ ι0 h0 w0) {ops : Array Oper} (hrg : rgOk N P.globals.size ops.toList = true) (tm : Tm) {r : R3} (hr : r ≠ .no) :
    ∀ (k i : Nat) (vs : Vs) (ds : Ds) (h : Hp) (rs : RS) (a : Act) (cs : List Frame) (w : World) (ι : Io), i + k = ops.size →
      StR P σ κ C ι0 h0 w0 N loc tm ds h rs a cs w ι → SlR σ ι ops.toList i tm vs a.tmps → (∀ j, (lookO j vs).isSome = true ↔ j < i) →
      evOps call fc tm (flOf loc ops.toList) ((aops P ops.toList).drop i) vs ds h rs = r →
      RX P κ ops (OutR P σ κ C ι0 h0 w0 N loc r) (List.range' i k) a cs w := by
  intro k
  induction k with
  | zero =>
    intro i vs ds h rs a cs w ι hi hs hsl hvs he
    have : (aops P ops.toList).drop i = [] := List.drop_eq_nil_of_le (by rw [aops_len]; simp; omega)
    rw [this] at he
    simp only [evOps] at he
    subst he
    refine RX_nil ?_
    obtain ⟨f1, f2⟩ := flush_ok hsl hvs hs.loc
    exact ⟨ι, ⟨hs.post, hs.dfr, hs.cs, hs.size, f2⟩, f1⟩
  | succ k ih =>
    intro i vs ds h rs a cs w ι hi hs hsl hvs he
    have hlt : i < ops.size := by omega
    have ho : ops[i]? = some ops[i] := Array.getElem?_eq_getElem hlt
    generalize ops[i] = o at ho
    have ho' : ops.toList[i]? = some o := by simpa using ho
    obtain ⟨hdst, hglob⟩ := rgOk_spec hrg o (List.mem_of_getElem? ho')
    rw [aops_get ho'] at he
    rw [List.range'_succ]
    have hvs' : ∀ x : AV, ∀ j, (lookO j ((i, x) :: vs)).isSome = true ↔ j < i + 1 := by
      intro x j
      rw [lookO_cons]
      split
      · rename_i e; subst e; simp
      · rename_i e; rw [hvs j]; omega
    have hD := opd_ok hs.rel hsl (Nat.le_refl _) hglob h.next
    simp only [cOper, evOps] at he
    split at he
    · -- wanted
      rename_i hw
      have hw' := wanted_ok (P := P) (ops := ops) (o := o) (i := i) (anc := 0) hsl hw
      -- a value, and the state behind
      have goV : ∀ {x : AV} {v : Value} {h' : Hp} {w' : World} {ι' : Io}, (execOp a.eval o).run P w = .ok (.value v) w' → Post P σ ι h w ι' h' w' → VR σ ι' 0 x v →
          evOps call fc tm (flOf loc ops.toList) ((aops P ops.toList).drop (i + 1)) ((i, x) :: vs) ds h' rs = r →
          RX P κ ops (OutR P σ κ C ι0 h0 w0 N loc r) (i :: List.range' (i + 1) k) a cs w := by
        intro x v h' w' ι' h1 h2 h3 h4
        exact RX_value ho hw' h1 (ih (i + 1) _ _ _ _ _ _ _ ι' (by omega) (hs.next hR0 h2 _ _) (SlR_step hsl ho' hs.size hdst h2.ag h3) (hvs' x) h4)
      have hund : ∀ ι' : Io, VR σ ι' 0 ude undef := fun ι' => by simp only [ude, VR]; exact ⟨_, rfl, by simp [VRs]⟩
      cases hop : cOp P (resSeq ops.toList i) o.op with
      | none =>
        rw [hop] at he
        simp only [evW] at he
        exact absurd he.symm hr
      | some ao =>
        rw [hop] at he
        cases ao with
        | p po =>
          simp only at he
          split at he
          · rename_i x hx
            obtain ⟨v, h1, h2⟩ := evP_ok hP hσ hfc hD hop hx w
            exact goV h1 (Post_refl hs.rel) (VR_n h2) he
          · exact absurd he.symm hr
        | r ro =>
          simp only at he
          split at he
          · rename_i x hx
            obtain ⟨v, h1, h2⟩ := evR_ok hs.rel hD hop hx
            exact goV h1 (Post_refl hs.rel) (VR_n h2) he
          · exact absurd he.symm hr
        | l lo =>
          simp only at he
          split at he
          · rename_i x ob hx
            obtain ⟨v, w', sz, h1, h2, h3, h4⟩ := evL_ok hσ hs.rel.fresh (w := w) hD hop hx
            exact goV h1 (Post_new hs.rel h2 h3) (VR_n h4) he
          · exact absurd he.symm hr
        | w wo =>
          simp only at he
          cases hpl : wo.plain with
          | true =>
            have hw1 := evW_ok hσ hs.rel hD hop hpl call rs
            split at he
            · rename_i x h' rs' hev
              rw [hev] at hw1
              obtain ⟨e1, v, w', ι', q1, q2, q3⟩ := hw1
              subst e1
              exact goV q1 q2 (VR_n q3) he
            · rename_i h' rs' hev
              rw [hev] at hw1
              obtain ⟨e1, w', ι', q1, q2⟩ := hw1
              subst e1
              exact RX_sk ho hw' q1 (ih (i + 1) _ _ _ _ _ _ _ ι' (by omega) (hs.next hR0 q2 _ _) (SlR_step hsl ho' hs.size hdst q2.ag (hund ι')) (hvs' ude) he)
            · rename_i hev; rw [hev] at hw1; exact hw1.elim
            · rename_i hev; rw [hev] at hw1; exact hw1.elim
            · exact absurd he.symm hr
          | false =>
            cases wo <;> simp only [WO.plain, Bool.true_eq_false] at hpl
            case call f as =>
              obtain ⟨c, g, h1, h2, h3, h4⟩ := cW_call hop
              simp only [evW] at he
              have hg := hD g (by rw [h1]; simp [Op.operands, Call.operands, h2]) _ h3
              have has := cDs_ok (σ := σ) (ι := ι) (n := h.next) (tm := tm) (vs := vs) (den := a.eval) h4 (fun y hy => hD y (by
                rw [h1]; simp only [Op.operands, Call.operands, h2, Array.toList_append]; simp at hy ⊢; exact .inr hy))
              obtain ⟨dst, op, type, pos, after, guard⟩ := o
              simp only at h1; subst h1
              unfold wCall at he
              generalize hF : evD tm vs f = F at he hg
              cases F <;> simp only at he <;> try exact absurd he.symm hr
              case yl id =>
                simp only [VR] at hg
                obtain ⟨hid, hg⟩ := hg
                have hyr := hcall.yl id (evDs tm vs as) h
                generalize hrc : call.yl id (evDs tm vs as) h = rc at he hyr
                cases rc with
                | no => simp only at he; exact absurd he.symm hr
                | pan x h' => simp only at he; exact absurd he.symm hr
                | ret x h' =>
                  simp only at he
                  obtain ⟨fn, tmps, asg, body, q1, q2⟩ := hyr ι w (c.args.map a.eval) hs.rel (by rw [Array.toList_map]; exact VRs_n has) hid
                  have hex : (execOp a.eval ⟨dst, .call c, type, pos, after, guard⟩).run P w = .ok (.round (ι id).blk fn tmps asg body) w := by
                    rw [execOp_yield h2 hg]; exact q1
                  refine RX_yield ho hw' hex ?_
                  intro c0 cs0
                  obtain ⟨v, w', ⟨ι', p1, p2⟩, p3⟩ := q2 c0 cs0
                  exact ⟨v, w', ih (i + 1) _ _ _ _ _ _ _ ι' (by omega) (hs.next hR0 p1 _ _) (SlR_step hsl ho' hs.size hdst p1.ag p2) (hvs' x) he, p3⟩
              rename_i fid first caps
              simp only [VR] at hg
              obtain ⟨va, vb, e1, e2, e3⟩ := hg
              have hargs : VRs σ ι 0 (first ++ (evDs tm vs as ++ caps)) (va ++ c.args.map a.eval ++ vb).toList := by
                rw [Array.toList_append, Array.toList_append, List.append_assoc]
                refine VRs_append (VRs_n e2) (VRs_append ?_ (VRs_n e3))
                rw [Array.toList_map]; exact VRs_n has
              have hex : execOp a.eval ⟨dst, .call c, type, pos, after, guard⟩ = callFunc fid (va ++ c.args.map a.eval ++ vb) := execOp_call h2 e1
              have hcr := hcall.fn fid (first ++ (evDs tm vs as ++ caps)) h
              generalize hrc : call.fn fid (first ++ (evDs tm vs as ++ caps)) h = rc at he hcr
              cases rc with
              | no => simp only at he; exact absurd he.symm hr
              | ret x h' =>
                simp only at he
                rcases hcr ι w _ hs.rel hargs with ⟨q1, q2⟩ | ⟨v, w', ι', q1, p1, p2⟩
                · refine RX_call ho hw' (by rw [hex]; exact q1) (Calls.mono q2 ?_)
                  rintro e w' ⟨v, rfl, ι', p1, p2⟩
                  exact ih (i + 1) _ _ _ _ _ _ _ ι' (by omega) (hs.next hR0 p1 _ _) (SlR_step hsl ho' hs.size hdst p1.ag p2) (hvs' x) he
                · exact goV (by rw [hex]; exact q1) p1 p2 he
              | pan x h' =>
                simp only at he
                obtain ⟨q1, q2⟩ := hcr ι w _ hs.rel hargs
                refine RX_call ho hw' (by rw [hex]; exact q1) (Calls.mono q2 ?_)
                rintro e w' ⟨v, rfl, ι', p1, p2⟩
                subst he
                have hsl' : SlR σ ι' ops.toList i tm vs a.tmps := fun t => VR_any (n := 0) p1.ag (hsl t)
                obtain ⟨f1, f2⟩ := flush_ok hsl' hvs hs.loc
                exact ⟨ι', ⟨Post_trans hR0 hs.post p1, DsR_mono p1.ag hs.dfr, CsR_mono p1.ag hs.cs, hs.size, f2⟩, f1, v, rfl, p2⟩
            case recv =>
              obtain ⟨c, h1, h2⟩ := cW_recv hop
              simp only [evW] at he
              have hex : (execOp a.eval o).run P w = .ok .recover w := by
                obtain ⟨dst, op, type, pos, after, guard⟩ := o
                simp only at h1; subst h1
                simp only [execOp, resolve, h2]
                rfl
              have hc := hs.cs
              unfold wRecv at he
              cases κ <;> simp only [CsR] at hc
              · obtain ⟨e1, _⟩ := hc; subst e1
                simp only at he
                exact absurd he.symm hr
              · obtain ⟨c0, cs1, u, g1, g2, g3⟩ := hc
                refine RX_recover rfl ho hw' hex ?_
                cases rs with
                | no => exact g3.elim
                | rnd => exact g3.elim
                | idle =>
                  simp only at he
                  simp only [MdR] at g3; subst g3
                  have hrec : recoverD cs = none := by rw [g2]; rfl
                  rw [hrec]
                  exact ih (i + 1) _ _ _ _ _ _ _ ι (by omega) (hs.next hR0 (Post_refl hs.rel) _ _) (SlR_step hsl ho' hs.size hdst Ag.refl (by simp [VR])) (hvs' .nif) he
                | got x =>
                  simp only at he
                  obtain ⟨v, g4, g5⟩ := g3; subst g4
                  have hrec : recoverD cs = none := by rw [g2]; rfl
                  rw [hrec]
                  exact ih (i + 1) _ _ _ _ _ _ _ ι (by omega) (hs.next hR0 (Post_refl hs.rel) _ _) (SlR_step hsl ho' hs.size hdst Ag.refl (by simp [VR])) (hvs' .nif) he
                | pan x =>
                  simp only at he
                  obtain ⟨v, g4, g5⟩ := g3; subst g4
                  have hrec : recoverD cs = some (v, { c0 with mode := .panicking [{ v, recovered := true }] } :: cs1) := by rw [g2]; rfl
                  rw [hrec]
                  simp only
                  have hn := hs.next hR0 (Post_refl hs.rel) o.dst v
                  exact ih (i + 1) _ _ _ (.got x) _ _ _ ι (by omega) ⟨hn.post, hn.dfr, ⟨c0, cs1, _, g1, rfl, v, rfl, g5⟩, hn.size, hn.loc⟩ (SlR_step hsl ho' hs.size hdst Ag.refl g5) (hvs' x) he
              · obtain ⟨e1, _⟩ := hc; subst e1
                simp only at he
                exact absurd he.symm hr
            case dfr f as =>
              obtain ⟨c, g, h1, h2, h3, h4⟩ := cW_dfr hop
              simp only [evW] at he
              have hro : κ.ro = none ∧ rs ≠ .rnd := by
                have hc := hs.cs
                cases κ with
                | normal => exact ⟨rfl, by rw [hc.1]; simp⟩
                | deferred =>
                  obtain ⟨c0, cs1, u, g1, g2, g3⟩ := hc
                  exact ⟨rfl, fun e => by subst e; exact g3⟩
                | rnd l =>
                  exfalso
                  rw [hc.1] at he
                  unfold wDfr at he
                  generalize evD tm vs f = F at he
                  cases F <;> simp only at he <;> exact absurd he.symm hr
              have hg := hD g (by rw [h1]; simp [Op.operands, Call.operands, h2]) _ h3
              have has := cDs_ok (σ := σ) (ι := ι) (n := h.next) (tm := tm) (vs := vs) (den := a.eval) h4 (fun y hy => hD y (by
                rw [h1]; simp only [Op.operands, Call.operands, h2, Array.toList_append]; simp at hy ⊢; exact .inr hy))
              unfold wDfr at he
              generalize hF : evD tm vs f = F at he hg
              cases F <;> simp only at he <;> try exact absurd he.symm hr
              rename_i fid first caps
              have hg' := hg
              simp only [VR] at hg
              obtain ⟨va, vb, e1, e2, e3⟩ := hg
              have hof : ∀ w, (Deferred.ofValue (a.eval g) (c.args.map a.eval)).run P w = .ok { target := .fn (.func fid) vb, args := va ++ c.args.map a.eval } w := by
                intro w; rw [e1]; rfl
              have he : evOps call fc tm (flOf loc ops.toList) ((aops P ops.toList).drop (i + 1)) ((i, ude) :: vs) ((.fn fid first caps, evDs tm vs as) :: ds) h rs = r := by
                cases rs <;> first | exact he | exact absurd rfl hro.2
              have hex : (execOp a.eval o).run P w = .ok (.defer { target := .fn (.func fid) vb, args := va ++ c.args.map a.eval }) w := by
                obtain ⟨dst, op, type, pos, after, guard⟩ := o
                simp only at h1; subst h1
                exact execOp_defer h2 (hof w)
              refine RX_defer hro.1 ho hw' hex ?_
              have hn := hs.next hR0 (Post_refl hs.rel) o.dst undef
              refine ih (i + 1) _ _ _ _ _ _ _ ι (by omega) ⟨hn.post, ?_, hn.cs, ?_, hn.loc⟩ ?_ (hvs' ude) he
              · rw [put_defers]
                exact ⟨_, _, rfl, .inr ⟨a.eval g, c.args.map a.eval, VR_n hg', by rw [Array.toList_map]; exact VRs_n has, hof⟩, hs.dfr⟩
              · rw [put_size]; exact hs.size
              · exact SlR_step (a := { a with defers := _ :: a.defers }) hsl ho' hs.size hdst Ag.refl (hund ι)
            case pan d =>
              obtain ⟨y, h1, h2⟩ := cW_pan hop
              simp only [evW] at he
              have hv := hD y (by rw [h1]; simp [Op.operands]) _ h2
              unfold wPan at he
              generalize hF : evD tm vs d = F at he hv
              cases F <;> simp only at he <;> try exact absurd he.symm hr
              rename_i t x
              have hv' := hv
              simp only [VR] at hv
              obtain ⟨v, e1, e2⟩ := hv
              have hex : (execOp a.eval o).run P w = .halt (.panic (.iface t v)) w := by
                obtain ⟨dst, op, type, pos, after, guard⟩ := o
                simp only at h1; subst h1
                simp only [execOp, e1, Instr.panic]
                rfl
              subst he
              refine RX_panic ho hw' hex ?_
              obtain ⟨f1, f2⟩ := flush_ok hsl hvs hs.loc
              exact ⟨ι, ⟨hs.post, hs.dfr, hs.cs, hs.size, f2⟩, f1, _, rfl, by rw [← e1]; exact VR_n hv'⟩
            case bad =>
              simp only [evW] at he
              exact absurd he.symm hr
    · -- not wanted
      rename_i hw
      have hw' := wanted_ok (P := P) (ops := ops) (o := o) (i := i) (anc := 0) hsl hw
      refine RX_off ho hw' (ih (i + 1) _ _ _ _ _ _ _ ι (by omega) (hs.next hR0 (Post_refl hs.rel) _ _) (SlR_step hsl ho' hs.size hdst Ag.refl ?_) (hvs' ude) he)
      simp only [ude, VR]; exact ⟨_, rfl, by simp [VRs]⟩
    · exact absurd he.symm hr
end
end Go.Ev
namespace Go.Ev
open Go

section
variable {P : Program} {σ : Nat → Value} {κ : Kd} {C : List Frame} {ι0 : Io} {h0 : Hp} {w0 : World} {N loc : Nat}

theorem newAt_alloc (w : World) (o : Obj) : NewAt w (w.alloc o) := newAt_push w o
theorem putAt_obj {w : World} {b : Nat} {o : Obj} : PutAt w (w.putObj b o) b :=
  ⟨by simp [World.putObj], fun b' hb => World.putObj_heap_other hb, rfl, rfl, rfl⟩

/-- the iterator is a function's body, or none -/
theorem WX_range {Q : PostX} {a : Act} {cs : List Frame} {w : World} {g : Operand} {ps : Array Tmp} {assign body : Code} (hκ : κ.ro = none)
    (h : ∀ fn, ∃ (l : Nat) (mark : List Deferred) (w₁ : World) (d : Deferred) (w₁' : World),
      (Instr.enterLoop fn a.tmps ps assign body none).run P w = .ok (l, mark) w₁ ∧
      (resolve a.eval (rangeCall g l) 0).run P w₁ = .ok d w₁' ∧
      ((∃ f args w₂, (invoke d.target d.args).run P w₁' = .ok (.enter f args) w₂ ∧ Calls P f args w₂ (rangePostX P κ l Q { a with defers := mark ++ a.defers } cs)) ∨
       (∃ v w₂, (invoke d.target d.args).run P w₁' = .ok (.value v) w₂ ∧ rangePostX P κ l Q { a with defers := mark ++ a.defers } cs (.returned v) w₂))) : WX P κ (.rangeFunc g ps assign body) Q a cs w := by
  intro b k hb hro
  obtain ⟨l, mark, w₁, d, w₁', he, hres, hcase⟩ := h b.fn
  rw [show (none : Option Nat) = b.roundOf from by rw [hro, hκ]] at he
  have fin : ∀ v w₃, rangePostX P κ l Q { a with defers := mark ++ a.defers } cs (.returned v) w₃ → Steps P (lone (b.atR a (.code (.rangeFunc g ps assign body) :: k)) cs w) (lone (b.atR { a with defers := mark ++ a.defers } (.endRangeFunc l :: k)) cs w₃) →
      ∃ e a' cs' w', Q e a' cs' w' ∧ ArrX P (lone (b.atR a (.code (.rangeFunc g ps assign body) :: k)) cs w) b k cs' e a' w' := by
    intro v w₃ hR hsteps
    obtain ⟨jump, w₄, hend, hj⟩ := hR
    have sback : Steps P (lone (b.atR a (.code (.rangeFunc g ps assign body) :: k)) cs w) (lone (b.atR { a with defers := mark ++ a.defers } ((jump.map Item.code).toList ++ k)) cs w₄) :=
      Steps.trans hsteps (.one (stepR_endRangeFunc hend))
    cases jump with
    | none => exact ⟨.normal, _, cs, w₄, hj, sback⟩
    | some c =>
      obtain ⟨e', a'', cs', w₅, hq, harr⟩ := hj b k hb hro
      exact ⟨e', a'', cs', w₅, hq, .of_steps sback harr⟩
  rcases hcase with ⟨f, args, w₂, hinv, hcall⟩ | ⟨v, w₂, hinv, hR⟩
  · have henter := stepR_rangeFunc (P := P) (b := b) (a := a) (k := k) (cs := cs) (w := w) he hres hinv
    obtain ⟨e, w₃, fr, hR, hsteps, _, hleave⟩ := hcall (b.atR { a with defers := mark ++ a.defers } (.inRangeFunc l :: k) :: cs)
    cases e with
    | returned v =>
      refine fin v w₃ hR (.head henter (Steps.trans hsteps (.one ?_)))
      rw [← finish_atR_inRangeFunc l v]; exact step_leave_returned hleave
    | panicked chain => exact hR.elim
    | outgrown => exact hR.elim
  · refine fin v w₂ hR (.one (step_lone_go ?_))
    have hev := Frame.eval_atR b { a with defers := mark ++ a.defers } (.inRangeFunc l :: k)
    simp only [Frame.atR] at hev
    have hres' : Sem.run P (resolve ({ tmps := a.tmps, defers := mark ++ a.defers } : Act).eval { callee := .value g, args := #[.const (.func (.yield l) #[] #[])], argTypes := #[] } 0) w₁ = .ok d w₁' := hres
    simp [stepG, stepG.exec, Frame.atR, Sem.runT_eq, he, GStep.bare_after, stepG.apply, hev, Sem.run_bind, hres', hinv, Result.andThen, Frame.finish]

theorem range_ok {call : CallF} (hcall : CallOk P σ call) (hR0 : Rel P σ ι0 h0 w0) {f : Operand} {ps : Array Tmp} {ca cb : Code} {F : AV} {tm : Tm} {ds : Ds} {h : Hp} {rs : RS} {a : Act} {cs : List Frame} {w : World} {ι : Io} {r : R3} (hr : r ≠ .no)
    (hs : StR P σ κ C ι0 h0 w0 N loc tm ds h rs a cs w ι) (ht : TmR σ ι tm a.tmps) (hps : ∀ d ∈ ps.toList, d < N ∧ loc.testBit d = true) (hf : VR σ ι 0 F (a.eval f))
    (he : evRange call F ps.toList (cC P N loc ca) (cC P N loc cb) tm ds h rs = r) : WX P κ (.rangeFunc f ps ca cb) (OutR P σ κ C ι0 h0 w0 N loc r) a cs w := by
  have hro : κ.ro = none ∧ rs ≠ .rnd := by
    have hc := hs.cs
    cases κ with
    | normal => exact ⟨rfl, by rw [hc.1]; simp⟩
    | deferred =>
      obtain ⟨c0, cs1, u, g1, g2, g3⟩ := hc
      exact ⟨rfl, fun e => by subst e; exact g3⟩
    | rnd l =>
      exfalso
      rw [hc.1] at he
      simp only [evRange] at he
      exact hr he.symm
  unfold evRange at he
  have he2 : evRange1 call F ps.toList (cC P N loc ca) (cC P N loc cb) tm ds h rs = r := by
    cases rs <;> first | exact he | exact absurd rfl hro.2
  unfold evRange1 at he2
  cases F <;> simp only at he2 <;> try exact absurd he2.symm hr
  rename_i g first caps
  simp only [VR] at hf
  obtain ⟨va, vb, e1, e2, e3⟩ := hf
  -- the two objects
  have key : ∀ fn : FuncId, ∃ (w2 : World) (ι2 : Io), (Instr.enterLoop fn a.tmps ps ca cb none).run P w = .ok (w.heap.size + 1, [{ target := .collected w.heap.size, args := #[] }]) w2 ∧
      Post P σ ι h w ι2 ((h.new .dfd).2.new (.loop .ready none tm ps.toList (cC P N loc ca) (cC P N loc cb) h.next)).2 w2 ∧ ι2.d h.next ∧ ι2.d (h.next + 1) ∧ (ι2 h.next).blk = w.heap.size ∧ (ι2 (h.next + 1)).blk = w.heap.size + 1 := by
    intro fn
    have hN1 := newAt_alloc w (.deferred (some []))
    have p1 := Post_new hs.rel hN1 (sz := 0) (o := .dfd) ⟨rfl, World.alloc_heap_new w _⟩
    have hN2 := newAt_alloc (w.alloc (.deferred (some []))) (.loop { state := .ready, pending := none, fn, tmps := a.tmps, params := ps, assign := ca, body := cb, defers := w.heap.size })
    have hsz : (w.alloc (.deferred (some []))).heap.size = w.heap.size + 1 := hN1.size
    have hfr := p1.rel.fresh
    have hag2 := Ag_upd hfr ⟨(w.alloc (.deferred (some []))).heap.size, 0, 0⟩
    have hd1 : (upd ι h.next ⟨w.heap.size, 0, 0⟩).d h.next := upd_d _ _ _
    have hd2 := hag2 h.next hd1
    have p2 := Post_new p1.rel hN2 (sz := 0) (o := .loop .ready none tm ps.toList (cC P N loc ca) (cC P N loc cb) h.next) (by
      refine ⟨rfl, hd2.1, fn, a.tmps, N, loc, ca, cb, ?_, rfl, rfl, hs.size, fun d x hx => ?_, hs.loc, hps⟩
      · rw [hd2.2, upd_same]
        simp only [hsz]
        have := World.alloc_heap_new (w.alloc (.deferred (some []))) (.loop { state := .ready, pending := none, fn, tmps := a.tmps, params := ps, assign := ca, body := cb, defers := w.heap.size })
        rw [hsz] at this
        simpa using this
      · exact VR_any (n := 0) hag2 (VR_any (n := 0) (Ag_upd hs.rel.fresh _) (ht d x hx)))
    refine ⟨_, _, run_enterLoop_outer _ _ _ _ _, Post_trans hs.rel p1 p2, hd2.1, upd_d _ _ _, ?_, ?_⟩
    · rw [hd2.2, upd_same]
    · have : (upd (upd ι h.next ⟨w.heap.size, 0, 0⟩) (h.next + 1) ⟨(w.alloc (.deferred (some []))).heap.size, 0, 0⟩) (h.next + 1) = ⟨(w.alloc (.deferred (some []))).heap.size, 0, 0⟩ := upd_same _ _ _
      exact congrArg Lc.blk this |>.trans hsz
  have hres : ∀ (l : Nat) (w1 : World), (resolve a.eval (rangeCall f l) 0).run P w1 = .ok { target := .fn (.func g) vb, args := va ++ #[.func (.yield l) #[] #[]] } w1 := by
    intro l w1
    have hm : Array.map a.eval #[Operand.const (Value.func (Fn.yield l) #[] #[])] = #[Value.func (Fn.yield l) #[] #[]] := by
      simp [Act.eval]
    simp only [resolve, e1, Deferred.ofValue, hm]
    rfl
  generalize hh2 : ((h.new .dfd).2.new (.loop .ready none tm ps.toList (cC P N loc ca) (cC P N loc cb) h.next)).2 = h2 at he2 key
  have hcr := hcall.fn g (first ++ (.yl (h.next + 1) :: caps)) h2
  generalize hrc : call.fn g (first ++ (.yl (h.next + 1) :: caps)) h2 = rc at he2 hcr
  cases rc with
  | no => simp only at he2; exact absurd he2.symm hr
  | pan x h' => simp only at he2; exact absurd he2.symm hr
  | ret x h' =>
    simp only at he2
    -- behind the call
    have post : ∀ (ι2 : Io) (w2 : World), Post P σ ι h w ι2 h2 w2 → ι2.d h.next → ι2.d (h.next + 1) → (ι2 h.next).blk = w.heap.size → (ι2 (h.next + 1)).blk = w.heap.size + 1 →
        ∀ (v : Value) (ι3 : Io) (w3 : World), Post P σ ι2 h2 w2 ι3 h' w3 →
        rangePostX P κ (w.heap.size + 1) (OutR P σ κ C ι0 h0 w0 N loc r) { a with defers := [{ target := .collected w.heap.size, args := #[] }] ++ a.defers } cs (.returned v) w3 := by
      intro ι2 w2 p2 d1 d2 b1 b2 v ι3 w3 p3
      unfold endR at he2
      split at he2
      · rename_i st pend tm' ps' a' b' dd hget
        split at he2
        · exact absurd he2.symm hr
        · rename_i hst
          obtain ⟨k1, k2, k3⟩ := p3.rel.live _ _ hget
          have eb : (ι3 (h.next + 1)).blk = w.heap.size + 1 := by rw [(p3.ag _ d2).2, b2]
          obtain ⟨g1, g2, fn, tmps, N', loc', ca', cb', g3, g4, g5, g6, g7, g8, g9⟩ := k3
          rw [eb] at g3
          have hend := run_endLoop (P := P) g3 (by simpa using hst)
          have p4 := Post_put p3.rel (id := h.next + 1) (w' := w3.putObj (w.heap.size + 1) (.loop { state := .exhausted, pending := pend.map AX.code, fn, tmps, params := ps'.toArray, assign := ca', body := cb', defers := (ι3 dd).blk })) hget rfl (by rw [eb]; exact putAt_obj)
            (o := .loop .exhausted pend tm' ps' a' b' dd) ⟨g1, g2, fn, tmps, N', loc', ca', cb', by rw [eb]; exact World.putObj_heap_same (by rw [← eb]; exact k2), g4, g5, g6, g7, g8, g9⟩
          have pp := Post_trans hs.rel p2 (Post_trans p2.rel p3 p4)
          have st' : StR P σ κ C ι0 h0 w0 N loc tm ((.pt h.next 0, []) :: ds) (h'.put (h.next + 1) (.loop .exhausted pend tm' ps' a' b' dd)) rs { a with defers := [{ target := .collected w.heap.size, args := #[] }] ++ a.defers } cs
              (w3.putObj (w.heap.size + 1) (.loop { state := .exhausted, pending := pend.map AX.code, fn, tmps, params := ps'.toArray, assign := ca', body := cb', defers := (ι3 dd).blk })) ι3 :=
            ⟨Post_trans hR0 hs.post pp, ⟨_, _, rfl, .inl ⟨h.next, rfl, (p3.ag _ d1).1, by rw [(p3.ag _ d1).2, b1]⟩, DsR_mono pp.ag hs.dfr⟩, CsR_mono pp.ag hs.cs, hs.size, hs.loc⟩
          have ht' : TmR σ ι3 tm a.tmps := TmR_mono pp.ag ht
          refine ⟨_, _, hend, ?_⟩
          cases pend with
          | none =>
            simp only at he2; subst he2
            exact ⟨ι3, st', ht'⟩
          | some ax =>
            cases ax with
            | ret =>
              simp only at he2; subst he2
              exact WX_ret ⟨ι3, st', ht'⟩
            | ex id =>
              simp only at he2; subst he2
              exact WX_exit ⟨rfl, ι3, st', ht'⟩
      · exact absurd he2.symm hr
    have hargs : ∀ (ι2 : Io) (w2 : World), Post P σ ι h w ι2 h2 w2 → ι2.d (h.next + 1) → (ι2 (h.next + 1)).blk = w.heap.size + 1 →
        VRs σ ι2 0 (first ++ (.yl (h.next + 1) :: caps)) (va ++ #[Value.func (Fn.yield (w.heap.size + 1)) #[] #[]] ++ vb).toList := by
      intro ι2 w2 p2 d2 b2
      rw [Array.toList_append, Array.toList_append, List.append_assoc]
      refine VRs_append (VRs_any (n := 0) p2.ag e2) (VRs_cons.2 ⟨?_, VRs_any (n := 0) p2.ag e3⟩)
      simp only [VR]
      exact ⟨d2, by rw [b2]⟩
    refine WX_range hro.1 fun fn => ?_
    obtain ⟨w2, ι2, q1, q2, q3, q4, q5, q6⟩ := key fn
    refine ⟨_, _, _, _, _, q1, hres _ _, ?_⟩
    rcases hcr ι2 w2 _ q2.rel (hargs ι2 w2 q2 q4 q6) with ⟨u1, u2⟩ | ⟨v, w3, ι3, u1, u2, u3⟩
    · refine .inl ⟨_, _, _, u1, Calls.mono u2 ?_⟩
      rintro e w3 ⟨v, rfl, ι3, u3, u4⟩
      exact post ι2 w2 q2 q3 q4 q5 q6 v ι3 w3 u3
    · exact .inr ⟨v, w3, u1, post ι2 w2 q2 q3 q4 q5 q6 v ι3 w3 u2⟩
end
end Go.Ev
namespace Go.Ev
open Go

section
variable {P : Program} {σ : Nat → Value} {κ : Kd} {C : List Frame} {ι0 : Io} {h0 : Hp} {w0 : World} {N loc : Nat}

/-- drawn regions are sound -/
def DrawOk (P : Program) (σ : Nat → Value) (call : CallF) (fc : Fct) : Prop :=
  ∀ (κ : Kd) (C : List Frame) (ι0 : Io) (h0 : Hp) (w0 : World) (N loc : Nat), Rel P σ ι0 h0 w0 → ∀ (ops : Array Oper) (l : List AOp), rgOk N P.globals.size ops.toList = true → dstU ops.toList = true →
    asap 1000 (ops.toList.zipIdx.map fun (o, i) => cOper P ops.toList (resDraw ops.toList (Region.before ops) i) o i ((Region.before ops).getD i 0)) 0 [] = some l →
    ∀ (tm : Tm) (ds : Ds) (h : Hp) (rs : RS) (a : Act) (cs : List Frame) (w : World) (ι : Io) (r : R3), r ≠ .no → StR P σ κ C ι0 h0 w0 N loc tm ds h rs a cs w ι → TmR σ ι tm a.tmps →
      evDraw call fc tm (flOf loc ops.toList) l [] ds h rs [] [] 0 = r →
      ∀ t, RX P κ ops (OutR P σ κ C ι0 h0 w0 N loc r) (Region.linearise.go .any ops ops.size t (Array.replicate ops.size false) []) a cs { w with drawn := w.drawn + 1 }

theorem Post_drawn {ι ι' : Io} {h h' : Hp} {w w' : World} (hp : Post P σ ι h w ι' h' w') : Post P σ ι h w ι' h' { w' with drawn := w'.drawn + 1 } where
  ag := hp.ag
  newd := hp.newd
  next := hp.next
  rel := Rel_heap hp.rel rfl
  fra := ⟨hp.fra.size, hp.fra.same, hp.fra.tape, hp.fra.os, hp.fra.output⟩
  old := hp.old

theorem OutR_nogoto {r : R3} (l : Nat) (a : Act) (cs : List Frame) (w : World) : ¬ OutR P σ κ C ι0 h0 w0 N loc r (.goto l) a cs w := by
  intro h
  cases r <;> exact h
theorem OutR_not_normal {r : R3} (hr : ∀ tm ds h rs, r ≠ .nrm tm ds h rs) (a : Act) (cs : List Frame) (w : World) : ¬ OutR P σ κ C ι0 h0 w0 N loc r .normal a cs w := by
  intro h
  cases r <;> first | exact hr _ _ _ _ rfl | exact h

theorem evC_ok (hP : 40 ≤ P.depth) (hσ : ∀ m, (σ m).oneCell' = true) (hm : P.follows .mixedOrders = true) {call : CallF} (hcall : CallOk P σ call) {fc : Fct} (hfc : FcOk σ fc) (hdraw : DrawOk P σ call fc) (hR0 : Rel P σ ι0 h0 w0) :
    ∀ (c : Code) (tm : Tm) (ds : Ds) (h : Hp) (rs : RS) (a : Act) (cs : List Frame) (w : World) (ι : Io) (r : R3), r ≠ .no → StR P σ κ C ι0 h0 w0 N loc tm ds h rs a cs w ι → TmR σ ι tm a.tmps →
      evC call fc (cC P N loc c) tm ds h rs = r → WX P κ c (OutR P σ κ C ι0 h0 w0 N loc r) a cs w := by
  intro c
  induction c with
  | skip =>
    intro tm ds h rs a cs w ι r hr hs ht he
    simp only [cC, evC] at he
    subst he
    exact WX_skip ⟨ι, hs, ht⟩
  | label l =>
    intro tm ds h rs a cs w ι r hr hs ht he
    simp only [cC, evC] at he
    subst he
    exact WX_label ⟨ι, hs, ht⟩
  | ret =>
    intro tm ds h rs a cs w ι r hr hs ht he
    simp only [cC, evC] at he
    subst he
    exact WX_ret ⟨ι, hs, ht⟩
  | exit id =>
    intro tm ds h rs a cs w ι r hr hs ht he
    simp only [cC, evC] at he
    subst he
    exact WX_exit ⟨rfl, ι, hs, ht⟩
  | region id ops draw =>
    intro tm ds h rs a cs w ι r hr hs ht he
    cases draw with
    | false =>
      simp only [cC] at he
      split at he
      · simp only [evC] at he; exact absurd he.symm hr
      · rename_i hrg
        simp only [Bool.not_eq_true, Bool.not_eq_false'] at hrg
        simp only [evC] at he
        refine WX_region ?_
        rw [List.range_eq_range']
        refine evOps_ok hP hσ hcall hfc hR0 hrg tm hr ops.size 0 [] ds h rs a cs w ι (by omega) hs (fun t => ?_) (fun j => by simp [lookO]) (by rw [List.drop_zero]; exact he)
        unfold resSeq
        rw [lastW_zero]
        simp only [evD, getT]
        cases hg : tm.get t with
        | none => simp [VR]
        | some x => exact ht t x hg
    | true =>
      simp only [cC] at he
      split at he
      · simp only [evC] at he; exact absurd he.symm hr
      · rename_i hrg
        simp only [Bool.not_eq_true, Bool.not_eq_false', Bool.and_eq_true] at hrg
        split at he
        · rename_i l hl
          simp only [evC] at he
          exact WX_draw hm (hdraw κ C ι0 h0 w0 N loc hR0 ops l hrg.1 hrg.2 hl tm ds h rs a cs w ι r hr hs ht he)
        · simp only [evC] at he; exact absurd he.symm hr
  | seq x y ihx ihy =>
    intro tm ds h rs a cs w ι r hr hs ht he
    simp only [cC, evC] at he
    refine WX_seq ?_
    generalize hx : evC call fc (cC P N loc x) tm ds h rs = rx at he
    cases rx with
    | no => simp only at he; exact absurd he.symm hr
    | nrm tm1 ds1 h1 rs1 =>
      simp only at he
      refine WX_mono (ihx tm ds h rs a cs w ι _ (by simp) hs ht hx) fun e a1 cs1 w1 hq => ?_
      cases e <;> first
        | (obtain ⟨ι1, q1, q2⟩ := hq; exact ihy tm1 ds1 h1 rs1 a1 cs1 w1 ι1 r hr q1 q2 he)
        | exact hq.elim
    | ex id tm1 ds1 h1 rs1 =>
      simp only at he; subst he
      refine WX_mono (ihx tm ds h rs a cs w ι _ (by simp) hs ht hx) fun e a1 cs1 w1 hq => ?_
      cases e <;> first | exact hq | exact hq.elim
    | rt tm1 ds1 h1 rs1 =>
      simp only at he; subst he
      refine WX_mono (ihx tm ds h rs a cs w ι _ (by simp) hs ht hx) fun e a1 cs1 w1 hq => ?_
      cases e <;> first | exact hq | exact hq.elim
    | pn v tm1 ds1 h1 rs1 =>
      simp only at he; subst he
      refine WX_mono (ihx tm ds h rs a cs w ι _ (by simp) hs ht hx) fun e a1 cs1 w1 hq => ?_
      cases e <;> first | exact hq | exact hq.elim
  | cond c x y ihx ihy =>
    intro tm ds h rs a cs w ι r hr hs ht he
    simp only [cC] at he
    split at he
    · simp only [evC] at he; exact absurd he.symm hr
    · rename_i hng
      simp only [Bool.not_eq_true, Bool.not_eq_false'] at hng
      split at he
      · rename_i d hd
        simp only [evC] at he
        have hv : VR σ ι 0 (evD tm [] d) (a.eval c) := by
          refine opd_ok (P := P) hs.rel (ρ := .t) (tm := tm) (vs := []) (a := a) (fun t => ?_) (m := 0) (Nat.zero_le _) (l := [c]) (by intro x hx; simp at hx; subst hx; exact hng) 0 c (by simp) d hd
          simp only [evD, getT]
          cases hg : tm.get t with
          | none => simp [VR]
          | some x => exact ht t x hg
        split at he
        · rename_i heq
          rw [heq] at hv; simp only [VR] at hv
          exact WX_cond (t := true) hv (ihx tm ds h rs a cs w ι r hr hs ht he)
        · rename_i heq
          rw [heq] at hv; simp only [VR] at hv
          exact WX_cond (t := false) hv (ihy tm ds h rs a cs w ι r hr hs ht he)
        · exact absurd he.symm hr
      · simp only [evC] at he; exact absurd he.symm hr
  | block id x ihx =>
    intro tm ds h rs a cs w ι r hr hs ht he
    simp only [cC, evC] at he
    refine WX_block ?_
    generalize hx : evC call fc (cC P N loc x) tm ds h rs = rx at he
    cases rx with
    | no => simp only at he; exact absurd he.symm hr
    | nrm tm1 ds1 h1 rs1 =>
      simp only at he; subst he
      refine WX_mono (ihx tm ds h rs a cs w ι _ (by simp) hs ht hx) fun e a1 cs1 w1 hq => ?_
      cases e <;> first | exact hq | exact hq.elim
    | ex id' tm1 ds1 h1 rs1 =>
      simp only at he
      refine WX_mono (ihx tm ds h rs a cs w ι _ (by simp) hs ht hx) fun e a1 cs1 w1 hq => ?_
      cases e with
      | exit id2 =>
        obtain ⟨e1, q⟩ := hq
        subst e1
        simp only [inBlockX]
        cases hb : Nat.beq id id' with
        | true =>
          rw [hb] at he
          simp only at he; subst he
          rw [Nat.beq_eq] at hb
          rw [if_pos hb.symm]
          exact q
        | false =>
          rw [hb] at he
          simp only at he; subst he
          rw [if_neg (fun e => by rw [e] at hb; simp at hb)]
          exact ⟨rfl, q⟩
      | _ => exact hq.elim
    | rt tm1 ds1 h1 rs1 =>
      simp only at he; subst he
      refine WX_mono (ihx tm ds h rs a cs w ι _ (by simp) hs ht hx) fun e a1 cs1 w1 hq => ?_
      cases e <;> first | exact hq | exact hq.elim
    | pn v tm1 ds1 h1 rs1 =>
      simp only at he; subst he
      refine WX_mono (ihx tm ds h rs a cs w ι _ (by simp) hs ht hx) fun e a1 cs1 w1 hq => ?_
      cases e <;> first | exact hq | exact hq.elim
  | loop x ihx =>
    intro tm ds h rs a cs w ι r hr hs ht he
    simp only [cC, evC] at he
    refine WX_loop ?_
    generalize (100000 : Nat) = n at he
    induction n generalizing tm ds h rs a cs w ι with
    | zero => simp only [evLoop] at he; exact absurd he.symm hr
    | succ n ihn =>
      simp only [evLoop] at he
      refine LX_round ?_
      generalize hx : evC call fc (cC P N loc x) tm ds h rs = rx at he
      cases rx with
      | no => simp only at he; exact absurd he.symm hr
      | nrm tm1 ds1 h1 rs1 =>
        simp only at he
        refine WX_mono (ihx tm ds h rs a cs w ι _ (by simp) hs ht hx) fun e a1 cs1 w1 hq => ?_
        cases e <;> first
          | (obtain ⟨ι1, q1, q2⟩ := hq; exact ihn tm1 ds1 h1 rs1 a1 cs1 w1 ι1 q1 q2 he)
          | exact hq.elim
      | ex id tm1 ds1 h1 rs1 =>
        simp only at he; subst he
        refine WX_mono (ihx tm ds h rs a cs w ι _ (by simp) hs ht hx) fun e a1 cs1 w1 hq => ?_
        cases e <;> first | exact hq | exact hq.elim
      | rt tm1 ds1 h1 rs1 =>
        simp only at he; subst he
        refine WX_mono (ihx tm ds h rs a cs w ι _ (by simp) hs ht hx) fun e a1 cs1 w1 hq => ?_
        cases e <;> first | exact hq | exact hq.elim
      | pn v tm1 ds1 h1 rs1 =>
        simp only at he; subst he
        refine WX_mono (ihx tm ds h rs a cs w ι _ (by simp) hs ht hx) fun e a1 cs1 w1 hq => ?_
        cases e <;> first | exact hq | exact hq.elim
  | scope x ihx =>
    intro tm ds h rs a cs w ι r hr hs ht he
    simp only [cC] at he
    exact WX_scope (ihx tm ds h rs a cs w ι r hr hs ht he) fun l a cs w => OutR_nogoto l a cs w
  | rangeFunc f ps x y _ _ =>
    intro tm ds h rs a cs w ι r hr hs ht he
    simp only [cC] at he
    split at he
    · simp only [evC] at he; exact absurd he.symm hr
    · rename_i hck
      simp only [Bool.not_eq_true, Bool.not_eq_false', Bool.and_eq_true, List.all_eq_true] at hck
      obtain ⟨hng, hps⟩ := hck
      split at he
      · rename_i d hd
        simp only [evC] at he
        refine range_ok hcall hR0 hr hs ht (fun d hd => ?_) ?_ he
        · have := hps d hd
          rw [Nat.blt_eq] at this
          exact this
        · refine opd_ok (P := P) hs.rel (ρ := .t) (tm := tm) (vs := []) (a := a) (fun t => ?_) (m := 0) (Nat.zero_le _) (l := [f]) (by intro x hx; simp at hx; subst hx; exact hng) 0 f (by simp) d hd
          simp only [evD, getT]
          cases hg : tm.get t with
          | none => simp [VR]
          | some x => exact ht t x hg
      · simp only [evC] at he; exact absurd he.symm hr
  | _ =>
    intro tm ds h rs a cs w ι r hr hs ht he
    simp only [cC, evC] at he
    exact absurd he.symm hr
end
end Go.Ev
namespace Go.Ev
open Go

section
variable {P : Program} {σ : Nat → Value}

def rvF (tmps : Array Value) : ResultVar → Sem Value
  | .tmp t => pure (tmps.getD t undef)
  | .cell a t => do loadVar t (← asAddr (tmps.getD a undef))
theorem results_eq (fn : Func) (tmps : Array Value) : results fn tmps = (do
    let vs ← fn.results.mapM (rvF tmps)
    pure (if h : vs.size = 1 then vs[0] else .tuple vs)) := by
  unfold results
  congr 1

theorem res_list {ι : Io} {h : Hp} {w : World} (hR : Rel P σ ι h w) {tm : Tm} {tmps : Array Value} (ht : TmR σ ι tm tmps) : ∀ {rs : List ResultVar} {ars : List AR} {xs : List AV}, cRes P rs = some ars → evRes tm h ars = some xs →
    ∃ vs : List Value, (rs.mapM (rvF tmps)).run P w = .ok vs w ∧ VRs σ ι 0 xs vs := by
  have slot : ∀ t, VR σ ι 0 (getT tm t) (tmps.getD t undef) := by
    intro t
    unfold getT
    cases hg : tm.get t with
    | none => simp [VR]
    | some x => exact ht t x hg
  intro rs
  induction rs with
  | nil =>
    intro ars xs h1 h2
    simp only [cRes] at h1; injection h1 with h1; subst h1
    simp only [evRes] at h2; injection h2 with h2; subst h2
    exact ⟨[], by simp, by simp [VRs]⟩
  | cons r rs ih =>
    intro ars xs h1 h2
    cases r with
    | tmp t =>
      simp only [cRes] at h1
      split at h1
      · rename_i rr hrr
        injection h1 with h1; subst h1
        simp only [evRes] at h2
        split at h2
        · rename_i ys hys
          injection h2 with h2; subst h2
          obtain ⟨vs, q1, q2⟩ := ih hrr hys
          exact ⟨tmps.getD t undef :: vs, by simp only [List.mapM_cons, Sem.run_bind, rvF, Sem.run_pure, Result.andThen_ok, q1], VRs_cons.2 ⟨slot t, q2⟩⟩
        · cases h2
      · cases h1
    | cell a t =>
      simp only [cRes] at h1
      split at h1
      · rename_i s g rr hs hg hrr
        injection h1 with h1; subst h1
        simp only [evRes] at h2
        split at h2
        · rename_i ys hys
          split at h2
          · rename_i x hx
            injection h2 with h2; subst h2
            obtain ⟨vs, q1, q2⟩ := ih hrr hys
            have hv := slot a
            obtain ⟨u, p1, p2⟩ := rLoad_ok hR hs hg hx hv
            refine ⟨u :: vs, ?_, VRs_cons.2 ⟨VR_n p2, q2⟩⟩
            have hld : (rvF tmps (.cell a t)).run P w = .ok u w := by
              simp only [rvF]
              unfold rLoad at hx
              split at hx
              · rename_i id off heq
                rw [heq] at hv
                simp only [VR] at hv
                obtain ⟨_, hv⟩ := hv
                unfold Instr.loadAt Instr.sureAddr at p1
                rw [hv] at p1 ⊢
                simpa [asAddr] using p1
              · cases hx
            simp only [List.mapM_cons, Sem.run_bind, hld, Result.andThen_ok, q1, Sem.run_pure]
          · cases h2
        · cases h2
      · cases h1

theorem tup_ok {ι : Io} {xs : List AV} {vs : List Value} (h : VRs σ ι 0 xs vs) : VR σ ι 0 (tup xs) (if h : vs.toArray.size = 1 then vs.toArray[0] else .tuple vs.toArray) := by
  have hl := VRs_length h
  cases xs with
  | nil =>
    simp only [VRs] at h; subst h
    simp only [tup, VR]
    exact ⟨_, rfl, by simp [VRs]⟩
  | cons x xs =>
    simp only [VRs] at h
    obtain ⟨v, ws, rfl, h1, h2⟩ := h
    cases xs with
    | nil =>
      simp only [VRs] at h2; subst h2
      simp only [tup]
      exact h1
    | cons y ys =>
      simp only [VRs] at h2
      obtain ⟨u, us, rfl, h3, h4⟩ := h2
      simp only [tup, VR]
      rw [dif_neg (by simp)]
      exact ⟨_, rfl, VRs_cons.2 ⟨h1, VRs_cons.2 ⟨h3, h4⟩⟩⟩

theorem fin_ok {ι : Io} {h h' : Hp} {w : World} (hR : Rel P σ ι h w) {tm : Tm} {tmps : Array Value} (ht : TmR σ ι tm tmps) {fn : Func} {ars : List AR} (hr : cRes P fn.results.toList = some ars) {x : AV} (hf : fin ars tm h = .ret x h') :
    h' = h ∧ ∃ v, (results fn tmps).run P w = .ok v w ∧ VR σ ι 0 x v := by
  unfold fin at hf
  split at hf
  · rename_i xs hxs
    injection hf with h1 h2; subst h1; subst h2
    obtain ⟨vs, q1, q2⟩ := res_list hR ht hr hxs
    refine ⟨rfl, _, ?_, tup_ok q2⟩
    rw [results_eq]
    obtain ⟨rl, hrl⟩ : ∃ rl, fn.results = rl := ⟨_, rfl⟩
    rw [hrl] at q1 ⊢
    obtain ⟨rl⟩ := rl
    simp only [List.mapM_toArray, Sem.run_bind, Sem.run_map]
    simp only at q1
    rw [q1]
    rfl
  · cases hf

theorem args0_get : ∀ (args : List AV) (n : Nat) (t : Tm) (d : Nat), (args0 args n t).get d = if n ≤ d then (match args[d - n]? with | some x => some x | none => t.get d) else t.get d := by
  intro args
  induction args with
  | nil => intro n t d; simp [args0]
  | cons x args ih =>
    intro n t d
    simp only [args0]
    rw [ih, Tr.get_set]
    by_cases h1 : n + 1 ≤ d
    · have h2 : n ≤ d := by omega
      have h3 : ¬ d = n := by omega
      simp only [if_pos h1, if_pos h2, if_neg h3]
      rw [show d - n = (d - (n + 1)) + 1 from by omega, List.getElem?_cons_succ]
    · simp only [if_neg h1]
      by_cases h2 : d = n
      · subst h2; simp
      · have h3 : ¬ n ≤ d := by omega
        simp only [if_neg h2, if_neg h3]
end
end Go.Ev
namespace Go.Ev
open Go

section
variable {P : Program} {σ : Nat → Value}

/-! leaving, with marks of ranges over functions -/
def LeavesM (P : Program) (fn : Func) (tmps : Array Value) (R : Ending → World → Prop) : List Deferred → FrameMode → World → Prop
  | [], u, w => Leaves P fn tmps R [] u w
  | d :: ds, u, w => u ≠ .run ∧
      ((∃ r w', d.target = .collected r ∧ (Instr.takeDeferred r).run P w = .ok [] w' ∧ LeavesM P fn tmps R ds u w') ∨
       (∃ fv cap f args, d.target = .fn fv cap ∧ (invoke d.target d.args).run P w = .ok (.enter f args) w ∧
        CallsD P f args u w fun
          | .returned _, u', w' => LeavesM P fn tmps R ds (settle u') w'
          | .panicked chain, u', w' => LeavesM P fn tmps R ds (raised u' chain) w'
          | .outgrown, _, w' => R .outgrown w'))
theorem leavesM_steps {fn : Func} {tmps : Array Value} {R : Ending → World → Prop} : ∀ (ds : List Deferred) (u : FrameMode) (w : World) (fr : Frame)
    (cs : List Frame), fr.mode = u → fr.defers = ds → fr.tmps = tmps → P.funcs[fr.fn]? = some fn → fr.kind = .normal → LeavesM P fn tmps R ds u w →
    ∃ e w' fr', R e w' ∧ Comes P (lone fr cs w) (lone fr' cs w') e ∧ fr'.fn = fr.fn ∧ fr'.leaving P w' e := by
  intro ds
  induction ds with
  | nil => exact fun u w fr cs hu hd ht hf hk h => leaves_steps [] u w fr cs hu hd ht hf hk h
  | cons d ds ih =>
    intro u w fr cs hu hd ht hf hk h
    obtain ⟨hrun, h⟩ := h
    rcases h with ⟨r, w', htar, htake, hrest⟩ | ⟨fv, cap, f, args, htar, hinv, hcall⟩
    · have h1 := step_collected (cs := cs) (hu ▸ hrun) hd htar htake
      obtain ⟨e', w'', fr', hR', hs', hfn', hl'⟩ := ih u w' { fr with defers := [] ++ ds } cs hu rfl ht hf hk hrest
      exact ⟨e', w'', fr', hR', Comes.of_steps (.one h1) hs', hfn', hl'⟩
    · have h1 := step_defer (cs := cs) (hu ▸ hrun) hd htar hinv
      obtain ⟨e, u', w', frX, hR, hsteps, hkX, hgo⟩ := hcall { fr with defers := ds } cs hu
      cases e with
      | returned v =>
        have h2 := step_going_returned (c := { { fr with defers := ds } with mode := u' }) (cs := cs) hkX hgo
        obtain ⟨e', w'', fr', hR', hs', hfn', hl'⟩ := ih (settle u') w' { { { fr with defers := ds } with mode := u' } with mode := settle u' } cs rfl rfl ht hf hk hR
        exact ⟨e', w'', fr', hR', Comes.of_steps (.head h1 (Steps.trans hsteps (.one h2))) hs', hfn', hl'⟩
      | panicked chain =>
        have h2 := step_going_panicked (c := { { fr with defers := ds } with mode := u' }) (cs := cs) hgo
        obtain ⟨e', w'', fr', hR', hs', hfn', hl'⟩ := ih (raised u' chain) w' { { { fr with defers := ds } with mode := u' } with mode := raised u' chain } cs rfl rfl ht hf hk hR
        exact ⟨e', w'', fr', hR', Comes.of_steps (.head h1 (Steps.trans hsteps (.one h2))) hs', hfn', hl'⟩
      | outgrown => exact ⟨.outgrown, w', fr, hR, Outgrown.of_steps (.one h1) hsteps, rfl, trivial⟩
def bodyPostX (P : Program) (fn : Func) (R : Ending → World → Prop) : Exit → Act → World → Prop
  | .normal, a, w | .ret, a, w => LeavesM P fn a.tmps R a.defers .returning w
  | .panic chain, a, w => LeavesM P fn a.tmps R a.defers (.panicking chain) w
  | .outgrown, _, w => R .outgrown w
  | _, _, _ => False

/-- a call's body, in a frame of its own -/
theorem calls_of_WX {f : FuncId} {fn : Func} {c : Code} {args : Array Value} {w : World} {R : Ending → World → Prop} (hf : P.funcs[f]? = some fn) (hb : fn.body = some c)
    (h : ∀ cs, WX P .normal c (fun e a' cs' w' => cs' = cs ∧ bodyPostX P fn R e a' w') { tmps := args ++ Array.replicate (fn.ntmps - args.size) undef, defers := [] } cs w) : Calls P f args w R := by
  intro cs
  let b : Frame := { (default : Frame) with fn := f, kind := .normal }
  have henter : Frame.enter P f args .normal = b.at { tmps := args ++ Array.replicate (fn.ntmps - args.size) undef, defers := [] } [.code c] := by
    simp [Frame.enter, Frame.at, hf, hb, b]
  obtain ⟨e, a', cs', w', ⟨rfl, hq⟩, harr⟩ := h cs b [] rfl rfl
  have harr := harr.arrives rfl
  rw [Frame.atR_of_none rfl, ← henter] at harr
  cases e with
  | normal =>
    obtain ⟨e', w'', fr', hR, hs, hfn, hl⟩ := leavesM_steps a'.defers .returning w' { b.at a' [] with mode := .returning } cs' rfl rfl rfl hf rfl hq
    exact ⟨e', w'', fr', hR, Comes.of_steps (Steps.trans harr (.one step_end)) hs, hfn, hl⟩
  | ret =>
    obtain ⟨todo, hs₀⟩ := harr
    obtain ⟨e', w'', fr', hR, hs, hfn, hl⟩ := leavesM_steps a'.defers .returning w' { b.at a' todo with mode := .returning } cs' rfl rfl rfl hf rfl hq
    exact ⟨e', w'', fr', hR, Comes.of_steps hs₀ hs, hfn, hl⟩
  | panic chain =>
    obtain ⟨todo, hs₀⟩ := harr
    obtain ⟨e', w'', fr', hR, hs, hfn, hl⟩ := leavesM_steps a'.defers (.panicking chain) w' { b.at a' todo with mode := .panicking chain } cs' rfl rfl rfl hf rfl hq
    exact ⟨e', w'', fr', hR, Comes.of_steps hs₀ hs, hfn, hl⟩
  | exit id => exact hq.elim
  | goto l => exact hq.elim
  | outgrown => exact ⟨.outgrown, w', b, hq, harr.resolve_left (by simp [b]), rfl, trivial⟩

/-- the table says what the program holds -/
def TabOk (P : Program) (T : Tab) : Prop := ∀ f af, T.code f = some af → ∃ fn loc, P.funcs[f]? = some fn ∧ cF P loc fn = some af
def PrimOk (P : Program) (σ : Nat → Value) (T : Tab) : Prop := ∀ f p, T.prim f = some p → ∀ args h, CallR P σ f args h (p args h)

theorem cF_ok {loc : Nat} {fn : Func} {af : AF} (h : cF P loc fn = some af) : ∃ c, fn.body = some c ∧ af.code = cC P fn.ntmps loc c ∧ cRes P fn.results.toList = some af.res ∧ (fn.name == "runtime.NumGoroutine") = false ∧ ∀ i, i < af.np → loc.testBit i = true := by
  unfold cF at h
  split at h
  · cases h
  · rename_i hnm
    split at h
    · cases h
    · rename_i hmask
      split at h
      · rename_i rs c h1 h2
        injection h with h; subst h
        refine ⟨c, h2, rfl, h1, by simpa using hnm, fun i hi => ?_⟩
        simp only [bne_iff_ne, ne_eq, Decidable.not_not] at hmask
        have : (Nat.land loc (2 ^ (fn.params.size + fn.nfree) - 1)).testBit i = (2 ^ (fn.params.size + fn.nfree) - 1).testBit i := by rw [hmask]
        have e1 : Nat.land loc (2 ^ (fn.params.size + fn.nfree) - 1) = loc &&& (2 ^ (fn.params.size + fn.nfree) - 1) := rfl
        rw [e1, Nat.testBit_and, Nat.testBit_two_pow_sub_one] at this
        simp only at hi
        simpa [hi] using this
      · cases h
theorem callFunc_ok {f : FuncId} {fn : Func} {c : Code} (hf : P.funcs[f]? = some fn) (hb : fn.body = some c) (hn : (fn.name == "runtime.NumGoroutine") = false) (args : Array Value) (w : World) : (callFunc f args).run P w = .ok (.enter f args) w := by
  unfold callFunc
  simp only [Sem.run_bind, run_program, Result.andThen_ok, hf, hn, hb, Option.isNone_some, Bool.false_eq_true, if_false, Sem.run_pure]

theorem start_ok {ι : Io} {h : Hp} {w : World} (hR : Rel P σ ι h w) {κ : Kd} {C cs : List Frame} {rs : RS} (hcs : CsR σ ι κ C rs cs) {args : List AV} {vargs : Array Value} (ha : VRs σ ι 0 args vargs.toList) {N loc np : Nat} (hl : lenIs args np = true) (hloc : ∀ i, i < np → loc.testBit i = true) :
    StR P σ κ C ι h w N loc (args0 args 0 .e) [] h rs { tmps := vargs ++ Array.replicate (N - vargs.size) undef, defers := [] } cs w ι ∧ TmR σ ι (args0 args 0 .e) (vargs ++ Array.replicate (N - vargs.size) undef) := by
  rw [lenIs_iff] at hl
  refine ⟨⟨Post_refl hR, rfl, hcs, by simp; omega, fun d hd => ?_⟩, fun d x hx => ?_⟩
  · rw [args0_get, if_pos (Nat.zero_le _), Nat.sub_zero]
    cases hg : args[d]? with
    | none => rfl
    | some x =>
      have := (List.getElem?_eq_some_iff.1 hg).1
      rw [hloc d (by omega)] at hd; cases hd
  · rw [args0_get, if_pos (Nat.zero_le _), Nat.sub_zero] at hx
    cases hg : args[d]? with
    | none => rw [hg] at hx; simp [Tr.get] at hx
    | some y =>
      rw [hg] at hx
      simp only at hx; injection hx with hx; subst hx
      obtain ⟨v, h1, h2⟩ := VRs_get ha hg
      have h1' : vargs[d]? = some v := by simpa using h1
      have hlt := (Array.getElem?_eq_some_iff.1 h1').1
      rw [Array.getD_eq_getD_getElem?, Array.getElem?_append_left hlt, h1']
      exact h2

theorem wpS_of_WX {c : Code} {Q : PostX} {a : Act} {cs : List Frame} {w : World} (h : WX P .deferred c Q a cs w) : c.wpS P Q a cs w := by
  intro b k hb hr
  obtain ⟨e, a', cs', w', q, harr⟩ := h b k hb hr
  refine ⟨e, a', cs', w', q, ?_⟩
  have := harr.arrives hr
  rw [Frame.atR_of_none hr] at this
  exact this

/-- a deferred function -/
theorem def_ok (hP : 40 ≤ P.depth) (hσ : ∀ m, (σ m).oneCell' = true) (hm : P.follows .mixedOrders = true) {T : Tab} (hT : TabOk P T) (hfc : FcOk σ T.fact) {call : CallF} (hcall : CallOk P σ call) (hdraw : DrawOk P σ call T.fact)
    {f : Nat} {args : List AV} {h h' : Hp} {rs rs' : RS} (he : evDef T call f args h rs = some (h', rs')) {ι : Io} {w : World} (hR : Rel P σ ι h w) {vargs : Array Value} (ha : VRs σ ι 0 args vargs.toList) {u : FrameMode} (hu : MdR σ ι rs u) :
    (callFunc f vargs).run P w = .ok (.enter f vargs) w ∧ CallsD P f vargs u w fun e u' w' => ∃ v, e = .returned v ∧ ∃ ι', Post P σ ι h w ι' h' w' ∧ MdR σ ι' rs' u' := by
  unfold evDef at he
  split at he
  · cases he
  · rename_i af haf
    obtain ⟨fn, loc, hf, hcf⟩ := hT f af haf
    obtain ⟨c, hb, hcode, hres, hnm, hloc⟩ := cF_ok hcf
    refine ⟨callFunc_ok hf hb hnm vargs w, ?_⟩
    split at he
    · cases he
    · rename_i hlen
      refine callsD_of_wpS hf hb fun c₀ cs hc₀ => wpS_of_WX ?_
      have hcs : CsR σ ι .deferred (c₀ :: cs) rs (c₀ :: cs) := ⟨c₀, cs, u, rfl, by subst hc₀; rfl, hu⟩
      obtain ⟨s1, s2⟩ := start_ok (N := fn.ntmps) hR hcs ha hlen hloc
      generalize hev : evC call T.fact af.code (args0 args 0 .e) [] h rs = r at he
      rw [hcode] at hev
      have hr : r ≠ .no := by intro e; subst e; cases he
      have hW := evC_ok hP hσ hm hcall hfc hdraw hR c _ [] h rs _ _ w ι r hr s1 s2 hev
      have done : ∀ {tm : Tm} {h1 : Hp} {rs1 : RS} {a : Act} {cs' : List Frame} {w' : World} {ι1 : Io}, StR P σ .deferred (c₀ :: cs) ι h w fn.ntmps loc tm [] h1 rs1 a cs' w' ι1 → TmR σ ι1 tm a.tmps →
          (match fin af.res tm h1 with | .ret _ h => some (h, rs1) | _ => none) = some (h', rs') →
          a.defers = [] ∧ ∃ u', cs' = { c₀ with mode := u' } :: cs ∧ ∃ v, (results fn a.tmps).run P w' = .ok v w' ∧ ∃ v', Ending.returned v = .returned v' ∧ ∃ ι', Post P σ ι h w ι' h' w' ∧ MdR σ ι' rs' u' := by
        intro tm h1 rs1 a cs' w' ι1 t1 t2 he2
        split at he2
        · rename_i x h2 hfin
          injection he2 with he2; injection he2 with e1 e2; subst e1; subst e2
          obtain ⟨e3, v, p1, p2⟩ := fin_ok t1.rel t2 hres hfin
          subst e3
          obtain ⟨c0, cs1, u', g1, g2, g3⟩ := t1.cs
          injection g1 with g4 g5; subst g4; subst g5
          exact ⟨t1.dfr, u', g2, v, p1, v, rfl, ι1, t1.post, g3⟩
        · cases he2
      refine WX_mono hW fun e a cs' w' hq => ?_
      cases r with
      | no => exact absurd rfl hr
      | nrm tm ds h1 rs1 =>
        cases ds with
        | cons => cases he
        | nil =>
          cases e <;> first
            | (obtain ⟨ι1, t1, t2⟩ := hq; exact done t1 t2 he)
            | exact hq.elim
      | rt tm ds h1 rs1 =>
        cases ds with
        | cons => cases he
        | nil =>
          cases e <;> first
            | (obtain ⟨ι1, t1, t2⟩ := hq; exact done t1 t2 he)
            | exact hq.elim
      | ex id tm ds h1 rs1 => cases he
      | pn v tm ds h1 rs1 => cases he

/-- leaving a function -/
theorem leave_ok (hP : 40 ≤ P.depth) (hσ : ∀ m, (σ m).oneCell' = true) (hm : P.follows .mixedOrders = true) {T : Tab} (hT : TabOk P T) (hfc : FcOk σ T.fact) {call : CallF} (hcall : CallOk P σ call) (hdraw : DrawOk P σ call T.fact)
    {ι0 : Io} {h0 : Hp} {w0 : World} (hR0 : Rel P σ ι0 h0 w0) {fn : Func} {ars : List AR} (hres : cRes P fn.results.toList = some ars) {tm : Tm} {tmps : Array Value} {R : Ending → World → Prop} {rc : RC} (hrc : rc ≠ .no)
    (hRr : ∀ ι' h' w', Post P σ ι0 h0 w0 ι' h' w' → (∀ x, rc = .ret x h' → ∀ v, VR σ ι' 0 x v → R (.returned v) w') ∧ (∀ x, rc = .pan x h' → ∀ v, VR σ ι' 0 x v → R (.panicked [{ v, recovered := false }]) w')) :
    ∀ (ds : Ds) (dl : List Deferred) (rs : RS) (u : FrameMode) (h : Hp) (w : World) (ι : Io), DsR P σ ι ds dl → MdR σ ι rs u → (∀ x, rs ≠ .got x) → Post P σ ι0 h0 w0 ι h w → TmR σ ι tm tmps →
      leave T call ars tm ds rs h = rc → LeavesM P fn tmps R dl u w := by
  intro ds
  induction ds with
  | nil =>
    intro dl rs u h w ι hd hu hg hp ht he
    simp only [DsR] at hd; subst hd
    simp only [leave] at he
    cases rs with
    | no => exact hu.elim
    | rnd => exact hu.elim
    | got x => exact absurd rfl (hg x)
    | pan x =>
      simp only at he
      obtain ⟨v, rfl, hv⟩ := hu
      exact (hRr ι h w hp).2 x he.symm v hv
    | idle =>
      simp only at he
      simp only [MdR] at hu; subst hu
      generalize hf : fin ars tm h = q at he
      cases q with
      | no => exact absurd he.symm hrc
      | pan x h1 => unfold fin at hf; split at hf <;> cases hf
      | ret x h1 =>
        obtain ⟨e3, v, p1, p2⟩ := fin_ok hp.rel ht hres hf
        subst e3
        exact ⟨v, p1, (hRr ι _ w hp).1 x he.symm v p2⟩
  | cons p ds ih =>
    intro dl rs u h w ι hd hu hg hp ht he
    obtain ⟨d, dl', rfl, hdd, hd'⟩ := hd
    have hurun : u ≠ .run := by
      intro e; subst e; cases rs <;> simp [MdR] at hu
    rcases hdd with ⟨id, rfl, hid, rfl⟩ | ⟨vf, vas, k1, k2, k3⟩
    · simp only [leave] at he
      split at he
      · rename_i hget
        obtain ⟨g1, g2, g3, g4⟩ := hp.rel.live id _ hget
        have p1 := Post_put hp.rel (w' := w.putObj (ι id).blk (.deferred none)) hget rfl putAt_obj (o := .dfx) (World.putObj_heap_same g2)
        refine ⟨hurun, .inl ⟨_, _, rfl, run_takeDeferred g4, ?_⟩⟩
        exact ih dl' rs u _ _ ι hd' hu hg (Post_trans hR0 hp p1) ht he
      · exact absurd he.symm hrc
    obtain ⟨F, args⟩ := p
    cases F <;> (try simp only [leave] at he) <;> try exact absurd he.symm hrc
    case pt id off =>
      simp only [VR] at k1
      obtain ⟨_, rfl⟩ := k1
      cases (k3 w)
    rename_i f first caps
    simp only [VR] at k1
    obtain ⟨as, bs, rfl, e2, e3⟩ := k1
    have hdd : d = { target := .fn (.func f) bs, args := as ++ vas } := by
      have := k3 w
      simp only [Deferred.ofValue, Sem.run_pure] at this
      injection this with this; exact this.symm
    subst hdd
    have hargs : VRs σ ι 0 (first ++ (args ++ caps)) (as ++ vas ++ bs).toList := by
      rw [Array.toList_append, Array.toList_append, List.append_assoc]
      exact VRs_append e2 (VRs_append k2 e3)
    generalize hev : evDef T call f (first ++ (args ++ caps)) h rs = q at he
    cases q with
    | none => simp only at he; exact absurd he.symm hrc
    | some q =>
      obtain ⟨h1, rs1⟩ := q
      obtain ⟨g1, g2⟩ := def_ok hP hσ hm hT hfc hcall hdraw hev hp.rel hargs hu
      refine ⟨hurun, .inr ⟨.func f, bs, f, as ++ vas ++ bs, rfl, g1, CallsD.mono g2 ?_⟩⟩
      · rintro e u' w' ⟨v, rfl, ι', p1, p2⟩
        have hp' := Post_trans hR0 hp p1
        have hd2 := DsR_mono p1.ag hd'
        have ht2 := TmR_mono p1.ag ht
        cases rs1 with
        | no => exact p2.elim
        | rnd => exact p2.elim
        | idle =>
          simp only at he
          simp only [MdR] at p2; subst p2
          exact ih dl' .idle .returning h1 w' ι' hd2 rfl (by simp) hp' ht2 he
        | pan x =>
          simp only at he
          obtain ⟨v1, rfl, hv1⟩ := p2
          exact ih dl' (.pan x) _ h1 w' ι' hd2 ⟨v1, rfl, hv1⟩ (by simp) hp' ht2 he
        | got x =>
          simp only at he
          obtain ⟨v1, rfl, hv1⟩ := p2
          exact ih dl' .idle .returning h1 w' ι' hd2 rfl (by simp) hp' ht2 he

/-- what a body's end comes to -/
def outC (T : Tab) (call : CallF) (res : List AR) : R3 → RC
  | .nrm tm ds h _ => leave T call res tm ds .idle h
  | .rt tm ds h _ => leave T call res tm ds .idle h
  | .pn v tm ds h _ => leave T call res tm ds (.pan v) h
  | _ => .no

/-- a function's call -/
theorem evFn_ok (hP : 40 ≤ P.depth) (hσ : ∀ m, (σ m).oneCell' = true) (hm : P.follows .mixedOrders = true) {T : Tab} (hT : TabOk P T) (hprim : PrimOk P σ T) (hfc : FcOk σ T.fact) {call : CallF} (hcall : CallOk P σ call) (hdraw : DrawOk P σ call T.fact) (f : Nat) (args : List AV) (h : Hp) :
    CallR P σ f args h (evFn T call (evC call T.fact) f args h) := by
  unfold evFn
  split
  · rename_i p hp; exact hprim f p hp args h
  · split
    · trivial
    · rename_i af haf
      obtain ⟨fn, loc, hf, hcf⟩ := hT f af haf
      obtain ⟨c, hb, hcode, hres, hnm, hloc⟩ := cF_ok hcf
      split
      · trivial
      · rename_i hlen
        generalize hev : evC call T.fact af.code (args0 args 0 .e) [] h .no = r
        rw [hcode] at hev
        -- what leaving comes to
        have main : ∀ (rc : RC) (R : Io → World → Ending → World → Prop), rc ≠ .no → r ≠ .no →
            outC T call af.res r = rc →
            (∀ ι w, Rel P σ ι h w → ∀ ι' h' w', Post P σ ι h w ι' h' w' → (∀ x, rc = .ret x h' → ∀ v, VR σ ι' 0 x v → R ι w (.returned v) w') ∧ (∀ x, rc = .pan x h' → ∀ v, VR σ ι' 0 x v → R ι w (.panicked [{ v, recovered := false }]) w')) →
            ∀ (ι : Io) (w : World) (vargs : Array Value), Rel P σ ι h w → VRs σ ι 0 args vargs.toList → (callFunc f vargs).run P w = .ok (.enter f vargs) w ∧ Calls P f vargs w (R ι w) := by
          intro rc R hrc hr hmt hRR ι w vargs hR ha
          refine ⟨callFunc_ok hf hb hnm vargs w, calls_of_WX hf hb fun cs => ?_⟩
          obtain ⟨s1, s2⟩ := start_ok (κ := .normal) (C := cs) (cs := cs) (N := fn.ntmps) hR ⟨rfl, rfl⟩ ha hlen hloc
          refine WX_mono (evC_ok hP hσ hm hcall hfc hdraw hR c _ [] h .no _ cs w ι r hr s1 s2 hev) fun e a cs' w' hq => ?_
          have key := fun tm => leave_ok hP hσ hm hT hfc hcall hdraw hR hres (tm := tm) (tmps := a.tmps) (R := R ι w) hrc (hRR ι w hR)
          cases r with
          | no => exact absurd rfl hr
          | ex id tm ds h1 rs1 => exact absurd hmt.symm hrc
          | nrm tm ds h1 rs1 =>
            cases e <;> first
              | (obtain ⟨ι1, t1, t2⟩ := hq
                 exact ⟨t1.cs.2, key tm ds _ .idle .returning h1 w' ι1 t1.dfr rfl (by simp) t1.post t2 hmt⟩)
              | exact hq.elim
          | rt tm ds h1 rs1 =>
            cases e <;> first
              | (obtain ⟨ι1, t1, t2⟩ := hq
                 exact ⟨t1.cs.2, key tm ds _ .idle .returning h1 w' ι1 t1.dfr rfl (by simp) t1.post t2 hmt⟩)
              | exact hq.elim
          | pn x tm ds h1 rs1 =>
            cases e <;> first
              | (obtain ⟨ι1, t1, t2, v, e1, e2⟩ := hq
                 subst e1
                 exact ⟨t1.cs.2, key tm ds _ (.pan x) _ h1 w' ι1 t1.dfr ⟨v, rfl, e2⟩ (by simp) t1.post t2 hmt⟩)
              | exact hq.elim
        suffices hsuf : CallR P σ f args h (outC T call af.res r) by cases r <;> exact hsuf
        generalize hmt : outC T call af.res r = rc
        have hrno : rc ≠ .no → r ≠ .no := by intro h1 e; subst e; exact h1 hmt.symm
        cases rc with
        | no => trivial
        | ret x h' =>
          intro ι w vargs hR ha
          refine .inl (main (.ret x h') (fun ι w e w' => ∃ v, e = .returned v ∧ ∃ ι', Post P σ ι h w ι' h' w' ∧ VR σ ι' 0 x v) (by simp) (hrno (by simp)) hmt (fun ι w _ ι' h1 w' hp => ⟨fun y hy v hv => ?_, fun y hy => (by cases hy)⟩) ι w vargs hR ha)
          injection hy with e1 e2; subst e1; subst e2
          exact ⟨v, rfl, ι', hp, hv⟩
        | pan x h' =>
          refine main (.pan x h') (fun ι w e w' => ∃ v, e = .panicked [{ v, recovered := false }] ∧ ∃ ι', Post P σ ι h w ι' h' w' ∧ VR σ ι' 0 x v) (by simp) (hrno (by simp)) hmt fun ι w _ ι' h1 w' hp => ⟨fun y hy => (by cases hy), fun y hy v hv => ?_⟩
          injection hy with e1 e2; subst e1; subst e2
          exact ⟨v, rfl, ι', hp, hv⟩

/-! a round -/
theorem setPs_foldl {ι : Io} {N loc : Nat} : ∀ (ps : List Nat) (args : List AV) (vargs : List Value) (tm : Tm) (tmps : Array Value), VRs σ ι 0 args vargs → args.length = ps.length → (∀ d ∈ ps, d < N ∧ loc.testBit d = true) → N ≤ tmps.size → TmR σ ι tm tmps → (∀ d, loc.testBit d = false → tm.get d = none) →
    N ≤ ((ps.zip vargs).foldl (fun tmps (t, a) => tmps.setIfInBounds t a) tmps).size ∧ TmR σ ι (setPs ps args tm) ((ps.zip vargs).foldl (fun tmps (t, a) => tmps.setIfInBounds t a) tmps) ∧ ∀ d, loc.testBit d = false → (setPs ps args tm).get d = none := by
  intro ps
  induction ps with
  | nil =>
    intro args vargs tm tmps ha hl hp hN ht hloc
    cases args with
    | nil => exact ⟨hN, ht, hloc⟩
    | cons => cases hl
  | cons p ps ih =>
    intro args vargs tm tmps ha hl hp hN ht hloc
    cases args with
    | nil => cases hl
    | cons x args =>
      simp only [VRs] at ha
      obtain ⟨v, vs, rfl, h1, h2⟩ := ha
      have hpp := hp p (by simp)
      simp only [List.zip_cons_cons, List.foldl_cons, setPs]
      refine ih args vs _ _ h2 (by simpa using hl) (fun d hd => hp d (by simp [hd])) (by simpa using hN) (fun d y hy => ?_) (fun d hd => ?_)
      · rw [Tr.get_set] at hy
        rw [Array.getD_eq_getD_getElem?]
        split at hy
        · rename_i e
          injection hy with hy; subst hy; subst e
          rw [Array.getElem?_setIfInBounds_self, if_pos (Nat.lt_of_lt_of_le hpp.1 hN)]
          exact h1
        · rename_i e
          rw [Array.getElem?_setIfInBounds_ne (fun e' => e e'.symm), ← Array.getD_eq_getD_getElem?]
          exact ht d y hy
      · rw [Tr.get_set, if_neg]
        · exact hloc d hd
        · intro e; subst e; rw [hpp.2] at hd; cases hd

theorem endY_ok {id : Nat} {p : Option AX} {h h' : Hp} {x : AV} (he : endY id p h = .ret x h') {ι : Io} {w : World} (hR : Rel P σ ι h w) :
    x = .bo p.isNone ∧ ∃ w', (Instr.endRound (ι id).blk (p.map AX.code)).run P w = .ok (.bool p.isNone) w' ∧ Post P σ ι h w ι h' w' := by
  unfold endY at he
  split at he
  · rename_i st pend tm ps a b dd hget
    injection he with e1 e2; subst e1; subst e2
    refine ⟨rfl, ?_⟩
    obtain ⟨k1, k2, g1, g2, fn, tmps, N, loc, ca, cb, g3, g4, g5, g6, g7, g8, g9⟩ := hR.live id _ hget
    have hrun := run_endRound (P := P) (p.map AX.code) g3
    have e : (p.map AX.code).isNone = p.isNone := by cases p <;> rfl
    rw [e] at hrun
    refine ⟨_, hrun, ?_⟩
    refine Post_put hR hget rfl putAt_obj ⟨g1, g2, fn, tmps, N, loc, ca, cb, ?_, g4, g5, g6, g7, g8, g9⟩
    rw [World.putObj_heap_same k2]
    cases p <;> rfl
  · cases he

theorem evYield_ok (hP : 40 ≤ P.depth) (hσ : ∀ m, (σ m).oneCell' = true) (hm : P.follows .mixedOrders = true) {call : CallF} (hcall : CallOk P σ call) {fc : Fct} (hfc : FcOk σ fc) (hdraw : DrawOk P σ call fc) (id : Nat) (args : List AV) (h : Hp) :
    YieldR P σ id args h (evYield (evC call fc) id args h) := by
  generalize he : evYield (evC call fc) id args h = rc
  cases rc with
  | no => trivial
  | pan x h' => trivial
  | ret x h' =>
    intro ι w vargs hR ha hid
    unfold evYield at he
    split at he
    · rename_i pend tm ps a b dd hget
      split at he
      · rename_i hlen
        rw [lenIs_iff] at hlen
        obtain ⟨k1, k2, g1, g2, fn, tmps, N, loc, ca, cb, g3, g4, g5, g6, g7, g8, g9⟩ := hR.live id _ hget
        subst g4
        have hlv := VRs_length ha
        have hy := run_yield (P := P) (args := vargs) g3 (by
          have : vargs.size = vargs.toList.length := by simp
          rw [this, ← hlv, hlen]; simp)
        refine ⟨_, _, _, _, hy, ?_⟩
        obtain ⟨s1, s2, s3⟩ := setPs_foldl ps args vargs.toList tm tmps ha hlen g9 g6 g7 g8
        have hfold : (ps.toArray.zip vargs).foldl (fun tmps (p : Tmp × Value) => tmps.setIfInBounds p.1 p.2) tmps = (ps.zip vargs.toList).foldl (fun tmps (p : Nat × Value) => tmps.setIfInBounds p.1 p.2) tmps := by
          rw [← Array.foldl_toList, Array.toList_zip]
        refine roundX_of_WX fun cs => ?_
        generalize hta : evC call fc (cC P N loc ca) (setPs ps args tm) [] h .rnd = ra at he
        have hst : StR P σ (.rnd (ι id).blk) cs ι h w N loc (setPs ps args tm) [] h .rnd { tmps := (ps.zip vargs.toList).foldl (fun tmps (p : Nat × Value) => tmps.setIfInBounds p.1 p.2) tmps, defers := [] } cs w ι :=
          ⟨Post_refl hR, rfl, ⟨rfl, rfl⟩, s1, s3⟩
        have hra : ra ≠ .no := by intro e; subst e; cases he
        have hWa := evC_ok hP hσ hm hcall hfc hdraw hR ca _ [] h .rnd _ cs w ι ra hra hst s2 hta
        show WX P _ ca _ { tmps := (ps.toArray.zip vargs).foldl (fun tmps (p : Tmp × Value) => tmps.setIfInBounds p.1 p.2) tmps, defers := [] } cs w
        rw [hfold]
        refine WX_mono hWa fun e a1 cs1 w1 hq => ?_
        cases ra with
        | no => cases he
        | ex id' tm1 ds1 h1 rs1 => cases he
        | rt tm1 ds1 h1 rs1 => cases he
        | pn v tm1 ds1 h1 rs1 => cases he
        | nrm tm1 ds1 h1 rs1 =>
          cases ds1 with
          | cons => cases he
          | nil =>
            simp only at he
            cases e <;> first | exact hq.elim | skip
            obtain ⟨ι1, t1, t2⟩ := hq
            refine ⟨t1.cs.2, ?_⟩
            split at he
            · rename_i pend2 tm2 ps2 a2 b2 dd2 hget2
              have eid := t1.post.ag id k1
              obtain ⟨k3, k4, l1, l2, fn2, tmps2, N2, loc2, ca2, cb2, l3, l4, l5, l6, l7, l8, l9⟩ := t1.rel.live id _ hget2
              have hblk : (ι1 id).blk = (ι id).blk := by rw [eid.2]
              rw [hblk] at l3
              have hbr := run_beginRound (P := P) l3 rfl
              refine ⟨_, hbr, ?_⟩
              have p2 := Post_put t1.rel (id := id) (w' := w1.putObj (ι id).blk (.loop { state := .busy, pending := pend2.map AX.code, fn := fn2, tmps := tmps2, params := ps2.toArray, assign := ca2, body := cb2, defers := (ι1 dd2).blk })) hget2 rfl (by rw [hblk]; exact putAt_obj)
                (o := .loop .busy pend2 tm2 ps2 a2 b2 dd2) ⟨l1, l2, fn2, tmps2, N2, loc2, ca2, cb2, by rw [hblk]; exact World.putObj_heap_same (by rw [← hblk]; exact k4), l4, l5, l6, l7, l8, l9⟩
              have hst2 : StR P σ (.rnd (ι id).blk) cs ι h w N loc tm1 [] (h1.put id (.loop .busy pend2 tm2 ps2 a2 b2 dd2)) .rnd a1 cs (w1.putObj (ι id).blk (.loop { state := .busy, pending := pend2.map AX.code, fn := fn2, tmps := tmps2, params := ps2.toArray, assign := ca2, body := cb2, defers := (ι1 dd2).blk })) ι1 :=
                ⟨Post_trans hR t1.post p2, t1.dfr, ⟨rfl, rfl⟩, t1.size, t1.loc⟩
              subst g5
              generalize htb : evC call fc (cC P N loc cb) tm1 [] (h1.put id (.loop .busy pend2 tm2 ps2 a2 b2 dd2)) .rnd = rb at he
              have hrb : rb ≠ .no := by intro e; subst e; cases he
              have hWb := evC_ok hP hσ hm hcall hfc hdraw hR cb _ [] _ .rnd _ cs _ ι1 rb hrb hst2 t2 htb
              -- the round's end
              have fin : ∀ {p : Option AX} {hb : Hp} {tmb : Tm} {rsb : RS} {ab : Act} {csb : List Frame} {wb : World} {ιb : Io}, endY id p hb = .ret x h' → StR P σ (.rnd (ι id).blk) cs ι h w N loc tmb [] hb rsb ab csb wb ιb →
                  csb = cs ∧ ∃ v w', (Instr.endRound (ι id).blk (p.map AX.code)).run P wb = .ok v w' ∧ ∃ ι', Post P σ ι h w ι' h' w' ∧ VR σ ι' 0 x v := by
                intro p hb tmb rsb ab csb wb ιb hey u1
                obtain ⟨e1, w', q1, q2⟩ := endY_ok hey u1.rel
                have eb : (ιb id).blk = (ι id).blk := by rw [(u1.post.ag id k1).2]
                rw [eb] at q1
                exact ⟨u1.cs.2, _, w', q1, ιb, Post_trans hR u1.post q2, by rw [e1]; simp only [VR]⟩
              refine WX_mono hWb fun e a3 cs3 w3 hq3 => ?_
              unfold endB at he
              split at he
              · cases e <;> first | exact hq3.elim | skip
                obtain ⟨ιb, u1, u2⟩ := hq3
                exact fin (p := none) he u1
              · cases e <;> first | exact hq3.elim | skip
                obtain ⟨ιb, u1, u2⟩ := hq3
                exact fin (p := some .ret) he u1
              · cases e <;> first | exact hq3.elim | skip
                obtain ⟨e5, ιb, u1, u2⟩ := hq3
                subst e5
                exact fin (p := some (.ex _)) he u1
              · cases he
            · cases he
      · cases he
    · cases he

/-- calls are sound -/
theorem evCall_ok (hP : 40 ≤ P.depth) (hσ : ∀ m, (σ m).oneCell' = true) (hm : P.follows .mixedOrders = true) {T : Tab} (hT : TabOk P T) (hprim : PrimOk P σ T) (hfc : FcOk σ T.fact) (hdraw : ∀ call, CallOk P σ call → DrawOk P σ call T.fact) :
    ∀ n, CallOk P σ (evCall T n) := by
  intro n
  induction n with
  | zero => exact ⟨fun _ _ _ => trivial, fun _ _ _ => trivial⟩
  | succ n ih => exact ⟨fun f args h => evFn_ok hP hσ hm hT hprim hfc ih (hdraw _ ih) f args h, fun id args h => evYield_ok hP hσ hm ih hfc (hdraw _ ih) id args h⟩
end
end Go.Ev
namespace Go.Ev
open Go

/-! Region.before: bits are edges, or bits of edges' ends -/
def befF (acc : Array Nat) (o : Oper) : Nat := o.after.foldl (fun s e => if Region.binds .any e then s ||| 2 ^ e.on ||| acc.getD e.on 0 else s) 0
theorem befF_bit (acc : Array Nat) (o : Oper) (j : Nat) : (befF acc o).testBit j = true ↔ ∃ e ∈ o.after.toList, Region.binds .any e = true ∧ (e.on = j ∨ (acc.getD e.on 0).testBit j = true) := by
  unfold befF
  rw [← Array.foldl_toList]
  have key : ∀ (l : List Edge) (s : Nat), (l.foldl (fun s e => if Region.binds .any e then s ||| 2 ^ e.on ||| acc.getD e.on 0 else s) s).testBit j = true ↔ s.testBit j = true ∨ ∃ e ∈ l, Region.binds .any e = true ∧ (e.on = j ∨ (acc.getD e.on 0).testBit j = true) := by
    intro l
    induction l with
    | nil => intro s; simp
    | cons e l ih =>
      intro s
      rw [List.foldl_cons, ih]
      by_cases hb : Region.binds .any e = true
      · rw [if_pos hb]
        simp only [Nat.testBit_or, Nat.testBit_two_pow, Bool.or_eq_true, decide_eq_true_eq, List.mem_cons]
        constructor
        · rintro (((h | h) | h) | ⟨e', h1, h2⟩)
          · exact .inl h
          · exact .inr ⟨e, .inl rfl, hb, .inl h⟩
          · exact .inr ⟨e, .inl rfl, hb, .inr h⟩
          · exact .inr ⟨e', .inr h1, h2⟩
        · rintro (h | ⟨e', rfl | h1, h2, h3 | h3⟩)
          · exact .inl (.inl (.inl h))
          · exact .inl (.inl (.inr h3))
          · exact .inl (.inr h3)
          · exact .inr ⟨e', h1, h2, .inl h3⟩
          · exact .inr ⟨e', h1, h2, .inr h3⟩
      · rw [if_neg hb]
        constructor
        · rintro (h | ⟨e', h1, h2⟩)
          · exact .inl h
          · exact .inr ⟨e', by simp [h1], h2⟩
        · rintro (h | ⟨e', h1, h2⟩)
          · exact .inl h
          · rcases List.mem_cons.1 h1 with rfl | h1
            · exact absurd h2.1 hb
            · exact .inr ⟨e', h1, h2⟩
  rw [key]
  simp

theorem before_eq (ops : Array Oper) : Region.before ops = ops.toList.foldl (fun acc o => acc.push (befF acc o)) #[] := by
  unfold Region.before befF
  rw [← Array.foldl_toList]

/-- bits of before: from the ops' edges -/
theorem before_go : ∀ (l : List Oper) (acc : Array Nat), (l.foldl (fun acc o => acc.push (befF acc o)) acc).size = acc.size + l.length ∧
    (∀ i, i < acc.size → (l.foldl (fun acc o => acc.push (befF acc o)) acc)[i]? = acc[i]?) ∧
    (∀ i o, l[i]? = some o → ∃ acc' : Array Nat, (∀ k, k < acc'.size → acc'[k]? = (l.foldl (fun acc o => acc.push (befF acc o)) acc)[k]?) ∧ (l.foldl (fun acc o => acc.push (befF acc o)) acc)[acc.size + i]? = some (befF acc' o)) := by
  intro l
  induction l with
  | nil => intro acc; exact ⟨by simp, fun i hi => rfl, fun i o h => by simp at h⟩
  | cons o l ih =>
    intro acc
    obtain ⟨h1, h2, h3⟩ := ih (acc.push (befF acc o))
    simp only [List.foldl_cons]
    refine ⟨by rw [h1]; simp; omega, fun i hi => ?_, fun i o' ho' => ?_⟩
    · rw [h2 i (by simp; omega), Array.getElem?_push, if_neg (by omega)]
    · cases i with
      | zero =>
        simp at ho'; subst ho'
        refine ⟨acc, fun k hk => ?_, ?_⟩
        · rw [h2 k (by simp; omega), Array.getElem?_push, if_neg (by omega)]
        · rw [Nat.add_zero, h2 acc.size (by simp)]; simp
      | succ i =>
        simp at ho'
        obtain ⟨acc', q1, q2⟩ := h3 i o' ho'
        refine ⟨acc', q1, ?_⟩
        rw [← q2]; congr 1; simp; omega

/-- an edge's end is ahead, by its bit -/
theorem before_edge {ops : Array Oper} {i : Nat} {o : Oper} (ho : ops[i]? = some o) {e : Edge} (he : e ∈ o.after.toList) (hb : Region.binds .any e = true) : ((Region.before ops).getD i 0).testBit e.on = true := by
  obtain ⟨h1, h2, h3⟩ := before_go ops.toList #[]
  obtain ⟨acc', q1, q2⟩ := h3 i o (by simpa using ho)
  rw [Array.getD_eq_getD_getElem?, before_eq]
  simp only [List.size_toArray, List.length_nil, Nat.zero_add] at q2
  rw [q2]
  exact (befF_bit acc' o e.on).2 ⟨e, he, hb, .inl rfl⟩
/-- whoever holds all ends of an operation's edges, and is closed, holds all its bits -/
theorem before_closed {ops : Array Oper} {S : Nat → Prop} (hS : ∀ i, S i → ∀ j, ((Region.before ops).getD i 0).testBit j = true → S j) {i : Nat} {o : Oper} (ho : ops[i]? = some o) (he : ∀ e ∈ o.after.toList, Region.binds .any e = true → S e.on) :
    ∀ j, ((Region.before ops).getD i 0).testBit j = true → S j := by
  intro j hj
  obtain ⟨h1, h2, h3⟩ := before_go ops.toList #[]
  obtain ⟨acc', q1, q2⟩ := h3 i o (by simpa using ho)
  rw [Array.getD_eq_getD_getElem?, before_eq] at hj
  simp only [List.size_toArray, List.length_nil, Nat.zero_add] at q2
  rw [q2] at hj
  obtain ⟨e, p1, p2, p3⟩ := (befF_bit acc' o j).1 hj
  rcases p3 with rfl | p3
  · exact he e p1 p2
  · refine hS e.on (he e p1 p2) j ?_
    rw [Array.getD_eq_getD_getElem?] at p3 ⊢
    by_cases hk : e.on < acc'.size
    · rw [before_eq, ← q1 e.on hk]; exact p3
    · rw [Array.getElem?_eq_none (by omega)] at p3; simp at p3
end Go.Ev
namespace Go.Ev
open Go

section
variable {P : Program} {σ : Nat → Value} {ι ι' ι0 : Io}

theorem OR_any {n n' : Nat} {lc : Lc} {w w' : World} (hw : w'.heap[lc.blk]? = w.heap[lc.blk]?) (ha : ∀ id, ι.d id → ι'.d id ∧ ι' id = ι id) : ∀ {o : AObj}, OR P σ ι n lc w o → OR P σ ι' n' lc w' o
  | .cells ro l, ⟨c, e, fr, h1, h2, h3, h4, h5⟩ => ⟨c, e, fr, by rw [hw, h1], h2, h3, fun i x hx => by
      obtain ⟨h6, v, h7, h8⟩ := h4 i x hx
      exact ⟨h6, v, h7, VR_any (n := n) ha h8⟩, fun hro o ho => by
      have := h5 hro o ho
      unfold World.frozen? at this ⊢
      simp only [hw, h1] at this ⊢
      exact this⟩
  | .map es k, ⟨ents, h1, h2, h3, h4⟩ => ⟨ents, by rw [hw, h1], h2, VRs_any (n := n) ha h3, VRs_any (n := n) ha h4⟩
  | .iter m since seen st, ⟨h1, h2, h3⟩ => ⟨by
      rw [hw, h1]
      cases m with
      | none => rfl
      | some id => simp only [Option.map_some]; rw [(ha id (h2 id rfl)).2], fun id hid => (ha id (h2 id hid)).1, h3⟩
  | .siter .., h => h.elim
  | .loop st pend tm ps a b dd, ⟨h1, h2, fn, tmps, N, loc, ca, cb, h3, h4, h5, h6, h7, h8, h9⟩ => ⟨h1, (ha dd h2).1, fn, tmps, N, loc, ca, cb, by rw [hw, h3, (ha dd h2).2], h4, h5, h6, fun d x hx => VR_any (n := 0) ha (h7 d x hx), h8, h9⟩
  | .dfd, ⟨h1, h2⟩ => ⟨h1, by rw [hw, h2]⟩
  | .dfx, h1 => by simp only [OR] at h1 ⊢; rw [hw, h1]

/-- fewer objects -/
theorem Rel_sub {h h' : Hp} {w : World} (hR : Rel P σ ι h w) (hn : h'.next = h.next) (hs : ∀ id o, h'.get id = some o → h.get id = some o) : Rel P σ ι h' w where
  live := fun id o hg => by
    obtain ⟨h1, h2, h3⟩ := hR.live id o (hs id o hg)
    exact ⟨h1, h2, by rw [hn]; exact h3⟩
  inj := fun id id' o o' h1 h2 he => hR.inj id id' o o' (hs _ _ h1) (hs _ _ h2) he
  dom := fun id hd => by rw [hn]; exact hR.dom id hd
  glob := hR.glob

/-- a writer ran on some of the objects; all others are as they were -/
theorem Post_wide {hd h1 h2 hd' : Hp} {w w' : World} (hR : Rel P σ ι hd w) (hn1 : h1.next = hd.next) (hs1 : ∀ id o, h1.get id = some o → hd.get id = some o) (hp : Post P σ ι h1 w ι' h2 w')
    (hn2 : hd'.next = h2.next) (hs2 : ∀ id o, hd'.get id = some o → h2.get id = some o ∨ (h1.get id = none ∧ hd.get id = some o)) : Post P σ ι hd w ι' hd' w' := by
  have low : ∀ {id o}, hd.get id = some o → id < h1.next := fun hg => by rw [hn1]; exact hR.dom _ (hR.live _ _ hg).1
  -- a new object's block, or an old one's
  have blk : ∀ {id o}, h2.get id = some o → (∃ o', h1.get id = some o' ∧ (o.rw = true → o'.rw = true)) ∨ (h1.next ≤ id ∧ (w.heap.size ≤ (ι' id).blk ∨ ∃ id' o', h1.get id' = some o' ∧ o'.rw = true ∧ (ι' id).blk = (ι id').blk)) := fun hg => hp.old _ _ hg
  have same : ∀ {id o}, h1.get id = none → hd.get id = some o → w'.heap[(ι id).blk]? = w.heap[(ι id).blk]? := by
    intro id o h3 h4
    refine hp.fra.same _ (hR.live id o h4).2.1 fun id' o' h5 _ h6 => ?_
    have := hR.inj id' id o' o (hs1 _ _ h5) h4 h6
    subst this; rw [h5] at h3; cases h3
  have apart : ∀ {id o id2 o2}, h1.get id = none → hd.get id = some o → h2.get id2 = some o2 → (ι' id).blk = (ι' id2).blk → id = id2 := by
    intro id o id2 o2 h3 h4 h5 he
    have e1 : ι' id = ι id := (hp.ag id (hR.live id o h4).1).2
    rw [e1] at he
    rcases blk h5 with ⟨o', h6, _⟩ | ⟨h6, h7 | ⟨id', o', h7, _, h8⟩⟩
    · rw [(hp.ag id2 (hR.live id2 o' (hs1 _ _ h6)).1).2] at he
      exact hR.inj _ _ _ _ h4 (hs1 _ _ h6) he
    · have := (hR.live id o h4).2.1; omega
    · have := hR.inj _ _ _ _ h4 (hs1 _ _ h7) (he.trans h8)
      subst this; rw [h7] at h3; cases h3
  refine ⟨hp.ag, fun id hd => by rw [← hn1]; exact hp.newd id hd, by rw [hn2, ← hn1]; exact hp.next, ?_, ?_, ?_⟩
  · exact {
      live := fun id o hg => by
        rcases hs2 id o hg with h3 | ⟨h3, h4⟩
        · obtain ⟨k1, k2, k3⟩ := hp.rel.live id o h3
          exact ⟨k1, k2, by rw [hn2]; exact k3⟩
        · obtain ⟨k1, k2, k3⟩ := hR.live id o h4
          have e1 := hp.ag id k1
          refine ⟨e1.1, by rw [e1.2]; exact Nat.lt_of_lt_of_le k2 hp.fra.size, ?_⟩
          rw [e1.2]
          exact OR_any (same h3 h4) hp.ag k3
      inj := fun id id2 o o2 hg hg2 he => by
        rcases hs2 id o hg with h3 | ⟨h3, h4⟩ <;> rcases hs2 id2 o2 hg2 with h5 | ⟨h5, h6⟩
        · exact hp.rel.inj _ _ _ _ h3 h5 he
        · exact (apart h5 h6 h3 he.symm).symm
        · exact apart h3 h4 h5 he
        · rw [(hp.ag id (hR.live id o h4).1).2, (hp.ag id2 (hR.live id2 o2 h6).1).2] at he
          exact hR.inj _ _ _ _ h4 h6 he
      dom := fun id hd => by rw [hn2]; exact hp.rel.dom id hd
      glob := hp.rel.glob }
  · exact ⟨hp.fra.size, fun b hb hn => hp.fra.same b hb fun id o hg hr => hn id o (hs1 _ _ hg) hr, hp.fra.tape, hp.fra.os, hp.fra.output⟩
  · intro id o hg
    rcases hs2 id o hg with h3 | ⟨h3, h4⟩
    · rcases blk h3 with ⟨o', h6, h7⟩ | ⟨h6, h7 | ⟨id', o', h7, h8, h9⟩⟩
      · exact .inl ⟨o', hs1 _ _ h6, h7⟩
      · exact .inr ⟨by rw [← hn1]; exact h6, .inl h7⟩
      · exact .inr ⟨by rw [← hn1]; exact h6, .inr ⟨id', o', hs1 _ _ h7, h8, h9⟩⟩
    · exact .inl ⟨o, h4, fun h => h⟩

/-- a maker ran, late -/
theorem Post_make {h0 hd hd' : Hp} {w0 w w' : World} (hp : Post P σ ι0 h0 w0 ι hd w) (hN : NewAt w w') {id : Nat} {sz : Nat} {ob : AObj} (hfr : ¬ ι.d id) (h0n : h0.next ≤ id) (hid : id < hd.next)
    (hO : OR P σ (upd ι id ⟨w.heap.size, 0, sz⟩) (id + 1) ⟨w.heap.size, 0, sz⟩ w' ob) (hn : hd'.next = hd.next) (hg' : ∀ x o, hd'.get x = some o → (x = id ∧ o = ob) ∨ (hd.get x = some o ∧ x ≠ id)) :
    Post P σ ι0 h0 w0 (upd ι id ⟨w.heap.size, 0, sz⟩) hd' w' := by
  have hag : Ag 0 ι (upd ι id ⟨w.heap.size, 0, sz⟩) := Ag_upd hfr _
  have hR := hp.rel
  refine ⟨fun x hx => ⟨(hag x (hp.ag x hx).1).1, ((hag x (hp.ag x hx).1).2).trans (hp.ag x hx).2⟩, fun x hx => ?_, by rw [hn]; exact hp.next, ?_, ?_, ?_⟩
  · rcases hx with rfl | hx
    · exact .inr h0n
    · exact hp.newd x hx
  · exact {
      live := fun x o hg => by
        rcases hg' x o hg with ⟨rfl, rfl⟩ | ⟨h1, h2⟩
        · refine ⟨upd_d _ _ _, ?_, ?_⟩
          · rw [upd_same, hN.size]; exact Nat.lt_succ_self _
          · rw [upd_same]; exact OR_any rfl (fun _ h => ⟨h, rfl⟩) hO
        · obtain ⟨k1, k2, k3⟩ := hR.live x o h1
          refine ⟨(hag x k1).1, by rw [(hag x k1).2, hN.size]; omega, ?_⟩
          rw [(hag x k1).2]
          exact OR_any (hN.same _ k2) (Ag_upd hfr _) k3
      inj := fun x y o1 o2 hx hy he => by
        rcases hg' x o1 hx with ⟨rfl, rfl⟩ | ⟨h1, h2⟩ <;> rcases hg' y o2 hy with ⟨rfl, rfl⟩ | ⟨h3, h4⟩
        · rfl
        · have := (hR.live y o2 h3)
          rw [upd_same, (hag y this.1).2] at he
          have := this.2.1; simp only at he; omega
        · have := (hR.live x o1 h1)
          rw [upd_same, (hag x this.1).2] at he
          have := this.2.1; simp only at he; omega
        · rw [(hag x (hR.live x o1 h1).1).2, (hag y (hR.live y o2 h3).1).2] at he
          exact hR.inj _ _ _ _ h1 h3 he
      dom := fun x hx => by
        rw [hn]
        rcases hx with rfl | hx
        · exact hid
        · exact hR.dom x hx
      glob := fun g hg => by
        obtain ⟨k1, k2⟩ := hR.glob g hg
        rw [(hag g k1).2]; exact ⟨(hag g k1).1, k2⟩ }
  · refine ⟨by rw [hN.size]; have := hp.fra.size; omega, fun b hb hnn => ?_, hN.tape.trans hp.fra.tape, hN.os.trans hp.fra.os, hN.output.trans hp.fra.output⟩
    rw [hN.same b (Nat.lt_of_lt_of_le hb hp.fra.size)]
    exact hp.fra.same b hb hnn
  · intro x o hg
    rcases hg' x o hg with ⟨rfl, rfl⟩ | ⟨h1, h2⟩
    · exact .inr ⟨h0n, .inl (by rw [upd_same]; exact hp.fra.size)⟩
    · have e := (hag x (hR.live x o h1).1).2
      rcases hp.old x o h1 with h3 | ⟨h3, h4⟩
      · exact .inl h3
      · exact .inr ⟨h3, by rw [e]; exact h4⟩

/-- a reader looks at one object -/
theorem evR_congr {tm : Tm} {vs : Vs} {h h' : Hp} {o : RO} (hh : ∀ id, vObj (evD tm vs o.src) = some id → h'.get id = h.get id) : evR tm vs h' o = evR tm vs h o := by
  cases o <;> simp only [evR, RO.src] at hh ⊢
  case load n agg a =>
    unfold rLoad
    split
    · rename_i id off heq; rw [hh id (by rw [heq]; rfl)]
    · rfl
  case lkp sh z ok m k =>
    unfold rLkp
    split
    · rfl
    · rename_i id heq; rw [hh id (by rw [heq]; rfl)]
    · rfl
  case lenm x =>
    unfold rLenm
    split
    · rfl
    · rename_i id heq; rw [hh id (by rw [heq]; rfl)]
    · rfl
  case bstr x =>
    unfold rBstr slCells
    split
    · rfl
    · rename_i id off len cap g heq; rw [hh id (by rw [heq]; rfl)]
    · rfl
end
end Go.Ev
namespace Go.Ev
open Go

theorem hide_ok (anc : Nat) : ∀ (al : Al) (h : Hp) (acc : List (Nat × AObj)), (hide anc al h acc).1.next = h.next ∧
    (∀ id, (hide anc al h acc).1.get id = if hidden anc id al = true then none else h.get id) ∧
    (∀ id o, (id, o) ∈ (hide anc al h acc).2 ↔ (id, o) ∈ acc ∨ (hidden anc id al = true ∧ h.get id = some o)) := by
  intro al
  induction al with
  | nil => intro h acc; simp [hide, hidden]
  | cons p al ih =>
    intro h acc
    obtain ⟨ix, id0⟩ := p
    simp only [hide]
    cases hb : Nat.testBit anc ix with
    | true =>
      obtain ⟨h1, h2, h3⟩ := ih h acc
      simp only [hidden, hb, Bool.not_true, Bool.and_false, Bool.false_or]
      exact ⟨h1, h2, h3⟩
    | false =>
      simp only
      have hh : ∀ id, hidden anc id ((ix, id0) :: al) = (Nat.beq id id0 || hidden anc id al) := by
        intro id; simp [hidden, hb]
      cases hg : h.get id0 with
      | none =>
        simp only
        obtain ⟨h1, h2, h3⟩ := ih h acc
        refine ⟨h1, fun id => ?_, fun id o => ?_⟩
        · rw [h2, hh]
          by_cases e : id = id0
          · subst e; simp [hg]
          · have : Nat.beq id id0 = false := by rw [← Bool.not_eq_true, Nat.beq_eq]; exact e
            rw [this, Bool.false_or]
        · rw [h3, hh]
          by_cases e : id = id0
          · subst e; simp [hg]
          · have : Nat.beq id id0 = false := by rw [← Bool.not_eq_true, Nat.beq_eq]; exact e
            rw [this, Bool.false_or]
      | some o0 =>
        simp only
        obtain ⟨h1, h2, h3⟩ := ih (h.del id0) ((id0, o0) :: acc)
        refine ⟨h1, fun id => ?_, fun id o => ?_⟩
        · rw [h2, hh, Hp.get_del]
          by_cases e : id = id0
          · subst e; simp
          · have : Nat.beq id id0 = false := by rw [← Bool.not_eq_true, Nat.beq_eq]; exact e
            rw [this, Bool.false_or, if_neg e]
        · rw [h3, hh, Hp.get_del]
          by_cases e : id = id0
          · subst e
            have hb' : Nat.beq id id = true := by rw [Nat.beq_eq]
            rw [hb', Bool.true_or, if_pos rfl, hg, List.mem_cons]
            constructor
            · rintro ((h4 | h4) | ⟨_, h4⟩)
              · injection h4 with _ h5; exact .inr ⟨rfl, by rw [h5]⟩
              · exact .inl h4
              · cases h4
            · rintro (h4 | ⟨_, h4⟩)
              · exact .inl (.inr h4)
              · injection h4 with h4; exact .inl (.inl (by rw [h4]))
          · have : Nat.beq id id0 = false := by rw [← Bool.not_eq_true, Nat.beq_eq]; exact e
            rw [this, Bool.false_or, if_neg e]
            simp [e]

theorem unhide_next : ∀ (l : List (Nat × AObj)) (h : Hp), (unhide l h).next = h.next := by
  intro l
  induction l with
  | nil => intro h; rfl
  | cons p l ih => intro h; obtain ⟨id, o⟩ := p; simp only [unhide]; rw [ih]; rfl
theorem unhide_none {id : Nat} : ∀ {l : List (Nat × AObj)} {h : Hp}, (∀ o, (id, o) ∉ l) → (unhide l h).get id = h.get id := by
  intro l
  induction l with
  | nil => intro h _; rfl
  | cons p l ih =>
    intro h hn
    obtain ⟨id0, o0⟩ := p
    simp only [unhide]
    rw [ih (fun o ho => hn o (by simp [ho])), Hp.get_put, if_neg]
    intro e; subst e; exact hn o0 (by simp)
theorem unhide_some {id : Nat} {o : AObj} : ∀ {l : List (Nat × AObj)} {h : Hp}, (∀ o', (id, o') ∈ l → o' = o) → ((∃ o', (id, o') ∈ l) ∨ h.get id = some o) → (unhide l h).get id = some o := by
  intro l
  induction l with
  | nil => intro h _ he; rcases he with ⟨o', h1⟩ | h1; cases h1; exact h1
  | cons p l ih =>
    intro h hu he
    obtain ⟨id0, o0⟩ := p
    simp only [unhide]
    refine ih (fun o' ho' => hu o' (by simp [ho'])) ?_
    by_cases e : id = id0
    · subst e
      right
      rw [Hp.get_put, if_pos rfl, hu o0 (by simp)]
    · rcases he with ⟨o', h1⟩ | h1
      · rcases List.mem_cons.1 h1 with h2 | h2
        · injection h2 with h3 h4; exact absurd h3 e
        · exact .inl ⟨o', h2⟩
      · right; rw [Hp.get_put, if_neg e]; exact h1

mutual
theorem same_eq : ∀ (x y : AV), AV.same x y = true → x = y
  | .bo a, y, h => by cases y <;> simp_all [AV.same]
  | .it k n, y, h => by cases y <;> simp_all [AV.same, kEq_iff, iEq_iff]
  | .st l v, y, h => by cases y <;> simp_all [AV.same]
  | .pt a o, y, h => by cases y <;> simp_all [AV.same]
  | .npt, y, h => by cases y <;> simp_all [AV.same]
  | .sl a o l c e, y, h => by cases y <;> simp_all [AV.same]
  | .nsl, y, h => by cases y <;> simp_all [AV.same]
  | .mp a, y, h => by cases y <;> simp_all [AV.same]
  | .si k m, y, h => by
    cases y <;> simp only [AV.same, Bool.false_eq_true, Bool.and_eq_true, Nat.beq_eq, kEq_iff] at h
    rw [h.1, h.2]
  | .ss m, y, h => by cases y <;> simp_all [AV.same]
  | .yl m, y, h => by cases y <;> simp_all [AV.same]
  | .nmp, y, h => by cases y <;> simp_all [AV.same]
  | .fn f a b, y, h => by
    cases y <;> simp only [AV.same, Bool.false_eq_true, Bool.and_eq_true, Nat.beq_eq] at h
    rw [h.1.1, sames_eq a _ h.1.2, sames_eq b _ h.2]
  | .nfn, y, h => by cases y <;> simp_all [AV.same]
  | .ifc t v, y, h => by
    cases y <;> simp only [AV.same, Bool.false_eq_true, Bool.and_eq_true, Nat.beq_eq] at h
    rw [h.1, same_eq v _ h.2]
  | .nif, y, h => by cases y <;> simp_all [AV.same]
  | .ag a, y, h => by
    cases y <;> simp only [AV.same, Bool.false_eq_true] at h
    rw [sames_eq a _ h]
  | .tu a, y, h => by
    cases y <;> simp only [AV.same, Bool.false_eq_true] at h
    rw [sames_eq a _ h]
  | .atom a, y, h => by cases y <;> simp_all [AV.same]
  | .bot, y, h => by cases y <;> simp_all [AV.same]
theorem sames_eq : ∀ (x y : List AV), AV.sames x y = true → x = y
  | [], y, h => by cases y <;> simp_all [AV.sames]
  | a :: x, y, h => by
    cases y <;> simp only [AV.sames, Bool.false_eq_true, Bool.and_eq_true] at h
    rw [same_eq a _ h.1, sames_eq x _ h.2]
end
end Go.Ev
namespace Go.Ev
open Go

def SubV (vs' vs : Vs) : Prop := ∀ j x, lookO j vs' = some x → lookO j vs = some x
theorem SubV.refl (vs : Vs) : SubV vs vs := fun _ _ h => h
theorem SubV.cons {vs' vs : Vs} (h : SubV vs' vs) {i : Nat} (hi : lookO i vs = none) (x : AV) : SubV vs' ((i, x) :: vs) := by
  intro j y hj
  have := h j y hj
  rw [lookO_cons]
  split
  · rename_i e; subst e; rw [hi] at this; cases this
  · exact this

/-- an operation that the canonical run has passed, and that may still come -/
def Cert (fc : Fct) (tm : Tm) (vs : Vs) (h : Hp) (rd : Rd) (al : Al) (op : AOp) : Prop := ∃ vs', SubV vs' vs ∧
  ((wanted tm vs' op.gd = some false ∧ lookO op.ix vs = some ude ∧ ∀ id, (op.ix, id) ∉ al) ∨
   (wanted tm vs' op.gd = some true ∧ ∃ x, lookO op.ix vs = some x ∧
     ((∃ o, op.o = .p o ∧ evP fc tm vs' o = some x ∧ ∀ id, (op.ix, id) ∉ al) ∨
      (∃ o, op.o = .r o ∧ rOk op.anc al (evD tm vs' o.src) = true ∧ evR tm vs' h o = some x ∧ (op.ix, o, x) ∈ rd ∧ ∀ id, (op.ix, id) ∉ al) ∨
      (∃ o id ob, op.o = .l o ∧ (op.ix, id) ∈ al ∧ evL tm vs' id o = some (x, ob) ∧ h.get id = some ob))))

section
variable {P : Program} {σ : Nat → Value} {ι ι' : Io}

/-- the slots in a drawn region: S has run -/
def DlR (σ : Nat → Value) (ι : Io) (l : List Oper) (S : Nat → Prop) (tm : Tm) (vs : Vs) (tmps : Array Value) : Prop :=
  ∀ t, (∀ j o, l[j]? = some o → o.dst = some t → S j → VR σ ι 0 (lookV j vs) (tmps.getD t undef)) ∧
    ((∀ j o, l[j]? = some o → o.dst = some t → ¬ S j) → VR σ ι 0 (getT tm t) (tmps.getD t undef))
theorem DlR_mono (ha : ∀ id, ι.d id → ι'.d id ∧ ι' id = ι id) {l : List Oper} {S : Nat → Prop} {tm : Tm} {vs : Vs} {tmps : Array Value} (h : DlR σ ι l S tm vs tmps) : DlR σ ι' l S tm vs tmps :=
  fun t => ⟨fun j o h1 h2 h3 => VR_any (n := 0) ha ((h t).1 j o h1 h2 h3), fun hn => VR_any (n := 0) ha ((h t).2 hn)⟩

/-- what an operation's operands resolve to, it holds -/
theorem DlR_res {l : List Oper} {S : Nat → Prop} {tm : Tm} {vs vs' : Vs} {tmps : Array Value} (h : DlR σ ι l S tm vs tmps) (hsub : SubV vs' vs) {b : Array Nat} {i : Nat} (hi : ¬ S i)
    (hup : ∀ j, (b.getD i 0).testBit j = true → S j) (hcl : ∀ j, S j → ∀ k, (b.getD j 0).testBit k = true → S k) (t : Nat) : VR σ ι 0 (evD tm vs' (resDraw l b i t)) (tmps.getD t undef) := by
  have look : ∀ j, VR σ ι 0 (lookV j vs) (tmps.getD t undef) → VR σ ι 0 (lookV j vs') (tmps.getD t undef) := by
    intro j hj
    rw [lookV_O]
    cases hl : lookO j vs' with
    | none => simp [VR]
    | some x =>
      rw [lookV_O, hsub j x hl] at hj
      exact hj
  have mem : ∀ j o, l[j]? = some o → o.dst = some t → (o, j) ∈ l.zipIdx.filter fun (o, _) => o.dst == some t := by
    intro j o h1 h2
    rw [List.mem_filter]
    refine ⟨?_, by simp [h2]⟩
    rw [List.mem_iff_getElem?]
    exact ⟨j, by rw [List.getElem?_zipIdx, h1]; simp⟩
  unfold resDraw
  split
  · rename_i hf
    refine (h t).2 fun j o h1 h2 => ?_
    have := mem j o h1 h2
    rw [hf] at this; cases this
  · rename_i o j hf
    have hj : l[j]? = some o ∧ o.dst = some t := by
      have : (o, j) ∈ l.zipIdx.filter fun (o, _) => o.dst == some t := by rw [hf]; simp
      rw [List.mem_filter] at this
      obtain ⟨h1, h2⟩ := this
      obtain ⟨k, hk⟩ := List.mem_iff_getElem?.1 h1
      rw [List.getElem?_zipIdx] at hk
      cases hlk : l[k]? with
      | none => rw [hlk] at hk; cases hk
      | some o' =>
        rw [hlk] at hk
        simp at hk
        obtain ⟨e1, e2⟩ := hk
        subst e1; subst e2
        exact ⟨hlk, by simpa using h2⟩
    split
    · rename_i hb
      exact look j ((h t).1 j o hj.1 hj.2 (hup j hb))
    · split
      · rename_i hb
        refine (h t).2 fun j' o' h1 h2 hs => ?_
        have := mem j' o' h1 h2
        rw [hf] at this
        simp at this
        obtain ⟨e1, e2⟩ := this
        subst e2
        exact hi (hcl j' hs i hb)
      · simp [evD, VR]
  · simp [evD, VR]

theorem dstU_spec : ∀ {l : List Oper}, dstU l = true → ∀ (i j : Nat) (o p : Oper) (d : Tmp), l[i]? = some o → l[j]? = some p → o.dst = some d → p.dst = some d → i = j := by
  intro l
  induction l with
  | nil => intro _ i j o p d h; simp at h
  | cons q l ih =>
    intro h i j o p d h1 h2 h3 h4
    simp only [dstU, Bool.and_eq_true] at h
    obtain ⟨hq, hl⟩ := h
    have first : ∀ (k : Nat) (r : Oper), q.dst = some d → l[k]? = some r → r.dst = some d → False := by
      intro k r e1 e2 e3
      rw [e1] at hq
      simp only at hq
      have := List.all_eq_true.1 hq r (List.mem_of_getElem? e2)
      rw [e3] at this
      simp at this
    cases i with
    | zero =>
      simp at h1; subst h1
      cases j with
      | zero => rfl
      | succ j => simp at h2; exact (first j p h3 h2 h4).elim
    | succ i =>
      simp at h1
      cases j with
      | zero => simp at h2; subst h2; exact (first i o h4 h1 h3).elim
      | succ j => simp at h2; rw [ih hl i j o p d h1 h2 h3 h4]

theorem DlR_step {l : List Oper} {S : Nat → Prop} {tm : Tm} {vs : Vs} {a : Act} (h : DlR σ ι l S tm vs a.tmps) (hu : dstU l = true) {i : Nat} {o : Oper} (ho : l[i]? = some o) {N : Nat} (hN : N ≤ a.tmps.size) (hd : ∀ d, o.dst = some d → d < N)
    {v : Value} (hx : VR σ ι 0 (lookV i vs) v) : DlR σ ι l (fun j => j = i ∨ S j) tm vs (a.put o.dst v).tmps := by
  intro t
  cases hdd : o.dst with
  | none =>
    have e : (a.put none v).tmps = a.tmps := rfl
    rw [e]
    refine ⟨fun j p h1 h2 h3 => ?_, fun hn => (h t).2 fun j p h1 h2 h3 => hn j p h1 h2 (.inr h3)⟩
    rcases h3 with rfl | h3
    · rw [ho] at h1; injection h1 with h1; subst h1; rw [hdd] at h2; cases h2
    · exact (h t).1 j p h1 h2 h3
  | some d =>
    by_cases e : d = t
    · subst e
      have hlt := hd d hdd
      have hv : (a.put (some d) v).tmps.getD d undef = v := by
        simp only [Act.put]
        rw [Array.getD_eq_getD_getElem?, Array.getElem?_setIfInBounds_self, if_pos (Nat.lt_of_lt_of_le hlt hN)]; rfl
      rw [hv]
      refine ⟨fun j p h1 h2 h3 => ?_, fun hn => absurd (.inl rfl) (hn i o ho hdd)⟩
      have := dstU_spec hu i j o p d ho h1 hdd h2
      subst this; exact hx
    · have hv : (a.put (some d) v).tmps.getD t undef = a.tmps.getD t undef := by
        simp only [Act.put]
        rw [Array.getD_eq_getD_getElem?, Array.getD_eq_getD_getElem?, Array.getElem?_setIfInBounds_ne e]
      rw [hv]
      refine ⟨fun j p h1 h2 h3 => ?_, fun hn => (h t).2 fun j p h1 h2 h3 => hn j p h1 h2 (.inr h3)⟩
      rcases h3 with rfl | h3
      · rw [ho] at h1; injection h1 with h1; subst h1; rw [hdd] at h2; injection h2 with h2; exact absurd h2 e
      · exact (h t).1 j p h1 h2 h3
end
end Go.Ev
namespace Go.Ev
open Go

section
variable {P : Program} {σ : Nat → Value} {ι ι0 : Io}

/-- the real heap: the evaluator's, less the makers that have not run -/
structure Less (ι : Io) (S : Nat → Prop) (al : Al) (h hd : Hp) : Prop where
  next : hd.next = h.next
  ran : ∀ id, (∀ ix, (ix, id) ∈ al → S ix) → hd.get id = h.get id
  not : ∀ ix id, (ix, id) ∈ al → ¬ S ix → hd.get id = none ∧ ¬ ι.d id

theorem rOk_spec {anc : Nat} {al : Al} {x : AV} {id : Nat} (h : rOk anc al x = true) (hx : vObj x = some id) : ∀ ix, (ix, id) ∈ al → anc.testBit ix = true := by
  unfold rOk at h
  rw [hx] at h
  simp only [Bool.not_eq_true'] at h
  induction al with
  | nil => intro ix hm; cases hm
  | cons p al ih =>
    intro ix hm
    obtain ⟨ix0, id0⟩ := p
    simp only [hidden, Bool.or_eq_false_iff] at h
    rcases List.mem_cons.1 hm with e | hm
    · injection e with e1 e2; subst e1; subst e2
      have := h.1
      have hb : Nat.beq id id = true := by rw [Nat.beq_eq]
      rw [hb] at this
      simpa using this
    · exact ih h.2 ix hm

/-- a certified reader, whose ancestors have run, reads the same of the real heap -/
theorem cert_read {S : Nat → Prop} {al : Al} {h hd : Hp} (hl : Less ι S al h hd) {tm : Tm} {vs : Vs} {o : RO} {anc : Nat} (hup : ∀ j, anc.testBit j = true → S j) (hr : rOk anc al (evD tm vs o.src) = true) : evR tm vs hd o = evR tm vs h o :=
  evR_congr fun id hid => hl.ran id fun ix hm => hup ix (rOk_spec hr hid ix hm)

/-- a maker that the canonical run has passed comes to run -/
theorem make_late {S : Nat → Prop} {al : Al} {h h0 hd : Hp} {w0 w w' : World} (hl : Less ι S al h hd) (hp : Post P σ ι0 h0 w0 ι hd w) {ix id : Nat} (hm : (ix, id) ∈ al) (hs : ¬ S ix) (hal : ∀ ix1 ix2 id, (ix1, id) ∈ al → (ix2, id) ∈ al → ix1 = ix2) (hal2 : ∀ ix id1 id2, (ix, id1) ∈ al → (ix, id2) ∈ al → id1 = id2)
    (h0n : h0.next ≤ id) (hid : id < h.next) {ob : AObj} (hg : h.get id = some ob) (hN : NewAt w w') {sz : Nat} (hO : OR P σ (upd ι id ⟨w.heap.size, 0, sz⟩) (id + 1) ⟨w.heap.size, 0, sz⟩ w' ob) :
    Post P σ ι0 h0 w0 (upd ι id ⟨w.heap.size, 0, sz⟩) (hd.put id ob) w' ∧ Less (upd ι id ⟨w.heap.size, 0, sz⟩) (fun j => j = ix ∨ S j) al h (hd.put id ob) := by
  obtain ⟨g1, g2⟩ := hl.not ix id hm hs
  refine ⟨Post_make hp hN g2 h0n (by rw [hl.next]; exact hid) hO rfl fun x o hx => ?_, ⟨hl.next, fun x hx => ?_, fun ix2 x hx2 hns => ?_⟩⟩
  · rw [Hp.get_put] at hx
    split at hx
    · rename_i e; injection hx with hx; exact .inl ⟨e, hx.symm⟩
    · rename_i e; exact .inr ⟨hx, e⟩
  · rw [Hp.get_put]
    split
    · rename_i e; rw [e, hg]
    · rename_i e
      refine hl.ran x fun ix2 hx2 => ?_
      rcases hx ix2 hx2 with rfl | h3
      · exact absurd (hal2 ix2 x id hx2 hm) e
      · exact h3
  · have hne : x ≠ id := fun e => hns (.inl (hal ix2 ix id (e ▸ hx2) hm))
    obtain ⟨g3, g4⟩ := hl.not ix2 x hx2 fun h3 => hns (.inr h3)
    rw [Hp.get_put, if_neg hne]
    exact ⟨g3, fun hd => by rcases hd with e | hd; exact hne e; exact g4 hd⟩
end
end Go.Ev
namespace Go.Ev
open Go

section
variable {P : Program} {σ : Nat → Value} {ι ι' ι0 : Io}

/-- without the makers that have not run -/
theorem cut_ex (S : Nat → Prop) (al : Al) (h : Hp) : ∃ h' : Hp, h'.next = h.next ∧ (∀ id, (∀ ix, (ix, id) ∈ al → S ix) → h'.get id = h.get id) ∧ (∀ ix id, (ix, id) ∈ al → ¬ S ix → h'.get id = none) := by
  induction al with
  | nil => exact ⟨h, rfl, fun _ _ => rfl, fun _ _ hm => by cases hm⟩
  | cons p al ih =>
    obtain ⟨ix0, id0⟩ := p
    obtain ⟨h', h1, h2, h3⟩ := ih
    by_cases hs : S ix0
    · refine ⟨h', h1, fun id hh => h2 id fun ix hm => hh ix (by simp [hm]), fun ix id hm hn => ?_⟩
      rcases List.mem_cons.1 hm with e | hm
      · injection e with e1 e2; subst e1; exact absurd hs hn
      · exact h3 ix id hm hn
    · refine ⟨h'.del id0, h1, fun id hh => ?_, fun ix id hm hn => ?_⟩
      · rw [Hp.get_del, if_neg (fun e => hs (hh ix0 (by simp [e])))]
        exact h2 id fun ix hm => hh ix (by simp [hm])
      · rw [Hp.get_del]
        split
        · rfl
        · rcases List.mem_cons.1 hm with e | hm
          · injection e with e1 e2; subst e2; exact absurd rfl (by assumption)
          · exact h3 ix id hm hn

theorem hidden_iff {anc id : Nat} {al : Al} : hidden anc id al = true ↔ ∃ ix, (ix, id) ∈ al ∧ anc.testBit ix = false := by
  induction al with
  | nil => simp [hidden]
  | cons p al ih =>
    obtain ⟨ix0, id0⟩ := p
    simp only [hidden, Bool.or_eq_true, Bool.and_eq_true, Bool.not_eq_true', Nat.beq_eq, ih, List.mem_cons, Prod.mk.injEq]
    constructor
    · rintro (⟨rfl, h⟩ | ⟨ix, h1, h2⟩)
      · exact ⟨ix0, .inl ⟨rfl, rfl⟩, h⟩
      · exact ⟨ix, .inr h1, h2⟩
    · rintro ⟨ix, ⟨rfl, rfl⟩ | h1, h2⟩
      · exact .inl ⟨rfl, h2⟩
      · exact .inr ⟨ix, h1, h2⟩
end
end Go.Ev
namespace Go.Ev
open Go

section
variable {P : Program} {σ : Nat → Value} {ι ι' ι0 : Io}

/-- a writer's move: it ran on the objects of its ancestors and of those ahead of the region -/
theorem writer_less {S : Nat → Prop} {al : Al} {h hd h2 : Hp} {w w' : World} {anc : Nat} (hl : Less ι S al h hd) (hR : Rel P σ ι hd w) (hup : ∀ j, anc.testBit j = true → S j) (hal : ∀ ix id, (ix, id) ∈ al → id < h.next)
    (hp : Post P σ ι (hide anc al h []).1 w ι' h2 w') : ∃ hd', Post P σ ι hd w ι' hd' w' ∧ Less ι' S al (unhide (hide anc al h []).2 h2) hd' := by
  obtain ⟨n1, g1, m1⟩ := hide_ok anc al h []
  obtain ⟨hd', c1, c2, c3⟩ := cut_ex S al (unhide (hide anc al h []).2 h2)
  have pend : ∀ ix id, (ix, id) ∈ al → ¬ S ix → hidden anc id al = true := fun ix id hm hn => hidden_iff.2 ⟨ix, hm, by
    cases hb : anc.testBit ix with
    | true => exact absurd (hup ix hb) hn
    | false => rfl⟩
  have sub : ∀ id o, (hide anc al h []).1.get id = some o → hd.get id = some o := by
    intro id o hg
    rw [g1] at hg
    split at hg
    · cases hg
    · rename_i hh
      rw [hl.ran id fun ix hm => Classical.byContradiction fun hn => hh (pend ix id hm hn)]
      exact hg
  refine ⟨hd', Post_wide hR (by rw [n1, hl.next]) sub hp (by rw [c1, unhide_next]) fun id o hg => ?_, ⟨c1, c2, fun ix id hm hn => ⟨c3 ix id hm hn, fun hdd => ?_⟩⟩⟩
  · -- what is there behind
    have hran : ∀ ix, (ix, id) ∈ al → S ix := fun ix hm => Classical.byContradiction fun hn => by
      rw [c3 ix id hm hn] at hg; cases hg
    rw [c2 id hran] at hg
    by_cases hh : hidden anc id al = true
    · right
      have hnone : (hide anc al h []).1.get id = none := by rw [g1, if_pos hh]
      refine ⟨hnone, ?_⟩
      rw [hl.ran id hran]
      cases hho : h.get id with
      | none =>
        rw [unhide_none (fun o' ho' => by
          rcases (m1 id o').1 ho' with h4 | h4
          · cases h4
          · rw [hho] at h4; cases h4.2)] at hg
        obtain ⟨ix, hm, _⟩ := hidden_iff.1 hh
        rcases hp.old id o hg with ⟨o', h5, _⟩ | ⟨h5, _⟩
        · rw [hnone] at h5; cases h5
        · have := hal ix id hm; omega
      | some o1 =>
        rw [unhide_some (o := o1) (fun o' ho' => by
          rcases (m1 id o').1 ho' with h4 | h4
          · cases h4
          · rw [hho] at h4; injection h4.2 with h5; exact h5.symm) (.inl ⟨o1, (m1 id o1).2 (.inr ⟨hh, hho⟩)⟩)] at hg
        exact hg
    · left
      rw [unhide_none (fun o' ho' => by
        rcases (m1 id o').1 ho' with h4 | h4
        · cases h4
        · exact hh h4.1)] at hg
      exact hg
  · rcases hp.newd id hdd with h4 | h4
    · exact (hl.not ix id hm hn).2 h4
    · have := hal ix id hm; omega
end
end Go.Ev
namespace Go.Ev
open Go

/-! the canonical order -/
def Topo : (Nat → Prop) → List AOp → Prop
  | _, [] => True
  | S, x :: l => (∀ j, x.anc.testBit j = true → S j) ∧ Topo (fun j => j = x.ix ∨ S j) l
theorem Topo_mono : ∀ {l : List AOp} {S S' : Nat → Prop}, (∀ j, S j → S' j) → Topo S l → Topo S' l := by
  intro l
  induction l with
  | nil => intros; trivial
  | cons x l ih =>
    intro S S' hs h
    exact ⟨fun j hj => hs j (h.1 j hj), ih (fun j hj => hj.imp id (hs j)) h.2⟩
theorem Topo_remove : ∀ {pre : List AOp} {S : Nat → Prop} {y : AOp} {post : List AOp}, Topo S (pre ++ y :: post) → Topo (fun j => j = y.ix ∨ S j) (pre ++ post) := by
  intro pre
  induction pre with
  | nil => intro S y post h; exact h.2
  | cons x pre ih =>
    intro S y post h
    refine ⟨fun j hj => .inr (h.1 j hj), Topo_mono (fun j hj => ?_) (ih h.2)⟩
    rcases hj with h1 | h1 | h1
    · exact .inr (.inl h1)
    · exact .inl h1
    · exact .inr (.inr h1)

theorem filter_perm : ∀ {l : List AOp} {o : AOp}, (l.map (·.ix)).Nodup → o ∈ l → (o :: l.filter fun x => x.ix != o.ix).Perm l := by
  intro l
  induction l with
  | nil => intro o _ h; cases h
  | cons x l ih =>
    intro o hn ho
    rw [List.map_cons, List.nodup_cons] at hn
    rcases List.mem_cons.1 ho with rfl | ho
    · have : (o :: l).filter (fun x => x.ix != o.ix) = l := by
        rw [List.filter_cons_of_neg (by simp)]
        rw [List.filter_eq_self]
        intro y hy
        simp only [bne_iff_ne, ne_eq]
        intro e
        exact hn.1 (List.mem_map.2 ⟨y, hy, e⟩)
      rw [this]
    · have hne : x.ix ≠ o.ix := fun e => hn.1 (List.mem_map.2 ⟨o, ho, e.symm⟩)
      rw [List.filter_cons_of_pos (by simpa using hne)]
      exact (List.Perm.swap x o _).trans (List.Perm.cons x (ih hn.2 ho))
theorem land_sub {a b : Nat} (h : (a &&& b) = a) : ∀ j, a.testBit j = true → b.testBit j = true := by
  intro j hj
  have := Nat.testBit_and a b j
  rw [h, hj] at this
  simpa using this.symm
theorem asap_spec : ∀ (f : Nat) (left : List AOp) (done : Nat) (acc l : List AOp), asap f left done acc = some l → (left.map (·.ix)).Nodup →
    ∃ l', l = acc.reverse ++ l' ∧ l'.Perm left ∧ Topo (fun j => done.testBit j = true) l' := by
  intro f
  induction f with
  | zero => intro left done acc l h; simp [asap] at h
  | succ f ih =>
    intro left done acc l h hn
    have go : ∀ o : AOp, o ∈ left → (o.anc &&& done) = o.anc → asap f (left.filter fun x => x.ix != o.ix) (done ||| 2 ^ o.ix) (o :: acc) = some l →
        ∃ l', l = acc.reverse ++ l' ∧ l'.Perm left ∧ Topo (fun j => done.testBit j = true) l' := by
      intro o ho ha he
      have hp := filter_perm hn ho
      have hn2 : ((left.filter fun x => x.ix != o.ix).map (·.ix)).Nodup := by
        have h3 : ((o :: left.filter fun x => x.ix != o.ix).map (·.ix)).Nodup := (hp.map _).nodup_iff.2 hn
        rw [List.map_cons, List.nodup_cons] at h3
        exact h3.2
      obtain ⟨l', e1, e2, e3⟩ := ih _ _ _ _ he hn2
      refine ⟨o :: l', by rw [e1]; simp, (List.Perm.cons o e2).trans hp, land_sub ha, Topo_mono (fun j hj => ?_) e3⟩
      rw [Nat.testBit_or, Nat.testBit_two_pow, Bool.or_eq_true, decide_eq_true_eq] at hj
      exact hj.elim .inr fun e => .inl e.symm
    unfold asap at h
    split at h
    · injection h with h; subst h
      exact ⟨[], by simp, List.Perm.refl _, trivial⟩
    · split at h
      · rename_i o ho
        have h1 := List.find?_some ho
        simp only [Bool.and_eq_true, beq_iff_eq] at h1
        exact go o (List.mem_of_find?_eq_some ho) h1.2 h
      · split at h
        · rename_i o ho
          have h1 := List.find?_some ho
          simp only [beq_iff_eq] at h1
          exact go o (List.mem_of_find?_eq_some ho) h1 h
        · cases h

/-! what the evaluator's success says of the masks -/
theorem land_lor {a b c : Nat} (h : Nat.land a (Nat.lor b c) = Nat.lor b c) : Nat.land a b = b ∧ Nat.land a c = c := by
  have h' : (a &&& (b ||| c)) = (b ||| c) := h
  have key : ∀ j, (b ||| c).testBit j = true → a.testBit j = true := by
    intro j hj
    have := Nat.testBit_and a (b ||| c) j
    rw [h', hj] at this
    simpa using this.symm
  constructor
  · show (a &&& b) = b
    apply Nat.eq_of_testBit_eq
    intro j
    rw [Nat.testBit_and]
    cases hb : b.testBit j with
    | false => simp
    | true => rw [key j (by rw [Nat.testBit_or, hb]; rfl)]; rfl
  · show (a &&& c) = c
    apply Nat.eq_of_testBit_eq
    intro j
    rw [Nat.testBit_and]
    cases hc : c.testBit j with
    | false => simp
    | true => rw [key j (by rw [Nat.testBit_or, hc]; simp)]; rfl
theorem evDraw_wm {call : CallF} {fc : Fct} {tm : Tm} {fl : List (Nat × Nat)} : ∀ (os : List AOp) (vs : Vs) (ds : Ds) (h : Hp) (rs : RS) (rd : Rd) (al : Al) (wm : Nat), evDraw call fc tm fl os vs ds h rs rd al wm ≠ .no → ∀ y ∈ os, Nat.land y.anc wm = wm := by
  intro os
  induction os with
  | nil => intro vs ds h rs rd al wm _ y hy; cases hy
  | cons x os ih =>
    intro vs ds h rs rd al wm hr y hy
    obtain ⟨ix, gd, o, anc⟩ := x
    simp only [evDraw] at hr
    split at hr
    · exact absurd rfl hr
    · rename_i hm
      rw [Nat.beq_eq] at hm
      rcases List.mem_cons.1 hy with rfl | hy2
      · exact hm
      · split at hr
        · split at hr
          · split at hr
            · exact ih _ _ _ _ _ _ _ hr y hy2
            · exact absurd rfl hr
          · split at hr
            · split at hr
              · exact ih _ _ _ _ _ _ _ hr y hy2
              · exact absurd rfl hr
            · exact absurd rfl hr
          · split at hr
            · exact ih _ _ _ _ _ _ _ hr y hy2
            · exact absurd rfl hr
          · split at hr
            · split at hr
              · exact (land_lor (ih _ _ _ _ _ _ _ hr y hy2)).1
              · exact absurd rfl hr
            · split at hr
              · exact (land_lor (ih _ _ _ _ _ _ _ hr y hy2)).1
              · exact absurd rfl hr
            · exact absurd rfl hr
        · exact ih _ _ _ _ _ _ _ hr y hy2
        · exact absurd rfl hr
end Go.Ev
namespace Go.Ev
open Go

section
variable {P : Program} {σ : Nat → Value} {κ : Kd} {C : List Frame} {ι0 ι ι' : Io} {h0 : Hp} {w0 : World} {N loc : Nat}

/-- an operation, compiled, by its number -/
def dop (P : Program) (ops : Array Oper) (i : Nat) (o : Oper) : AOp := cOper P ops.toList (resDraw ops.toList (Region.before ops) i) o i ((Region.before ops).getD i 0)

structure AlOk (al : Al) (h0 h : Hp) : Prop where
  one : ∀ ix1 ix2 id, (ix1, id) ∈ al → (ix2, id) ∈ al → ix1 = ix2
  fn : ∀ ix id1 id2, (ix, id1) ∈ al → (ix, id2) ∈ al → id1 = id2
  low : ∀ ix id, (ix, id) ∈ al → h0.next ≤ id ∧ id < h.next

/-- the state of a drawn region: S has run; pend: passed by the evaluator, has not run; os: not passed -/
structure DrI (P : Program) (σ : Nat → Value) (κ : Kd) (C : List Frame) (ι0 : Io) (h0 : Hp) (w0 : World) (N loc : Nat) (ops : Array Oper) (fc : Fct) (S : Nat → Prop) (pend os : List AOp) (tm : Tm) (vs : Vs) (ds : Ds) (h : Hp) (rs : RS) (rd : Rd) (al : Al)
    (a : Act) (cs : List Frame) (w : World) (ι : Io) (hd : Hp) : Prop where
  closed : ∀ i, S i → ∀ j, ((Region.before ops).getD i 0).testBit j = true → S j
  is : ∀ x ∈ pend ++ os, ∃ o, ops[x.ix]? = some o ∧ x = dop P ops x.ix o
  all : ∀ i, i < ops.size → S i ∨ ∃ x ∈ pend ++ os, x.ix = i
  nodup : ((pend ++ os).map (·.ix)).Nodup
  fresh : ∀ x ∈ pend ++ os, ¬ S x.ix
  topo : Topo S (pend ++ os)
  cert : ∀ x ∈ pend, Cert fc tm vs h rd al x
  alo : AlOk al h0 h
  alS : ∀ ix id, (ix, id) ∈ al → ∀ x ∈ os, x.ix ≠ ix
  ali : ∀ ix id, (ix, id) ∈ al → ix < ops.size
  vsn : ∀ x ∈ os, lookO x.ix vs = none
  vss : ∀ j, j < ops.size → (∀ x ∈ os, x.ix ≠ j) → (lookO j vs).isSome = true
  less : Less ι S al h hd
  dl : DlR σ ι ops.toList S tm vs a.tmps
  st : StR P σ κ C ι0 h0 w0 N loc tm ds hd rs a cs w ι

theorem evD_sub {tm : Tm} {vs' vs : Vs} (hs : SubV vs' vs) {d : AD} (hn : evD tm vs' d ≠ .bot) : evD tm vs d = evD tm vs' d := by
  cases d with
  | t n => rfl
  | c v => rfl
  | r j =>
    simp only [evD] at hn ⊢
    rw [lookV_O] at hn
    cases hl : lookO j vs' with
    | none => rw [hl] at hn; exact absurd rfl hn
    | some x => rw [lookV_O, lookV_O, hl, hs j x hl]

/-- a reader's object is there -/
theorem evR_obj {tm : Tm} {vs : Vs} {h : Hp} {o : RO} {x : AV} (hx : evR tm vs h o = some x) {id : Nat} (hid : vObj (evD tm vs o.src) = some id) : h.get id ≠ none := by
  intro hn
  cases o <;> simp only [evR, RO.src] at hx hid
  case load n agg a =>
    generalize evD tm vs a = A at hx hid
    cases A <;> simp only [vObj, reduceCtorEq] at hid <;> simp only [rLoad, reduceCtorEq] at hx
    injection hid with hid; subst hid
    rw [hn] at hx; cases hx
  case lkp sh z ok m k =>
    generalize evD tm vs m = A at hx hid
    cases A <;> simp only [vObj, reduceCtorEq] at hid <;> simp only [rLkp, reduceCtorEq] at hx
    injection hid with hid; subst hid
    rw [hn] at hx
    split at hx <;> simp_all
  case lenm m =>
    generalize evD tm vs m = A at hx hid
    cases A <;> simp only [vObj, reduceCtorEq] at hid <;> simp only [rLenm, reduceCtorEq] at hx
    injection hid with hid; subst hid
    rw [hn] at hx; cases hx
  case bstr m =>
    generalize evD tm vs m = A at hx hid
    cases A <;> simp only [vObj, reduceCtorEq] at hid <;> simp only [rBstr, slCells, reduceCtorEq] at hx
    injection hid with hid; subst hid
    rw [hn] at hx; cases hx
/-- a reader's operand is no hole -/
theorem evR_src {tm : Tm} {vs : Vs} {h : Hp} {o : RO} {x : AV} (hx : evR tm vs h o = some x) : evD tm vs o.src ≠ .bot := by
  intro hb
  cases o <;> simp only [evR, RO.src] at hx hb <;> rw [hb] at hx <;> cases hx

theorem recheck_spec {tm : Tm} {vs : Vs} {h : Hp} {anc : Nat} : ∀ {rd : Rd}, recheck tm vs h anc rd = true → ∀ ix o v, (ix, o, v) ∈ rd → anc.testBit ix = false → evR tm vs h o = some v := by
  intro rd
  induction rd with
  | nil => intro _ ix o v hm; cases hm
  | cons p rd ih =>
    intro h ix o v hm hb
    obtain ⟨ix0, o0, v0⟩ := p
    simp only [recheck] at h
    split at h
    · rename_i hb0
      rcases List.mem_cons.1 hm with e | hm
      · injection e with e1 e2; subst e1; rw [hb] at hb0; cases hb0
      · exact ih h ix o v hm hb
    · split at h
      · rename_i y hy
        rw [Bool.and_eq_true] at h
        rcases List.mem_cons.1 hm with e | hm
        · injection e with e1 e2; injection e2 with e3 e4; subst e1; subst e3; subst e4
          rw [hy, same_eq _ _ h.1]
        · exact ih h.2 ix o v hm hb
      · cases h

/-- the certificates behind a writer -/
theorem cert_writer {fc : Fct} {S : Nat → Prop} {al : Al} {h h1 h2 : Hp} {hid : List (Nat × AObj)} {w w' : World} {anc i : Nat} {x : AV} {tm : Tm} {vs : Vs} {rd : Rd} {op : AOp} (hc : Cert fc tm vs h rd al op) (hup : ∀ j, anc.testBit j = true → S j) (hns : ¬ S op.ix)
    (hal : ∀ ix id, (ix, id) ∈ al → id < h.next) (hh : hide anc al h [] = (h1, hid)) (hp : Post P σ ι h1 w ι' h2 w') (hre : recheck tm vs h2 anc rd = true) (hi : lookO i vs = none) : Cert fc tm ((i, x) :: vs) (unhide hid h2) rd al op := by
  obtain ⟨n1, g1, m1⟩ := hide_ok anc al h []
  rw [hh] at n1 g1 m1
  simp only at n1 g1 m1
  have hb : anc.testBit op.ix = false := by
    cases hb : anc.testBit op.ix with
    | true => exact absurd (hup _ hb) hns
    | false => rfl
  have hne : op.ix ≠ i → lookO op.ix ((i, x) :: vs) = lookO op.ix vs := fun e => by rw [lookO_cons, if_neg (fun e' => e e'.symm)]
  have keep : ∀ y, lookO op.ix vs = some y → lookO op.ix ((i, x) :: vs) = some y := fun y hy => by
    rw [hne (fun e => by rw [e, hi] at hy; cases hy), hy]
  obtain ⟨vs', hs, hc⟩ := hc
  rcases hc with ⟨k1, k2, k3⟩ | ⟨k1, y, k2, k3⟩
  · exact ⟨vs', hs.cons hi x, .inl ⟨k1, keep _ k2, k3⟩⟩
  · rcases k3 with ⟨o, e1, e2, e3⟩ | ⟨o, e1, e2, e3, e4, e5⟩ | ⟨o, id, ob, e1, e2, e3, e4⟩
    · exact ⟨vs', hs.cons hi x, .inr ⟨k1, y, keep _ k2, .inl ⟨o, e1, e2, e3⟩⟩⟩
    · have hr := recheck_spec hre _ _ _ e4 hb
      -- the same, by vs
      have hsrc : evD tm vs o.src = evD tm vs' o.src := evD_sub hs (evR_src e3)
      refine ⟨vs, (SubV.refl vs).cons hi x, .inr ⟨?_, y, keep _ k2, .inr (.inl ⟨o, e1, by rw [hsrc]; exact e2, ?_, e4, e5⟩)⟩⟩
      · generalize op.gd = gd at k1
        cases gd with
        | none => rfl
        | some p =>
          obtain ⟨d, b⟩ := p
          simp only [wanted] at k1 ⊢
          have hnb : evD tm vs' d ≠ .bot := fun e => by rw [e] at k1; cases k1
          rw [evD_sub hs hnb]
          exact k1
      · rw [← hr]
        refine evR_congr fun id hid' => ?_
        refine unhide_none fun o' ho' => ?_
        rcases (m1 id o').1 ho' with h4 | ⟨h4, h5⟩
        · cases h4
        · have hnone : h1.get id = none := by rw [g1, if_pos h4]
          refine evR_obj hr hid' ?_
          cases hg : h2.get id with
          | none => rfl
          | some o2 =>
            rcases hp.old id o2 hg with ⟨o3, h6, _⟩ | ⟨h6, _⟩
            · rw [hnone] at h6; cases h6
            · obtain ⟨ix, hm, _⟩ := hidden_iff.1 h4
              have := hal ix id hm
              omega
    · refine ⟨vs', hs.cons hi x, .inr ⟨k1, y, keep _ k2, .inr (.inr ⟨o, id, ob, e1, e2, e3, ?_⟩)⟩⟩
      have hhid : hidden anc id al = true := hidden_iff.2 ⟨op.ix, e2, hb⟩
      refine unhide_some (fun o' ho' => ?_) (.inl ⟨ob, (m1 id ob).2 (.inr ⟨hhid, e4⟩)⟩)
      rcases (m1 id o').1 ho' with h4 | ⟨_, h5⟩
      · cases h4
      · rw [e4] at h5; injection h5 with h5; exact h5.symm

/-- the certificates behind an operation that is passed -/
theorem cert_pass {fc : Fct} {al al' : Al} {h h' : Hp} {i : Nat} {x : AV} {tm : Tm} {vs : Vs} {rd rd' : Rd} {op : AOp} (hc : Cert fc tm vs h rd al op) (hi : lookO i vs = none)
    (hrd : ∀ p ∈ rd, p ∈ rd') (hal : ∀ p ∈ al, p ∈ al') (hal2 : ∀ p ∈ al', p ∈ al ∨ (p.1 = i ∧ h.get p.2 = none)) (hg : ∀ id, h.get id ≠ none → h'.get id = h.get id) : Cert fc tm ((i, x) :: vs) h' rd' al' op := by
  have hix : ∀ y, lookO op.ix vs = some y → op.ix ≠ i := fun y hy e => by rw [e, hi] at hy; cases hy
  have keep : ∀ y, lookO op.ix vs = some y → lookO op.ix ((i, x) :: vs) = some y := fun y hy => by
    rw [lookO_cons, if_neg (fun e => hix y hy e.symm), hy]
  have nal : ∀ y, lookO op.ix vs = some y → (∀ id, (op.ix, id) ∉ al) → ∀ id, (op.ix, id) ∉ al' := fun y hy hn id hm => by
    rcases hal2 _ hm with h1 | ⟨h1, _⟩
    · exact hn id h1
    · exact hix y hy h1
  obtain ⟨vs', hs, hc⟩ := hc
  refine ⟨vs', hs.cons hi x, ?_⟩
  rcases hc with ⟨k1, k2, k3⟩ | ⟨k1, y, k2, k3⟩
  · exact .inl ⟨k1, keep _ k2, nal _ k2 k3⟩
  · rcases k3 with ⟨o, e1, e2, e3⟩ | ⟨o, e1, e2, e3, e4, e5⟩ | ⟨o, id, ob, e1, e2, e3, e4⟩
    · exact .inr ⟨k1, y, keep _ k2, .inl ⟨o, e1, e2, nal _ k2 e3⟩⟩
    · refine .inr ⟨k1, y, keep _ k2, .inr (.inl ⟨o, e1, ?_, ?_, hrd _ e4, nal _ k2 e5⟩)⟩
      · unfold rOk at e2 ⊢
        cases hv : vObj (evD tm vs' o.src) with
        | none => rfl
        | some id =>
          rw [hv] at e2
          simp only [Bool.not_eq_true'] at e2 ⊢
          cases hh : hidden op.anc id al' with
          | false => rfl
          | true =>
            obtain ⟨ix, hm, hb⟩ := hidden_iff.1 hh
            rcases hal2 _ hm with h1 | ⟨_, h2⟩
            · rw [hidden_iff.2 ⟨ix, h1, hb⟩] at e2; cases e2
            · exact absurd h2 (evR_obj e3 hv)
      · rw [← e3]
        exact evR_congr fun id hid => hg id (evR_obj e3 hid)
    · exact .inr ⟨k1, y, keep _ k2, .inr (.inr ⟨o, id, ob, e1, hal _ e2, e3, by rw [hg id (by rw [e4]; simp), e4]⟩)⟩
end
end Go.Ev
namespace Go.Ev
open Go

section
variable {P : Program} {σ : Nat → Value} {κ : Kd} {C : List Frame} {ι0 ι ι' : Io} {h0 : Hp} {w0 : World} {N loc : Nat} {ops : Array Oper} {fc : Fct} {S : Nat → Prop} {pend os : List AOp} {tm : Tm} {vs : Vs} {ds : Ds} {h : Hp} {rs : RS} {rd : Rd} {al : Al} {a : Act} {cs : List Frame} {w : World} {hd : Hp}

theorem Less_more {i : Nat} (hi : ∀ id, (i, id) ∉ al) (hl : Less ι S al h hd) : Less ι (fun j => j = i ∨ S j) al h hd where
  next := hl.next
  ran := fun id hx => hl.ran id fun ix hm => (hx ix hm).resolve_left fun e => hi id (e ▸ hm)
  not := fun ix id hm hn => hl.not ix id hm fun hs => hn (.inr hs)

theorem anc_eq {x : AOp} {o : Oper} (h : x = dop P ops x.ix o) : x.anc = (Region.before ops).getD x.ix 0 := by
  have : x.anc = (dop P ops x.ix o).anc := congrArg AOp.anc h
  rw [this]; rfl

/-- an operation that was passed has run -/
theorem DrI.ran {pre post : List AOp} {x : AOp} (hI : DrI P σ κ C ι0 h0 w0 N loc ops fc S (pre ++ x :: post) os tm vs ds h rs rd al a cs w ι hd) (hup : ∀ j, x.anc.testBit j = true → S j) {a' : Act} {w' : World} {hd' : Hp}
    (less' : Less ι' (fun j => j = x.ix ∨ S j) al h hd') (dl' : DlR σ ι' ops.toList (fun j => j = x.ix ∨ S j) tm vs a'.tmps) (st' : StR P σ κ C ι0 h0 w0 N loc tm ds hd' rs a' cs w' ι') :
    DrI P σ κ C ι0 h0 w0 N loc ops fc (fun j => j = x.ix ∨ S j) (pre ++ post) os tm vs ds h rs rd al a' cs w' ι' hd' := by
  have sub : ∀ y, y ∈ pre ++ post ++ os → y ∈ pre ++ x :: post ++ os := by
    intro y hy
    simp only [List.append_assoc, List.mem_append, List.cons_append, List.mem_cons] at hy ⊢
    rcases hy with h1 | h1 | h1
    · exact .inl h1
    · exact .inr (.inr (.inl h1))
    · exact .inr (.inr (.inr h1))
  have hx : x ∈ pre ++ x :: post ++ os := by simp
  have hn := hI.nodup
  have hperm : ((pre ++ x :: post ++ os).map (·.ix)).Perm (x.ix :: (pre ++ post ++ os).map (·.ix)) := by
    simp only [List.append_assoc, List.cons_append, List.map_append, List.map_cons]
    exact List.perm_middle
  have hn2 := hperm.nodup_iff.1 hn
  rw [List.nodup_cons] at hn2
  refine { closed := ?_, is := fun y hy => hI.is y (sub y hy), all := fun i hi => ?_, nodup := hn2.2, fresh := fun y hy => ?_, topo := ?_, cert := fun y hy => hI.cert y ?_, alo := hI.alo, alS := hI.alS, ali := hI.ali, vsn := hI.vsn, vss := hI.vss, less := less', dl := dl', st := st' }
  · intro i hi j hj
    rcases hi with rfl | hi
    · obtain ⟨o, _, e⟩ := hI.is x hx
      rw [← anc_eq e] at hj
      exact .inr (hup j hj)
    · exact .inr (hI.closed i hi j hj)
  · rcases hI.all i hi with h1 | ⟨y, h1, h2⟩
    · exact .inl (.inr h1)
    · simp only [List.append_assoc, List.mem_append, List.cons_append, List.mem_cons] at h1
      rcases h1 with h1 | rfl | h1 | h1
      · exact .inr ⟨y, by simp [h1], h2⟩
      · exact .inl (.inl h2.symm)
      · exact .inr ⟨y, by simp [h1], h2⟩
      · exact .inr ⟨y, by simp [h1], h2⟩
  · rintro (e | hs)
    · exact hn2.1 (e ▸ List.mem_map.2 ⟨y, hy, rfl⟩)
    · exact hI.fresh y (sub y hy) hs
  · have := hI.topo
    rw [List.append_assoc, List.cons_append] at this
    rw [List.append_assoc]
    exact Topo_remove this
  · simp only [List.mem_append, List.mem_cons] at hy ⊢
    exact hy.elim .inl fun h1 => .inr (.inr h1)

/-- an operation is passed -/
theorem DrI.pass {x : AOp} (hI : DrI P σ κ C ι0 h0 w0 N loc ops fc S pend (x :: os) tm vs ds h rs rd al a cs w ι hd) {y : AV} {h' : Hp} {rd' : Rd} {al' : Al} {hd' : Hp}
    (hrd : ∀ p ∈ rd, p ∈ rd') (hal : ∀ p ∈ al, p ∈ al') (hal2 : ∀ p ∈ al', p ∈ al ∨ (p.1 = x.ix ∧ h.get p.2 = none)) (hg : ∀ id, h.get id ≠ none → h'.get id = h.get id)
    (hc : Cert fc tm ((x.ix, y) :: vs) h' rd' al' x) (alo' : AlOk al' h0 h') (less' : Less ι S al' h' hd') (st' : StR P σ κ C ι0 h0 w0 N loc tm ds hd' rs a cs w ι) :
    DrI P σ κ C ι0 h0 w0 N loc ops fc S (pend ++ [x]) os tm ((x.ix, y) :: vs) ds h' rs rd' al' a cs w ι hd' := by
  have e : pend ++ [x] ++ os = pend ++ x :: os := by simp
  have hx : x ∈ pend ++ x :: os := by simp
  have hi := hI.vsn x (by simp)
  have hne : ∀ z ∈ os, z.ix ≠ x.ix := by
    intro z hz e2
    have hn := hI.nodup
    rw [List.map_append, List.map_cons, List.nodup_append] at hn
    have := hn.2.1
    rw [List.nodup_cons] at this
    exact this.1 (e2 ▸ List.mem_map.2 ⟨z, hz, rfl⟩)
  refine { closed := hI.closed, is := by rw [e]; exact hI.is, all := by rw [e]; exact hI.all, nodup := by rw [e]; exact hI.nodup, fresh := by rw [e]; exact hI.fresh, topo := by rw [e]; exact hI.topo, cert := fun z hz => ?_, alo := alo', alS := fun ix id hm z hz => ?_, ali := fun ix id hm => ?_, vsn := fun z hz => ?_, vss := fun j hj hh => ?_, less := less', dl := ?_, st := st' }
  · rw [List.mem_append] at hz
    rcases hz with hz | hz
    · exact cert_pass (hI.cert z hz) hi hrd hal hal2 hg
    · rw [List.mem_singleton] at hz; subst hz; exact hc
  · rcases hal2 _ hm with h1 | ⟨h1, _⟩
    · exact hI.alS ix id h1 z (by simp [hz])
    · simp only at h1; rw [h1]; exact hne z hz
  · rcases hal2 _ hm with h1 | ⟨h1, _⟩
    · exact hI.ali ix id h1
    · simp only at h1
      obtain ⟨o, ho, _⟩ := hI.is x hx
      rw [h1]; exact (Array.getElem?_eq_some_iff.1 ho).1
  · rw [lookO_cons, if_neg (fun e => hne z hz e.symm)]
    exact hI.vsn z (by simp [hz])
  · rw [lookO_cons]
    split
    · rfl
    · rename_i hne2
      exact hI.vss j hj fun z hz => by
        rcases List.mem_cons.1 hz with rfl | hz
        · exact hne2
        · exact hh z hz
  · intro t
    refine ⟨fun j o h1 h2 h3 => ?_, (hI.dl t).2⟩
    have : x.ix ≠ j := fun e => hI.fresh x hx (e ▸ h3)
    rw [lookV_cons, if_neg this]
    exact (hI.dl t).1 j o h1 h2 h3

/-- a writer has run -/
theorem DrI.wrote {x : AOp} (hR0 : Rel P σ ι0 h0 w0) (hu : dstU ops.toList = true) (hI : DrI P σ κ C ι0 h0 w0 N loc ops fc S pend (x :: os) tm vs ds h rs rd al a cs w ι hd) (hup : ∀ j, x.anc.testBit j = true → S j) {o : Oper} (ho : ops[x.ix]? = some o) (hdN : ∀ d, o.dst = some d → d < N)
    {h1 h2 : Hp} {hid : List (Nat × AObj)} {w' : World} (hh : hide x.anc al h [] = (h1, hid)) (hp : Post P σ ι h1 w ι' h2 w') (hre : recheck tm vs h2 x.anc rd = true) {y : AV} {v : Value} (hv : VR σ ι' 0 y v) {rs' : RS} {cs' : List Frame} (hcs : CsR σ ι' κ C rs' cs') :
    ∃ hd', DrI P σ κ C ι0 h0 w0 N loc ops fc (fun j => j = x.ix ∨ S j) pend os tm ((x.ix, y) :: vs) ds (unhide hid h2) rs' rd al (a.put o.dst v) cs' w' ι' hd' := by
  have hx : x ∈ pend ++ x :: os := by simp
  have hi := hI.vsn x (by simp)
  have hnal : ∀ id, (x.ix, id) ∉ al := fun id hm => hI.alS x.ix id hm x (by simp) rfl
  have hpp := hp
  have hp2 : Post P σ ι (hide x.anc al h []).1 w ι' h2 w' := by rw [hh]; exact hp
  have hn1 : h1.next = h.next := by have := (hide_ok x.anc al h []).1; rw [hh] at this; exact this
  obtain ⟨hd', q1, q2⟩ := writer_less hI.less hI.st.rel hup (fun ix id hm => (hI.alo.low ix id hm).2) hp2
  rw [hh] at q2
  simp only at q2
  have hag : ∀ id, ι.d id → ι'.d id ∧ ι' id = ι id := q1.ag
  have hn := hI.nodup
  have hperm : ((pend ++ x :: os).map (·.ix)).Perm (x.ix :: (pend ++ os).map (·.ix)) := by
    simp only [List.map_append, List.map_cons]
    exact List.perm_middle
  have hn2 := hperm.nodup_iff.1 hn
  rw [List.nodup_cons] at hn2
  have sub : ∀ z, z ∈ pend ++ os → z ∈ pend ++ x :: os := by
    intro z hz
    simp only [List.mem_append, List.mem_cons] at hz ⊢
    exact hz.elim .inl fun h => .inr (.inr h)
  have hne : ∀ z ∈ pend ++ os, z.ix ≠ x.ix := fun z hz e => hn2.1 (e ▸ List.mem_map.2 ⟨z, hz, rfl⟩)
  refine ⟨hd', { closed := ?_, is := fun z hz => hI.is z (sub z hz), all := fun i hi => ?_, nodup := hn2.2, fresh := fun z hz => ?_, topo := Topo_remove hI.topo, cert := fun z hz => ?_, alo := ⟨hI.alo.one, hI.alo.fn, fun ix id hm => ?_⟩, alS := fun ix id hm z hz => hI.alS ix id hm z (by simp [hz]), ali := hI.ali, vsn := fun z hz => ?_, vss := fun j hj hh => ?_, less := Less_more hnal q2, dl := ?_, st := ?_ }⟩
  · intro i hi j hj
    rcases hi with rfl | hi
    · obtain ⟨o, _, e⟩ := hI.is x hx
      rw [← anc_eq e] at hj
      exact .inr (hup j hj)
    · exact .inr (hI.closed i hi j hj)
  · rcases hI.all i hi with h1 | ⟨z, h1, h2⟩
    · exact .inl (.inr h1)
    · simp only [List.mem_append, List.mem_cons] at h1
      rcases h1 with h1 | rfl | h1
      · exact .inr ⟨z, by simp [h1], h2⟩
      · exact .inl (.inl h2.symm)
      · exact .inr ⟨z, by simp [h1], h2⟩
  · rintro (e | hs)
    · exact hne z hz e
    · exact hI.fresh z (sub z hz) hs
  · exact cert_writer (hI.cert z hz) hup (hI.fresh z (by simp [hz])) (fun ix id hm => (hI.alo.low ix id hm).2) hh hp hre hi
  · have := hI.alo.low ix id hm
    rw [unhide_next]
    have h3 := hp.next
    omega
  · rw [lookO_cons, if_neg (fun e => hne z (by simp [hz]) e.symm)]
    exact hI.vsn z (by simp [hz])
  · rw [lookO_cons]
    split
    · rfl
    · rename_i hne2
      exact hI.vss j hj fun z hz => by
        rcases List.mem_cons.1 hz with rfl | hz
        · exact hne2
        · exact hh z hz
  · refine DlR_step (vs := (x.ix, y) :: vs) (S := S) ?_ hu (by simpa using ho) hI.st.size hdN (by rw [lookV_cons, if_pos rfl]; exact hv)
    intro t
    refine ⟨fun j o h1 h2 h3 => ?_, fun hn => VR_any (n := 0) hag ((hI.dl t).2 hn)⟩
    have : x.ix ≠ j := fun e => hI.fresh x hx (e ▸ h3)
    rw [lookV_cons, if_neg this]
    exact VR_any (n := 0) hag ((hI.dl t).1 j o h1 h2 h3)
  · exact ⟨Post_trans hR0 hI.st.post q1, by rw [put_defers]; exact DsR_mono hag hI.st.dfr, hcs, by rw [put_size]; exact hI.st.size, hI.st.loc⟩
end
end Go.Ev
namespace Go.Ev
open Go

section
variable {P : Program} {σ : Nat → Value} {κ : Kd} {C : List Frame} {ι0 ι ι' : Io} {h0 : Hp} {w0 : World} {N loc : Nat} {ops : Array Oper} {fc : Fct} {S : Nat → Prop} {pend os : List AOp} {tm : Tm} {vs : Vs} {ds : Ds} {h : Hp} {rs : RS} {rd : Rd} {al : Al} {a : Act} {cs : List Frame} {w : World} {hd : Hp}

theorem und_ok (ι' : Io) : VR σ ι' 0 ude undef := by simp only [ude, VR]; exact ⟨_, rfl, by simp [VRs]⟩

/-- a passed operation, all of whose ancestors have run, runs -/
theorem run_pend (hP : 40 ≤ P.depth) (hσ : ∀ m, (σ m).oneCell' = true) (hfc : FcOk σ fc) (hrg : rgOk N P.globals.size ops.toList = true) (hu : dstU ops.toList = true) {pre post : List AOp} {x : AOp}
    (hI : DrI P σ κ C ι0 h0 w0 N loc ops fc S (pre ++ x :: post) os tm vs ds h rs rd al a cs w ι hd) (hup : ∀ j, x.anc.testBit j = true → S j) {Q : PostX} {rest : List Nat}
    (k : ∀ a' w' ι' hd', DrI P σ κ C ι0 h0 w0 N loc ops fc (fun j => j = x.ix ∨ S j) (pre ++ post) os tm vs ds h rs rd al a' cs w' ι' hd' → RX P κ ops Q rest a' cs w') : RX P κ ops Q (x.ix :: rest) a cs w := by
  have hx : x ∈ pre ++ x :: post ++ os := by simp
  obtain ⟨o, ho, ex⟩ := hI.is x hx
  have ho' : ops.toList[x.ix]? = some o := by simpa using ho
  obtain ⟨hdst, hglob⟩ := rgOk_spec hrg o (List.mem_of_getElem? ho')
  have hns := hI.fresh x hx
  obtain ⟨vs', hsub, hc⟩ := hI.cert x (by simp)
  have hgd : x.gd = (cOper P ops.toList (resDraw ops.toList (Region.before ops) x.ix) o x.ix ((Region.before ops).getD x.ix 0)).gd := congrArg AOp.gd ex
  have hoo : x.o = match cOp P (resDraw ops.toList (Region.before ops) x.ix) o.op with | some x => x | none => .w .bad := congrArg AOp.o ex
  have hup' : ∀ j, ((Region.before ops).getD x.ix 0).testBit j = true → S j := by rw [← anc_eq ex]; exact hup
  have hres := DlR_res hI.dl hsub hns hup' hI.closed
  have hD := opd_ok hI.st.rel hres (Nat.le_refl _) hglob hd.next
  -- a state that stays in place
  have stay : ∀ v : Value, VR σ ι 0 (lookV x.ix vs) v → (∀ id, (x.ix, id) ∉ al) → DrI P σ κ C ι0 h0 w0 N loc ops fc (fun j => j = x.ix ∨ S j) (pre ++ post) os tm vs ds h rs rd al (a.put o.dst v) cs w ι hd := by
    intro v hv hnal
    refine hI.ran hup (Less_more hnal hI.less) (DlR_step hI.dl hu ho' hI.st.size hdst hv) ⟨hI.st.post, by rw [put_defers]; exact hI.st.dfr, hI.st.cs, by rw [put_size]; exact hI.st.size, hI.st.loc⟩
  rcases hc with ⟨k1, k2, k3⟩ | ⟨k1, y, k2, k3⟩
  · rw [hgd] at k1
    have hw' := wanted_ok (P := P) (ops := ops) (o := o) hres k1
    exact RX_off ho hw' (k _ _ _ _ (stay undef (by rw [lookV_O, k2]; exact und_ok ι) k3))
  · rw [hgd] at k1
    have hw' := wanted_ok (P := P) (ops := ops) (o := o) hres k1
    have hlook : lookV x.ix vs = y := by rw [lookV_O, k2]; rfl
    rw [hoo] at k3
    cases hop : cOp P (resDraw ops.toList (Region.before ops) x.ix) o.op with
    | none =>
      rw [hop] at k3
      rcases k3 with ⟨o', e1, _⟩ | ⟨o', e1, _⟩ | ⟨o', id, ob, e1, _⟩ <;> cases e1
    | some ao =>
      rw [hop] at k3
      rcases k3 with ⟨o', e1, e2, e3⟩ | ⟨o', e1, e2, e3, e4, e5⟩ | ⟨o', id, ob, e1, e2, e3, e4⟩
      · simp only at e1; subst e1
        obtain ⟨v, g1, g2⟩ := evP_ok hP hσ hfc hD hop e2 w
        exact RX_value ho hw' g1 (k _ _ _ _ (stay v (by rw [hlook]; exact VR_n g2) e3))
      · simp only at e1; subst e1
        have hrd : evR tm vs' hd o' = some y := by rw [cert_read hI.less hup e2]; exact e3
        obtain ⟨v, g1, g2⟩ := evR_ok hI.st.rel hD hop hrd
        exact RX_value ho hw' g1 (k _ _ _ _ (stay v (by rw [hlook]; exact VR_n g2) e5))
      · simp only at e1; subst e1
        obtain ⟨nh, nd⟩ := hI.less.not x.ix id e2 hns
        have hlow := hI.alo.low x.ix id e2
        have hD2 : Opd σ ι (⟨.e, id⟩ : Hp).next (resDraw ops.toList (Region.before ops) x.ix) (evD tm vs') a.eval o.op.operands.toList := opd_ok hI.st.rel hres (Nat.le_refl _) hglob _
        obtain ⟨v, w', sz, g1, g2, g3, g4⟩ := evL_ok hσ (h := ⟨.e, id⟩) nd (w := w) hD2 hop e3
        simp only at g3 g4
        obtain ⟨p1, p2⟩ := make_late hI.less hI.st.post e2 hns hI.alo.one hI.alo.fn hlow.1 hlow.2 e4 g2 g3
        have hag : ∀ id', ι.d id' → (upd ι id ⟨w.heap.size, 0, sz⟩).d id' ∧ (upd ι id ⟨w.heap.size, 0, sz⟩) id' = ι id' := Ag_upd nd _
        refine RX_value ho hw' g1 (k _ _ _ _ (hI.ran hup p2 (DlR_step (DlR_mono hag hI.dl) hu ho' hI.st.size hdst (by rw [hlook]; exact VR_n g4)) ⟨p1, by rw [put_defers]; exact DsR_mono hag hI.st.dfr, CsR_mono hag hI.st.cs, by rw [put_size]; exact hI.st.size, hI.st.loc⟩))
end
end Go.Ev
namespace Go.Ev
open Go

section
variable {P : Program} {σ : Nat → Value} {κ : Kd} {C : List Frame} {ι0 ι ι' : Io} {h0 : Hp} {w0 : World} {N loc : Nat} {ops : Array Oper} {fc : Fct} {S : Nat → Prop} {pend os : List AOp} {tm : Tm} {vs : Vs} {ds : Ds} {h : Hp} {rs : RS} {rd : Rd} {al : Al} {a : Act} {cs : List Frame} {w : World} {hd : Hp}

/-- what is listed -/
def LiR (ops : Array Oper) (S : Nat → Prop) (listed : Array Bool) : Prop := listed.size = ops.size ∧ ∀ i, listed[i]? = some true ↔ S i
theorem LiR.set {listed : Array Bool} (hl : LiR ops S listed) {i : Nat} (hi : i < ops.size) : LiR ops (fun j => j = i ∨ S j) (listed.setIfInBounds i true) := by
  refine ⟨by simp [hl.1], fun j => ?_⟩
  rw [Array.getElem?_setIfInBounds]
  split
  · rename_i e; subst e; rw [if_pos (by rw [hl.1]; exact hi)]; simp
  · rename_i e
    rw [hl.2 j]
    exact ⟨.inr, fun h => h.resolve_left fun e' => e e'.symm⟩
theorem ready_iff {listed : Array Bool} (hl : LiR ops S listed) (i : Nat) : i ∈ Region.ready .any ops listed ↔ ∃ o, ops[i]? = some o ∧ ¬ S i ∧ ∀ e ∈ o.after.toList, Region.binds .any e = true → S e.on := by
  unfold Region.ready
  rw [List.mem_filter, List.mem_range, Bool.and_eq_true]
  constructor
  · rintro ⟨h1, h2, h3⟩
    have ho : ops[i]? = some ops[i] := Array.getElem?_eq_getElem h1
    rw [ho] at h3
    refine ⟨_, ho, fun hs => ?_, fun e he hb => ?_⟩
    · have := (hl.2 i).2 hs
      rw [Array.getD_eq_getD_getElem?, this] at h2
      simp at h2
    · simp only [Option.map_some, Option.getD_some, Array.all_eq_true'] at h3
      have h4 := h3 e (by simpa using he)
      rw [hb] at h4
      simp only [Bool.not_true, Bool.false_or] at h4
      refine (hl.2 e.on).1 ?_
      rw [Array.getD_eq_getD_getElem?] at h4
      cases hg : listed[e.on]? with
      | none => rw [hg] at h4; cases h4
      | some b => rw [hg] at h4; simp at h4; rw [h4]
  · rintro ⟨o, ho, hs, he⟩
    have hlt : i < ops.size := (Array.getElem?_eq_some_iff.1 ho).1
    refine ⟨hlt, ?_, ?_⟩
    · rw [Array.getD_eq_getD_getElem?]
      have hlt' : i < listed.size := by rw [hl.1]; exact hlt
      rw [Array.getElem?_eq_getElem hlt']
      simp only [Option.getD_some, Bool.not_eq_true']
      cases hb : listed[i] with
      | false => rfl
      | true => exact absurd ((hl.2 i).1 (by rw [Array.getElem?_eq_getElem hlt', hb])) hs
    · rw [ho]
      simp only [Option.map_some, Option.getD_some, Array.all_eq_true']
      intro e hm
      cases hb : Region.binds .any e with
      | false => simp
      | true =>
        have := (hl.2 e.on).2 (he e (by simpa using hm) hb)
        rw [Array.getD_eq_getD_getElem?, this]
        simp

/-- one real step, whichever it is -/
theorem draw_step (hP : 40 ≤ P.depth) (hσ : ∀ m, (σ m).oneCell' = true) (hfc : FcOk σ fc) (hrg : rgOk N P.globals.size ops.toList = true) (hu : dstU ops.toList = true) (hI : DrI P σ κ C ι0 h0 w0 N loc ops fc S pend os tm vs ds h rs rd al a cs w ι hd)
    {listed : Array Bool} (hl : LiR ops S listed) {fuel t : Nat} (hf : (pend ++ os).length ≤ fuel) {Q : PostX}
    (hfin : pend = [] → os = [] → Q .normal a cs w)
    (hW : ∀ x os', os = x :: os' → (∀ j, x.anc.testBit j = true → S j) → ∀ fuel' t', fuel = fuel' + 1 → RX P κ ops Q (x.ix :: Region.linearise.go .any ops fuel' t' (listed.setIfInBounds x.ix true) []) a cs w)
    (hT : ∀ x os', os = x :: os' → ∀ y ∈ os', y.anc.testBit x.ix = true)
    (hp : ∀ pre x post, pend = pre ++ x :: post → ∀ a' w' ι' hd', DrI P σ κ C ι0 h0 w0 N loc ops fc (fun j => j = x.ix ∨ S j) (pre ++ post) os tm vs ds h rs rd al a' cs w' ι' hd' → ∀ fuel' t', fuel = fuel' + 1 → RX P κ ops Q (Region.linearise.go .any ops fuel' t' (listed.setIfInBounds x.ix true) []) a' cs w') :
    RX P κ ops Q (Region.linearise.go .any ops fuel t listed []) a cs w := by
  -- the first of those that are left is ready
  have first : ∀ x l, pend ++ os = x :: l → x.ix ∈ Region.ready .any ops listed := by
    intro x l e
    have hx : x ∈ pend ++ os := by rw [e]; simp
    obtain ⟨o, ho, ex⟩ := hI.is x hx
    rw [ready_iff hl]
    refine ⟨o, ho, hI.fresh x hx, fun ed he hb => ?_⟩
    have ht := hI.topo
    rw [e] at ht
    refine ht.1 ed.on ?_
    rw [anc_eq ex]
    exact before_edge ho he hb
  cases fuel with
  | zero =>
    have : pend ++ os = [] := List.length_eq_zero_iff.1 (Nat.le_zero.1 hf)
    rw [List.append_eq_nil_iff] at this
    simp only [Region.linearise.go, List.reverse_nil]
    exact RX_nil (hfin this.1 this.2)
  | succ fuel =>
    simp only [Region.linearise.go]
    change RX P κ ops Q (match (Region.ready .any ops listed)[t % (Region.ready .any ops listed).length]? with
      | some i => Region.linearise.go .any ops fuel (t / (Region.ready .any ops listed).length) (listed.setIfInBounds i true) [i]
      | none => [].reverse) a cs w
    cases hi : (Region.ready .any ops listed)[t % (Region.ready .any ops listed).length]? with
    | none =>
      have hnil : Region.ready .any ops listed = [] := by
        cases hr : Region.ready .any ops listed with
        | nil => rfl
        | cons x xs =>
          rw [hr] at hi
          have hlt : t % (x :: xs).length < (x :: xs).length := Nat.mod_lt _ (by simp)
          simp at hi
          simp at hlt
          omega
      simp only [List.reverse_nil]
      cases hpo : pend ++ os with
      | cons x l =>
        have := first x l hpo
        rw [hnil] at this; cases this
      | nil =>
        rw [List.append_eq_nil_iff] at hpo
        exact RX_nil (hfin hpo.1 hpo.2)
    | some i =>
      simp only []
      rw [linearise_go_acc, List.reverse_singleton, List.singleton_append]
      generalize t / (Region.ready .any ops listed).length = t'
      have hr := (ready_iff hl i).1 (List.mem_of_getElem? hi)
      obtain ⟨o, ho, hns, hed⟩ := hr
      have hlt : i < ops.size := (Array.getElem?_eq_some_iff.1 ho).1
      have hup : ∀ j, ((Region.before ops).getD i 0).testBit j = true → S j := before_closed hI.closed ho hed
      rcases hI.all i hlt with h1 | ⟨x, hx, ei⟩
      · exact absurd h1 hns
      · subst ei
        have hupx : ∀ j, x.anc.testBit j = true → S j := by
          obtain ⟨o', _, ex⟩ := hI.is x hx
          rw [anc_eq ex]; exact hup
        rcases List.mem_append.1 hx with h1 | h1
        · obtain ⟨pre, post, e⟩ := List.append_of_mem h1
          subst e
          exact run_pend hP hσ hfc hrg hu hI hupx fun a' w' ι' hd' hI' => hp pre x post rfl a' w' ι' hd' hI' fuel t' rfl
        · cases os with
          | nil => cases h1
          | cons y os' =>
            rcases List.mem_cons.1 h1 with rfl | h2
            · exact hW x os' rfl hupx fuel t' rfl
            · exact absurd (hupx _ (hT y os' rfl x h2)) (hI.fresh y (by simp))

theorem Post_bump {hd : Hp} (hp : Post P σ ι0 h0 w0 ι hd w) (t : Nat) (ht : hd.next ≤ t) : Post P σ ι0 h0 w0 ι ⟨hd.t, t⟩ w where
  ag := hp.ag
  newd := hp.newd
  next := Nat.le_trans hp.next ht
  rel := {
    live := fun id o hg => by
      obtain ⟨h1, h2, h3⟩ := hp.rel.live id o hg
      exact ⟨h1, h2, OR_any rfl (fun _ h => ⟨h, rfl⟩) h3⟩
    inj := hp.rel.inj
    dom := fun id hd' => Nat.lt_of_lt_of_le (hp.rel.dom id hd') ht
    glob := hp.rel.glob }
  fra := hp.fra
  old := hp.old

theorem Post_ext {hd h : Hp} (hp : Post P σ ι0 h0 w0 ι hd w) (hn : h.next = hd.next) (hg : ∀ id, h.get id = hd.get id) : Post P σ ι0 h0 w0 ι h w where
  ag := hp.ag
  newd := hp.newd
  next := by rw [hn]; exact hp.next
  rel := Rel_sub hp.rel hn fun id o h1 => by rw [← hg]; exact h1
  fra := hp.fra
  old := fun id o h1 => hp.old id o (by rw [← hg]; exact h1)

/-- what a drawn region leaves in the slots -/
theorem draw_flush {ops : Array Oper} (hdl : DlR σ ι ops.toList S tm vs a.tmps) (hS : ∀ i, i < ops.size → S i) (hvs : ∀ j, j < ops.size → (lookO j vs).isSome = true) (hloc : ∀ d, loc.testBit d = false → tm.get d = none) :
    TmR σ ι (flush (flOf loc ops.toList) vs tm) a.tmps ∧ ∀ d, loc.testBit d = false → (flush (flOf loc ops.toList) vs tm).get d = none := by
  have lt : ∀ {j : Nat} {d : Tmp}, (ops.toList[j]?).bind (·.dst) = some d → j < ops.size ∧ ∃ o, ops.toList[j]? = some o ∧ o.dst = some d := by
    intro j d hj
    cases ho : ops.toList[j]? with
    | none => rw [ho] at hj; cases hj
    | some o => rw [ho] at hj; exact ⟨by simpa using (List.getElem?_eq_some_iff.1 ho).1, o, rfl, hj⟩
  refine ⟨fun d x hx => ?_, fun d hd => ?_⟩
  · rw [flOf_eq] at hx
    rcases flush_go loc vs ops.toList 0 tm d x hx with ⟨j, _, h2, h3, _⟩ | ⟨h1, h2⟩
    · rw [Nat.sub_zero] at h2
      obtain ⟨hlt, o, ho, hod⟩ := lt h2
      have := (hdl d).1 j o ho hod (hS j hlt)
      rw [lookV_O, h3] at this
      exact this
    · cases hb : loc.testBit d with
      | false => rw [hloc d hb] at h1; cases h1
      | true =>
        have := (hdl d).2 fun j o ho hod _ => by
          have hj : (ops.toList[j]?).bind (·.dst) = some d := by rw [ho]; exact hod
          have h3 := h2 j (Nat.zero_le _) (by rw [Nat.sub_zero]; exact hj) hb
          have h4 := hvs j (lt hj).1
          rw [h3] at h4; cases h4
        unfold getT at this
        rw [h1] at this
        exact this
  · rw [flush_other]
    · exact hloc d hd
    · intro p hp e
      rw [flOf_eq] at hp
      have := flG_loc loc ops.toList 0 p hp
      rw [e, hd] at this; cases this
end
end Go.Ev
namespace Go.Ev
open Go

section
variable {P : Program} {σ : Nat → Value} {κ : Kd} {C : List Frame} {ι0 ι ι' : Io} {h0 : Hp} {w0 : World} {N loc : Nat} {ops : Array Oper} {fc : Fct}

theorem cert_new {vs : Vs} {i : Nat} (hi : lookO i vs = none) (y : AV) : SubV vs ((i, y) :: vs) ∧ lookO i ((i, y) :: vs) = some y :=
  ⟨(SubV.refl vs).cons hi y, by rw [lookO_cons, if_pos rfl]⟩

theorem Less.has {S : Nat → Prop} {al : Al} {h hd h0 : Hp} {w : World} (hl : Less ι S al h hd) (hR : Rel P σ ι hd w) (ha : AlOk al h0 h) {id : Nat} (hg : h.get id ≠ none) : id < h.next := by
  by_cases hh : ∀ ix, (ix, id) ∈ al → S ix
  · rw [← hl.ran id hh] at hg
    cases hg2 : hd.get id with
    | none => exact absurd hg2 hg
    | some o =>
      have := hR.dom id (hR.live id o hg2).1
      rw [hl.next] at this; exact this
  · have ⟨ix, hx⟩ : ∃ ix, (ix, id) ∈ al := by
      apply Classical.byContradiction
      intro hn
      exact hh fun ix hm => absurd ⟨ix, hm⟩ hn
    exact (ha.low ix id hx).2

theorem draw_go (hP : 40 ≤ P.depth) (hσ : ∀ m, (σ m).oneCell' = true) {call : CallF} (hcall : CallOk P σ call) (hfc : FcOk σ fc) (hR0 : Rel P σ ι0 h0 w0) (hrg : rgOk N P.globals.size ops.toList = true) (hu : dstU ops.toList = true) (tm : Tm) {r : R3} (hr : r ≠ .no) (ds : Ds) :
    ∀ (m : Nat) (fuel t : Nat) (listed : Array Bool) (S : Nat → Prop) (pend os : List AOp) (vs : Vs) (h : Hp) (rs : RS) (rd : Rd) (al : Al) (wm : Nat) (a : Act) (cs : List Frame) (w : World) (ι : Io) (hd : Hp),
      os.length + fuel ≤ m → (pend ++ os).length ≤ fuel → LiR ops S listed → DrI P σ κ C ι0 h0 w0 N loc ops fc S pend os tm vs ds h rs rd al a cs w ι hd → evDraw call fc tm (flOf loc ops.toList) os vs ds h rs rd al wm = r →
      RX P κ ops (OutR P σ κ C ι0 h0 w0 N loc r) (Region.linearise.go .any ops fuel t listed []) a cs w := by
  intro m
  induction m with
  | zero =>
    intro fuel t listed S pend os vs h rs rd al wm a cs w ι hd hm hf hl hI he
    have e1 : fuel = 0 := by omega
    subst e1
    have : pend ++ os = [] := List.length_eq_zero_iff.1 (Nat.le_zero.1 hf)
    rw [List.append_eq_nil_iff] at this
    obtain ⟨e2, e3⟩ := this
    subst e2; subst e3
    refine draw_step hP hσ hfc hrg hu hI hl hf (fun _ _ => ?_) (fun x os' e => by cases e) (fun x os' e => by cases e) (fun pre x post e => by simp at e)
    simp only [evDraw] at he
    subst he
    obtain ⟨f1, f2⟩ := draw_flush (loc := loc) hI.dl (fun i hi => (hI.all i hi).resolve_right (by simp)) (fun j hj => hI.vss j hj (by simp)) hI.st.loc
    have hS : ∀ i, i < ops.size → S i := fun i hi => (hI.all i hi).resolve_right (by simp)
    exact ⟨ι, ⟨Post_ext hI.st.post hI.less.next.symm fun id => (hI.less.ran id fun ix hm => hS ix (hI.ali ix id hm)).symm, hI.st.dfr, hI.st.cs, hI.st.size, f2⟩, f1⟩
  | succ m ih =>
    intro fuel t listed S pend os vs h rs rd al wm a cs w ι hd hm hf hl hI he
    -- a passed one runs
    have hpp : ∀ pre x post, pend = pre ++ x :: post → ∀ a' w' ι' hd', DrI P σ κ C ι0 h0 w0 N loc ops fc (fun j => j = x.ix ∨ S j) (pre ++ post) os tm vs ds h rs rd al a' cs w' ι' hd' → ∀ fuel' t', fuel = fuel' + 1 → RX P κ ops (OutR P σ κ C ι0 h0 w0 N loc r) (Region.linearise.go .any ops fuel' t' (listed.setIfInBounds x.ix true) []) a' cs w' := by
      intro pre x post e a' w' ι' hd' hI' fuel' t' hfe
      obtain ⟨o, ho, _⟩ := hI.is x (by rw [e]; simp)
      refine ih fuel' t' _ _ (pre ++ post) os vs h rs rd al wm a' cs w' ι' hd' (by omega) ?_ (hl.set (Array.getElem?_eq_some_iff.1 ho).1) hI' he
      subst e
      simp only [List.length_append, List.length_cons] at hf ⊢
      omega
    cases os with
    | nil =>
      refine draw_step hP hσ hfc hrg hu hI hl hf (fun e _ => ?_) (fun x os' e => by cases e) (fun x os' e => by cases e) hpp
      subst e
      simp only [evDraw] at he
      subst he
      obtain ⟨f1, f2⟩ := draw_flush (loc := loc) hI.dl (fun i hi => (hI.all i hi).resolve_right (by simp)) (fun j hj => hI.vss j hj (by simp)) hI.st.loc
      have hS : ∀ i, i < ops.size → S i := fun i hi => (hI.all i hi).resolve_right (by simp)
      exact ⟨ι, ⟨Post_ext hI.st.post hI.less.next.symm fun id => (hI.less.ran id fun ix hm => hS ix (hI.ali ix id hm)).symm, hI.st.dfr, hI.st.cs, hI.st.size, f2⟩, f1⟩
    | cons x os =>
      have hx : x ∈ pend ++ x :: os := by simp
      have hnal : ∀ id, (x.ix, id) ∉ al := fun id hm => hI.alS x.ix id hm x (by simp) rfl
      have hvn := hI.vsn x (by simp)
      have hlen : (pend ++ [x] ++ os).length ≤ fuel := by simpa using hf
      obtain ⟨o0, ho, ex⟩ := hI.is x hx
      have hwm := fun (q : evDraw call fc tm (flOf loc ops.toList) (x :: os) vs ds h rs rd al wm ≠ .no) => q
      obtain ⟨ix, gd, o, anc⟩ := x
      simp only at hnal hvn ho
      have he0 := he
      simp only [evDraw] at he
      split at he
      · exact absurd he.symm hr
      · split at he
        · -- wanted
          rename_i hw
          cases o with
          | p o =>
            simp only at he
            split at he
            · rename_i y hy
              obtain ⟨c1, c2⟩ := cert_new hvn y
              exact ih fuel t listed S (pend ++ [_]) os _ h rs rd al wm a cs w ι hd (by simp at hm; omega) hlen hl (hI.pass (fun _ h => h) (fun _ h => h) (fun _ h => .inl h) (fun _ _ => rfl) ⟨vs, c1, .inr ⟨hw, y, c2, .inl ⟨o, rfl, hy, hnal⟩⟩⟩ hI.alo hI.less hI.st) he
            · exact absurd he.symm hr
          | r o =>
            simp only at he
            split at he
            · rename_i hrok
              split at he
              · rename_i y hy
                obtain ⟨c1, c2⟩ := cert_new hvn y
                exact ih fuel t listed S (pend ++ [_]) os _ h rs _ al wm a cs w ι hd (by simp at hm; omega) hlen hl (hI.pass (fun _ h => List.mem_cons_of_mem _ h) (fun _ h => h) (fun _ h => .inl h) (fun _ _ => rfl) ⟨vs, c1, .inr ⟨hw, y, c2, .inr (.inl ⟨o, rfl, hrok, hy, by simp, hnal⟩)⟩⟩ hI.alo hI.less hI.st) he
              · exact absurd he.symm hr
            · exact absurd he.symm hr
          | l o =>
            simp only at he
            split at he
            · rename_i y ob hy
              obtain ⟨c1, c2⟩ := cert_new hvn y
              have hnone : h.get h.next = none := by
                cases hg : h.get h.next with
                | none => rfl
                | some ob' => exact absurd (hI.less.has hI.st.rel hI.alo (by rw [hg]; simp)) (Nat.lt_irrefl _)
              have hget : ∀ id, h.get id ≠ none → (h.new ob).2.get id = h.get id := fun id hid => by
                rw [Hp.get_new, if_neg]
                intro e; subst e; exact hid hnone
              refine ih fuel t listed S (pend ++ [_]) os _ _ rs rd _ wm a cs w ι ⟨hd.t, hd.next + 1⟩ (by simp at hm; omega) hlen hl (hI.pass (fun _ h => h) (fun _ h => List.mem_cons_of_mem _ h) (fun p hp => ?_) hget ⟨vs, c1, .inr ⟨hw, y, c2, .inr (.inr ⟨o, h.next, ob, rfl, by simp, hy, by rw [Hp.get_new, if_pos rfl]⟩)⟩⟩ ?_ ?_ ?_) he
              · rcases List.mem_cons.1 hp with rfl | hp
                · exact .inr ⟨rfl, hnone⟩
                · exact .inl hp
              · refine ⟨fun ix1 ix2 id h1 h2 => ?_, fun ix1 id1 id2 h1 h2 => ?_, fun ix1 id h1 => ?_⟩
                · rcases List.mem_cons.1 h1 with e1 | h1 <;> rcases List.mem_cons.1 h2 with e2 | h2
                  · injection e1 with e1; injection e2 with e2; rw [e1, e2]
                  · injection e1 with e1 e3; have := (hI.alo.low _ _ h2).2; omega
                  · injection e2 with e2 e3; have := (hI.alo.low _ _ h1).2; omega
                  · exact hI.alo.one ix1 ix2 id h1 h2
                · rcases List.mem_cons.1 h1 with e1 | h1' <;> rcases List.mem_cons.1 h2 with e2 | h2'
                  · injection e1 with e1 e3; injection e2 with e2 e4; rw [e3, e4]
                  · injection e1 with e1 e3; subst e1; exact absurd h2' (hnal id2)
                  · injection e2 with e2 e3; subst e2; exact absurd h1' (hnal id1)
                  · exact hI.alo.fn ix1 id1 id2 h1' h2'
                · rw [Hp.next_new]
                  rcases List.mem_cons.1 h1 with e1 | h1
                  · injection e1 with e1 e3; subst e3
                    refine ⟨?_, by omega⟩
                    rw [← hI.less.next]; exact hI.st.post.next
                  · have := hI.alo.low _ _ h1; omega
              · refine ⟨by rw [Hp.next_new, hI.less.next], fun id hh => ?_, fun ix1 id h1 hn => ?_⟩
                · have hne : id ≠ h.next := by
                    intro e; subst e
                    exact hI.fresh _ hx (hh ix (by simp))
                  rw [Hp.get_new, if_neg hne]
                  exact hI.less.ran id fun ix1 hm1 => hh ix1 (List.mem_cons_of_mem _ hm1)
                · rcases List.mem_cons.1 h1 with e1 | h1
                  · injection e1 with e1 e3; subst e3
                    have nd : ¬ ι.d h.next := fun hdd => by
                      have := hI.st.rel.dom _ hdd
                      rw [hI.less.next] at this; omega
                    refine ⟨?_, nd⟩
                    cases hg : hd.get h.next with
                    | none => exact hg
                    | some ob' => exact absurd (hI.st.rel.live _ _ hg).1 nd
                  · exact hI.less.not ix1 id h1 hn
              · exact ⟨Post_bump hI.st.post _ (by omega), hI.st.dfr, hI.st.cs, hI.st.size, hI.st.loc⟩
            · exact absurd he.symm hr
          | w o =>
            have hwms : ∀ (y : AV) (vs' : Vs) (h' : Hp) (rs' : RS), evDraw call fc tm (flOf loc ops.toList) os ((ix, y) :: vs') ds h' rs' rd al (Nat.lor wm (2 ^ ix)) = r → ∀ y ∈ os, y.anc.testBit ix = true := by
              intro y vs' h' rs' hev z hz
              have := (land_lor (evDraw_wm os _ _ _ _ _ _ _ (by rw [hev]; exact hr) z hz)).2
              have h2 := Nat.testBit_and z.anc (2 ^ ix) ix
              rw [show z.anc &&& 2 ^ ix = 2 ^ ix from this] at h2
              simpa using h2.symm
            generalize hh : hide anc al h [] = hp at he
            obtain ⟨h1, hid⟩ := hp
            simp only at he
            refine draw_step hP hσ hfc hrg hu hI hl hf (fun _ e => by cases e) (fun x1 os1 e hup fuel' t' hfe => ?_) (fun x1 os1 e y hy => ?_) hpp
            · injection e with e1 e2; subst e1; subst e2
              simp only at hup ⊢
              have ho' : ops.toList[ix]? = some o0 := by simpa using ho
              obtain ⟨hdst, hglob⟩ := rgOk_spec hrg o0 (List.mem_of_getElem? ho')
              have hns := hI.fresh _ hx
              have hgd : gd = (cOper P ops.toList (resDraw ops.toList (Region.before ops) ix) o0 ix ((Region.before ops).getD ix 0)).gd := congrArg AOp.gd ex
              have hoo : AO.w o = match cOp P (resDraw ops.toList (Region.before ops) ix) o0.op with | some x => x | none => .w .bad := congrArg AOp.o ex
              have hup' : ∀ j, ((Region.before ops).getD ix 0).testBit j = true → S j := by
                have := anc_eq ex; simp only at this; rw [← this]; exact hup
              have hres := DlR_res hI.dl (SubV.refl vs) hns hup' hI.closed
              obtain ⟨n1, g1, _⟩ := hide_ok anc al h []
              rw [hh] at n1 g1
              simp only at n1 g1
              have hR1 : Rel P σ ι h1 w := by
                refine Rel_sub hI.st.rel (by rw [n1, hI.less.next]) fun id ob hg => ?_
                rw [g1] at hg
                split at hg
                · cases hg
                · rename_i hnh
                  rw [hI.less.ran id fun ix1 hm1 => ?_]
                  · exact hg
                  · refine hup ix1 ?_
                    cases hb : anc.testBit ix1 with
                    | true => rfl
                    | false => exact absurd (hidden_iff.2 ⟨ix1, hm1, hb⟩) hnh
              have hD := opd_ok hR1 hres (Nat.le_refl _) hglob h1.next
              rw [hgd] at hw
              have hw' := wanted_ok (P := P) (ops := ops) (o := o0) hres hw
              have hlt : ix < ops.size := (Array.getElem?_eq_some_iff.1 ho).1
              -- the writer has run
              have go : ∀ {y : AV} {v : Value} {h2 : Hp} {w' : World} {ι' : Io} {rs' : RS} {cs' : List Frame}, Post P σ ι h1 w ι' h2 w' → VR σ ι' 0 y v → CsR σ ι' κ C rs' cs' →
                  (match recheck tm vs h2 anc rd with | true => evDraw call fc tm (flOf loc ops.toList) os ((ix, y) :: vs) ds (unhide hid h2) rs' rd al (Nat.lor wm (2 ^ ix)) | false => .no) = r →
                  RX P κ ops (OutR P σ κ C ι0 h0 w0 N loc r) (Region.linearise.go .any ops fuel' t' (listed.setIfInBounds ix true) []) (a.put o0.dst v) cs' w' := by
                intro y v h2 w' ι' rs' cs' q1 q2 q3 q4
                split at q4
                · rename_i hre
                  obtain ⟨hd', hI'⟩ := hI.wrote hR0 hu hup ho hdst hh q1 hre q2 q3
                  exact ih fuel' t' _ _ pend os _ _ _ rd al _ _ _ _ ι' hd' (by simp at hm; omega) (by simp at hf ⊢; omega) (hl.set hlt) hI' q4
                · exact absurd q4.symm hr
              cases hop : cOp P (resDraw ops.toList (Region.before ops) ix) o0.op with
              | none =>
                rw [hop] at hoo
                simp only at hoo; injection hoo with hoo; subst hoo
                simp only [evW] at he
                exact absurd he.symm hr
              | some ao =>
                rw [hop] at hoo
                simp only at hoo; subst hoo
                cases hpl : o.plain with
                | true =>
                  have hw1 := evW_ok hσ hR1 hD hop hpl call rs
                  split at he
                  · rename_i y h' rs' hev
                    rw [hev] at hw1
                    obtain ⟨e1, v, w', ι', q1, q2, q3⟩ := hw1
                    subst e1
                    exact RX_value ho hw' q1 (go q2 (VR_n q3) (CsR_mono q2.ag hI.st.cs) he)
                  · rename_i h' rs' hev
                    rw [hev] at hw1
                    obtain ⟨e1, w', ι', q1, q2⟩ := hw1
                    subst e1
                    exact RX_sk ho hw' q1 (go q2 (und_ok ι') (CsR_mono q2.ag hI.st.cs) he)
                  · exact absurd he.symm hr
                | false =>
                  cases o <;> simp only [WO.plain, Bool.true_eq_false] at hpl
                  case call f as =>
                    obtain ⟨c, g, e1, e2, e3, e4⟩ := cW_call hop
                    simp only [evW] at he
                    have hg := hD g (by rw [e1]; simp [Op.operands, Call.operands, e2]) _ e3
                    have has := cDs_ok (σ := σ) (ι := ι) (n := h1.next) (tm := tm) (vs := vs) (den := a.eval) e4 (fun y hy => hD y (by
                      rw [e1]; simp only [Op.operands, Call.operands, e2, Array.toList_append]; simp at hy ⊢; exact .inr hy))
                    obtain ⟨dst, op, type, pos, after, guard⟩ := o0
                    simp only at e1; subst e1
                    unfold wCall at he
                    generalize hF : evD tm vs f = F at he hg
                    cases F <;> simp only at he <;> try exact absurd he.symm hr
                    case yl id =>
                      simp only [VR] at hg
                      obtain ⟨hid2, hg⟩ := hg
                      have hyr := hcall.yl id (evDs tm vs as) h1
                      generalize hrc : call.yl id (evDs tm vs as) h1 = rc at he hyr
                      cases rc with
                      | no => simp only at he; exact absurd he.symm hr
                      | pan x h' => simp only at he; exact absurd he.symm hr
                      | ret y h' =>
                        simp only at he
                        obtain ⟨fn, tmps, asg, body, q1, q2⟩ := hyr ι w (c.args.map a.eval) hR1 (by rw [Array.toList_map]; exact VRs_n has) hid2
                        have hex : (execOp a.eval ⟨dst, .call c, type, pos, after, guard⟩).run P w = .ok (.round (ι id).blk fn tmps asg body) w := by
                          rw [execOp_yield e2 hg]; exact q1
                        refine RX_yield ho hw' hex ?_
                        intro c0 cs0
                        obtain ⟨v, w', ⟨ι', p1, p2⟩, p3⟩ := q2 c0 cs0
                        exact ⟨v, w', go p1 p2 (CsR_mono p1.ag hI.st.cs) he, p3⟩
                    rename_i fid first caps
                    simp only [VR] at hg
                    obtain ⟨va, vb, e5, e6, e7⟩ := hg
                    have hargs : VRs σ ι 0 (first ++ (evDs tm vs as ++ caps)) (va ++ c.args.map a.eval ++ vb).toList := by
                      rw [Array.toList_append, Array.toList_append, List.append_assoc]
                      refine VRs_append (VRs_n e6) (VRs_append ?_ (VRs_n e7))
                      rw [Array.toList_map]; exact VRs_n has
                    have hex : execOp a.eval ⟨dst, .call c, type, pos, after, guard⟩ = callFunc fid (va ++ c.args.map a.eval ++ vb) := execOp_call e2 e5
                    have hcr := hcall.fn fid (first ++ (evDs tm vs as ++ caps)) h1
                    generalize hrc : call.fn fid (first ++ (evDs tm vs as ++ caps)) h1 = rc at he hcr
                    cases rc with
                    | no => simp only at he; exact absurd he.symm hr
                    | pan y h' => simp only at he; exact absurd he.symm hr
                    | ret y h' =>
                      simp only at he
                      rcases hcr ι w _ hR1 hargs with ⟨q1, q2⟩ | ⟨v, w', ι', q1, p1, p2⟩
                      · refine RX_call ho hw' (by rw [hex]; exact q1) (Calls.mono q2 ?_)
                        rintro e w' ⟨v, rfl, ι', p1, p2⟩
                        exact go p1 p2 (CsR_mono p1.ag hI.st.cs) he
                      · exact RX_value ho hw' (by rw [hex]; exact q1) (go p1 p2 (CsR_mono p1.ag hI.st.cs) he)
                  case recv =>
                    obtain ⟨c, e1, e2⟩ := cW_recv hop
                    simp only [evW] at he
                    have hex : (execOp a.eval o0).run P w = .ok .recover w := by
                      obtain ⟨dst, op, type, pos, after, guard⟩ := o0
                      simp only at e1; subst e1
                      simp only [execOp, resolve, e2]
                      rfl
                    have hc := hI.st.cs
                    unfold wRecv at he
                    cases κ <;> simp only [CsR] at hc
                    · obtain ⟨e1, _⟩ := hc; subst e1
                      simp only at he
                      exact absurd he.symm hr
                    · obtain ⟨c0, cs1, u, k1, k2, k3⟩ := hc
                      refine RX_recover rfl ho hw' hex ?_
                      cases rs with
                      | no => exact k3.elim
                      | rnd => exact k3.elim
                      | idle =>
                        simp only at he
                        simp only [MdR] at k3; subst k3
                        have hrec : recoverD cs = none := by rw [k2]; rfl
                        rw [hrec]
                        exact go (Post_refl hR1) (by simp [VR]) hI.st.cs he
                      | got y =>
                        simp only at he
                        obtain ⟨v, k4, k5⟩ := k3; subst k4
                        have hrec : recoverD cs = none := by rw [k2]; rfl
                        rw [hrec]
                        exact go (Post_refl hR1) (by simp [VR]) hI.st.cs he
                      | pan y =>
                        simp only at he
                        obtain ⟨v, k4, k5⟩ := k3; subst k4
                        have hrec : recoverD cs = some (v, { c0 with mode := .panicking [{ v, recovered := true }] } :: cs1) := by rw [k2]; rfl
                        rw [hrec]
                        simp only
                        exact go (rs' := .got y) (Post_refl hR1) k5 ⟨c0, cs1, _, k1, rfl, v, rfl, k5⟩ he
                    · obtain ⟨e1, _⟩ := hc; subst e1
                      simp only at he
                      exact absurd he.symm hr
                  case dfr f as =>
                    simp only [evW] at he
                    unfold wDfr at he
                    generalize evD tm vs f = F at he
                    cases F <;> (try (cases rs)) <;> simp only at he <;> exact absurd he.symm hr
                  case pan d =>
                    simp only [evW] at he
                    unfold wPan at he
                    generalize evD tm vs d = F at he
                    cases F <;> simp only at he <;> exact absurd he.symm hr
                  case bad =>
                    simp only [evW] at he
                    exact absurd he.symm hr
            · injection e with e1 e2; subst e1; subst e2
              simp only
              split at he
              · split at he
                · exact hwms _ _ _ _ he y hy
                · exact absurd he.symm hr
              · split at he
                · exact hwms _ _ _ _ he y hy
                · exact absurd he.symm hr
              · exact absurd he.symm hr
        · -- not wanted
          rename_i hw
          obtain ⟨c1, c2⟩ := cert_new hvn ude
          exact ih fuel t listed S (pend ++ [_]) os _ h rs rd al wm a cs w ι hd (by simp at hm; omega) hlen hl (hI.pass (fun _ h => h) (fun _ h => h) (fun _ h => .inl h) (fun _ _ => rfl) ⟨vs, c1, .inl ⟨hw, c2, hnal⟩⟩ hI.alo hI.less hI.st) he
        · exact absurd he.symm hr
end
end Go.Ev
namespace Go.Ev
open Go

theorem asap_ops {P : Program} {ops : Array Oper} {l : List AOp} (h : asap 1000 (ops.toList.zipIdx.map fun (o, i) => dop P ops i o) 0 [] = some l) :
    (∀ x ∈ l, ∃ o, ops[x.ix]? = some o ∧ x = dop P ops x.ix o) ∧ (∀ i, i < ops.size → ∃ x ∈ l, x.ix = i) ∧ (l.map (·.ix)).Nodup ∧ Topo (fun _ => False) l ∧ l.length = ops.size := by
  have hmap : (ops.toList.zipIdx.map fun (p : Oper × Nat) => dop P ops p.2 p.1).map (·.ix) = List.range ops.size := by
    rw [List.map_map]
    apply List.ext_getElem?
    intro i
    rw [List.getElem?_map, List.getElem?_zipIdx, Nat.zero_add]
    cases ho : ops.toList[i]? with
    | none =>
      have : ops.size ≤ i := by simpa using List.getElem?_eq_none_iff.1 ho
      rw [List.getElem?_eq_none (by simpa using this)]; rfl
    | some o =>
      have : i < ops.size := by simpa using (List.getElem?_eq_some_iff.1 ho).1
      rw [List.getElem?_range this]; rfl
  obtain ⟨l', e, hp, ht⟩ := asap_spec 1000 _ 0 [] l h (by rw [hmap]; exact List.nodup_range)
  simp only [List.reverse_nil, List.nil_append] at e
  subst e
  have hm : (l.map (·.ix)).Perm (List.range ops.size) := by rw [← hmap]; exact hp.map _
  refine ⟨fun x hx => ?_, fun i hi => ?_, hm.nodup_iff.2 List.nodup_range, Topo_mono (fun j hj => by simp at hj) ht, ?_⟩
  · have := hp.mem_iff.1 hx
    rw [List.mem_map] at this
    obtain ⟨⟨o, i⟩, h1, h2⟩ := this
    obtain ⟨k, hk⟩ := List.mem_iff_getElem?.1 h1
    rw [List.getElem?_zipIdx] at hk
    cases hlk : ops.toList[k]? with
    | none => rw [hlk] at hk; cases hk
    | some o' =>
      rw [hlk] at hk
      simp at hk
      obtain ⟨e1, e2⟩ := hk
      subst e1; subst e2
      subst h2
      exact ⟨o', by simpa [dop, cOper] using hlk, rfl⟩
  · have : i ∈ l.map (·.ix) := hm.mem_iff.2 (List.mem_range.2 hi)
    rw [List.mem_map] at this
    exact this
  · have := hm.length_eq
    simpa using this

theorem draw_ok {P : Program} {σ : Nat → Value} (hP : 40 ≤ P.depth) (hσ : ∀ m, (σ m).oneCell' = true) {call : CallF} (hcall : CallOk P σ call) {fc : Fct} (hfc : FcOk σ fc) : DrawOk P σ call fc := by
  intro κ C ι0 h0 w0 N loc hR0 ops l hrg hu hl tm ds h rs a cs w ι r hr hs ht he t
  obtain ⟨l1, l2, l3, l4, l5⟩ := asap_ops (P := P) hl
  refine draw_go hP hσ hcall hfc hR0 hrg hu tm hr ds (l.length + ops.size) ops.size t (Array.replicate ops.size false) (fun _ => False) [] l [] h rs [] [] 0 a cs { w with drawn := w.drawn + 1 } ι h (Nat.le_refl _) (by simp [l5]) ?_ ?_ he
  · refine ⟨by simp, fun i => ?_⟩
    rw [Array.getElem?_replicate]
    split <;> simp
  · exact {
      closed := fun i hi => hi.elim
      is := by simpa using l1
      all := fun i hi => .inr (by simpa using l2 i hi)
      nodup := by simpa using l3
      fresh := fun x _ h => h
      topo := by simpa using l4
      cert := fun x hx => by cases hx
      alo := ⟨by simp, by simp, by simp⟩
      alS := by simp
      ali := by simp
      vsn := fun _ _ => rfl
      vss := fun j hj hh => by
        obtain ⟨x, hx, e⟩ := l2 j hj
        exact absurd e (hh x hx)
      less := ⟨rfl, fun _ _ => rfl, by simp⟩
      dl := fun t => ⟨fun _ _ _ _ h => h.elim, fun _ => by
        unfold getT
        cases hg : tm.get t with
        | none => simp [VR]
        | some x => exact ht t x hg⟩
      st := ⟨Post_drawn hs.post, hs.dfr, hs.cs, hs.size, hs.loc⟩ }

/-- the evaluator is sound -/
theorem ev_ok {P : Program} {σ : Nat → Value} (hP : 40 ≤ P.depth) (hσ : ∀ m, (σ m).oneCell' = true) (hm : P.follows .mixedOrders = true) {T : Tab} (hT : TabOk P T) (hprim : PrimOk P σ T) (hfc : FcOk σ T.fact) (n : Nat) : CallOk P σ (evCall T n) :=
  evCall_ok hP hσ hm hT hprim hfc (fun _ hc => draw_ok hP hσ hc hfc) n
end Go.Ev
