/- Contracts: the Boolean operations on regions. -/
import Derived.Test.YtldgjocjcbhkmaaRegO
import Derived.StillTailTactics
namespace Go.Proofs.Ytldgjocjcbhkmaa
open Go.RowKit
attribute [local go_sem low] cell_alloc_ite frozen_alloc_ite

def upd (f : Grid) (i k : Nat) (v : Bool) : Grid := fun a c => if a = i ∧ c = k then v else f a c
theorem row_upd {w : World} {b t : Nat} {f : Grid} (h : w.rowIs b t 6400 (gv f)) {i k : Nat} (hk : k < 80) (v : Bool) : (w.setCell ⟨b, i * 80 + k, none⟩ (.bool v)).rowIs b t 6400 (gv (upd f i k v)) :=
  (h.set (i * 80 + k) (.bool v)).congr fun n _ => by
    simp only [gv, upd]
    by_cases hn : n = i * 80 + k
    · rw [if_pos hn, if_pos (by omega)]
    · rw [if_neg hn, if_neg (by omega)]
theorem upd_same (f : Grid) (i k : Nat) (v : Bool) : upd f i k v i k = v := by simp [upd]
theorem upd_other {f : Grid} {i k a c : Nat} {v : Bool} (h : ¬ (a = i ∧ c = k)) : upd f i k v a c = f a c := by simp [upd, h]
def opR (op : Int) (l m : List Rc) : List Rc := if isReg l && isReg m then regionL (opG op (bitsOf l) (bitsOf m)) else []
theorem opR_len (op : Int) (l m : List Rc) : (opR op l m).length ≤ 2000000 := by
  unfold opR
  split
  · have := region_length (opG op (bitsOf l) (bitsOf m)); omega
  · simp
theorem opR_no {op : Int} {l m : List Rc} (h : (isReg l && isReg m) = false) : opR op l m = [] := by simp [opR, h]
theorem opR_ok {op : Int} {l m : List Rc} (h : (isReg l && isReg m) = true) : opR op l m = regionL (opG op (bitsOf l) (bitsOf m)) := by simp [opR, h]
def compR (l : List Rc) : List Rc := if isReg l then regionL (notG (bitsOf l)) else []
theorem compR_len (l : List Rc) : (compR l).length ≤ 2000000 := by
  unfold compR
  split
  · have := region_length (notG (bitsOf l)); omega
  · simp
theorem opG_nor (g : Grid) : opG 1 g g = notG g := by
  funext i j
  simp [opG, opB_nor, notG]
theorem zero_rowF (w : World) : (w.alloc (Obj.cells Try.zeroCells103 103)).rowIs w.heap.size 103 6400 (gv fun _ _ => false) := zero_row w
set_option maxRecDepth 100000 in
set_option maxHeartbeats 800000 in
theorem spec_Union (l m : List Rc) (a a' : Option Addr) (cap cap' : Nat) (w : World) (h : RectsAt w.heap.size w a l) (h' : RectsAt w.heap.size w a' m) (hn : l.length ≤ 2000000) (hn' : m.length ≤ 2000000) :
    Calls Try.prog 45 #[.slice a l.length cap, .slice a' m.length cap'] w (RetS w (opR 14 l m)) := by
  cases hv : (isReg l && isReg m)
  · rw [opR_no hv]
    have HV := hide hv
    clear hv
    go_enter Try.func45, Try.ntmps45
    go_wp2_with fail
    go_at_call 100
    refine (spec_l04Both l m _ _ _ _ _ h h' hn hn').mono ?_
    rintro e w1 ⟨he, hb1⟩
    rw [HV.out] at he
    subst he
    go_wp2_with fail
    go_ret
    exact retS_nil rfl hb1
  · rw [opR_ok hv]
    have hv2 := hv
    rw [Bool.and_eq_true] at hv2
    have k1 := isReg_iff.1 hv2.1
    have k2 := isReg_iff.1 hv2.2
    have K1 := hide k1
    have K2 := hide k2
    have HV := hide hv
    clear hv hv2 k1 k2
    go_enter Try.func45, Try.ntmps45
    go_wp2_with fail
    go_at_call 100
    refine (spec_l04Both l m _ _ _ _ _ h h' hn hn').mono ?_
    rintro e w1 ⟨he, hb1⟩
    rw [HV.out] at he
    subst he
    go_wp2_with fail
    go_at_call 102
    refine (spec_l04Op l m 14 (by omega) _ _ _ _ _ (h.kept hb1) (h'.kept hb1) (by have := K1.out.1; omega) (by have := K2.out.1; omega) K1.out.2.1 K2.out.2.1).mono ?_
    rintro e w2 ⟨a2, c2, rfl, ho2, hb2⟩
    go_wp2_with fail
    go_ret
    exact ⟨a2, c2, rfl, own_base ho2 hb1.size, bel_trans hb1 hb2⟩
set_option maxRecDepth 100000 in
set_option maxHeartbeats 400000 in
theorem impl_Union1 (p q : Bool) (w : World) : Calls Try.prog 86 #[.bool p, .bool q] w fun e w' => e = .returned (.bool (opB 14 p q)) ∧ w = w' := by
  cases p <;> cases q
  all_goals
    go_enter Try.func86, Try.ntmps86
    go_wp2
    go_ret
    exact ⟨rfl, rfl⟩
set_option maxRecDepth 100000 in
set_option maxHeartbeats 3200000 in
theorem impl_combine_Union (l m : List Rc) (a a' : Option Addr) (cap cap' : Nat) (w : World) (h : RectsAt w.heap.size w a l) (h' : RectsAt w.heap.size w a' m) (hn : l.length ≤ 2000000) (hn' : m.length ≤ 2000000) :
    Calls Try.prog 85 #[.slice a l.length cap, .slice a' m.length cap', .func (Fn.func 86) #[] #[]] w (RetS w (opR 14 l m)) := by
  cases hv : isReg l
  · rw [opR_no (by rw [hv]; rfl)]
    go_enter Try.func85, Try.ntmps85
    go_wp2_with fail
    go_at_call 30
    refine (impl_IsRegion l _ _ _ h hn).mono ?_
    rintro e w1 ⟨rfl, hb1⟩
    go_wp2_with fail
    go_ret
    exact retS_nil rfl hb1
  cases hv2 : isReg m
  · rw [opR_no (by rw [hv, hv2]; rfl)]
    go_enter Try.func85, Try.ntmps85
    go_wp2_with fail
    go_at_call 30
    refine (impl_IsRegion l _ _ _ h hn).mono ?_
    rintro e w1 ⟨rfl, hb1⟩
    go_wp2_with fail
    go_at_call 30
    refine (impl_IsRegion m _ _ _ (h'.kept hb1) hn').mono ?_
    rintro e w2 ⟨rfl, hb2⟩
    go_wp2_with fail
    go_ret
    exact retS_nil rfl (bel_trans hb1 hb2)
  rw [opR_ok (by rw [hv, hv2]; rfl)]
  have k1 := isReg_iff.1 hv
  have k2 := isReg_iff.1 hv2
  have K1 := hide k1
  have K2 := hide k2
  clear k1 k2
  go_enter Try.func85, Try.ntmps85
  go_wp2_with fail
  go_at_call 30
  refine (impl_IsRegion l _ _ _ h hn).mono ?_
  rintro e w1 ⟨rfl, hb1⟩
  go_wp2_with fail
  go_at_call 30
  refine (impl_IsRegion m _ _ _ (h'.kept hb1) hn').mono ?_
  rintro e w2 ⟨rfl, hb2⟩
  go_wp2_with fail
  go_at_call 88
  refine (impl_cellsOf l _ _ _ ((h.kept hb1).kept hb2) (by have := K1.out.1; omega)).mono ?_
  rintro e w3 ⟨b1, rfl, _, r1, hb3⟩
  go_wp2_with fail
  go_at_call 88
  refine (impl_cellsOf m _ _ _ (((h'.kept hb1).kept hb2).kept hb3) (by have := K2.out.1; omega)).mono ?_
  rintro e w4 ⟨b2, rfl, _, r2, hb4⟩
  have hbl := bel_trans (bel3 hb1 hb2 hb3) hb4
  replace r1 := rowIs_kept r1 hb4
  have q1 := r1.lt
  have q2 := r2.lt
  have hz := zero_rowF w4
  clear hv hv2 h h' hb1 hb2 hb3 hb4
  obtain ⟨g1, hg1⟩ : ∃ g1, g1 = bitsOf l := ⟨_, rfl⟩
  obtain ⟨g2, hg2⟩ : ∃ g2, g2 = bitsOf m := ⟨_, rfl⟩
  rw [← hg1] at r1
  rw [← hg2] at r2
  have HG1 := hide hg1
  have HG2 := hide hg2
  clear hg1 hg2
  go_wp2_with fail
  go_loopw [26] (fun s wr => ∃ (i : Nat) (f : Grid), i ≤ 80 ∧ s = .int .i64 i ∧ wr.rowIs w4.heap.size 103 6400 (gv f) ∧ (∀ u v, u < i → v < 80 → f u v = opG 14 g1 g2 u v) ∧ Below w4.heap.size w4 wr) (fun s _ => 80 - (intOf s).toNat)
  case atStart => exact ⟨0, _, Nat.zero_le _, rfl, hz, fun u v hu => absurd hu (by omega), (by repeat (first | with_reducible exact Below.refl _ _ | with_reducible assumption | with_reducible refine bel_alloc ?_ _ | with_reducible refine bel_drew ?_ | with_reducible refine bel_drewN ?_ _ | with_reducible refine bel_set ?_ (by (try simp) <;> omega) _ | with_reducible refine bel_trans ?_ (by assumption)))⟩
  case round =>
    obtain ⟨i, f, hi, rfl, hrow, hf, hbz⟩ := hrel
    have HF := hide hf
    clear hf hz
    by_cases hy : i < 80
    · have hyI : (i : Int) < 80 := by omega
      have hyJ : (0 : Int) ≤ (i : Int) := Int.natCast_nonneg _
      go_wp2_with fail
      go_loopw [29] (fun s wr => ∃ (k : Nat) (f : Grid), k ≤ 80 ∧ s = .int .i64 k ∧ wr.rowIs w4.heap.size 103 6400 (gv f) ∧ (∀ u v, (u < i ∨ u = i ∧ v < k) → v < 80 → f u v = opG 14 g1 g2 u v) ∧ Below w4.heap.size w4 wr) (fun s _ => 80 - (intOf s).toNat)
      case atStart => exact ⟨0, f, Nat.zero_le _, rfl, hrow, fun u v hu hv => HF.out u v (by omega) hv, hbz⟩
      case round =>
        obtain ⟨k, f2, hk, rfl, hrow2, hf2, hbz2⟩ := hrel
        have HF2 := hide hf2
        clear hf2 hrow
        by_cases hx : k < 80
        · have hxI : (k : Int) < 80 := by omega
          have hxJ : (0 : Int) ≤ (k : Int) := Int.natCast_nonneg _
          have e1 : _root_.Go.World.rowIs _ b1 103 6400 (gv g1) := r1.of_block (hbz2.block b1 q1)
          have e2 : _root_.Go.World.rowIs _ b2 103 6400 (gv g2) := r2.of_block (hbz2.block b2 q2)
          have d1 := e1.cell (i := i * 80 + k) (by omega)
          have d2 := e2.cell (i := i * 80 + k) (by omega)
          have d3 := hrow2.cell (i := i * 80 + k) (by omega)
          have d4 := hrow2.frozen (i * 80 + k)
          rw [gv_at _ hx] at d1 d2
          have hop : opG 14 g1 g2 i k = opB 14 (g1 i k) (g2 i k) := rfl
          generalize g1 i k = p at d1 hop
          generalize g2 i k = q at d2 hop
          have HOP := hide hop
          clear hop e1 e2
          go_wp2_with fail
          go_still_tail 22, (by kernel_rfl)
          still_call ((impl_Union1 p q _).mono fun _ _ h => ⟨h.1, h.2.symm⟩)
          repeat still_step
          try refine wpStill_nil ?_
          change wpList _ _ _ _ _ (World.drew _)
          go_wp2_with fail
          go_roundw
          case rel =>
            refine ⟨k + 1, upd f2 i k (opB 14 p q), by omega, by go_num, (row_upd hrow2 hx _).drew, fun u v hu hv => ?_, (hbz2.setCell (Nat.le_refl _) _).drew⟩
            by_cases e : u = i ∧ v = k
            · obtain ⟨rfl, rfl⟩ := e
              rw [upd_same, HOP.out]
            · rw [upd_other e]
              exact HF2.out u v (by omega) hv
          case measure => simp [intOf]; omega
        · go_wp2_with fail
          go_roundw
          case rel => exact ⟨i + 1, f2, by omega, by go_num, hrow2, fun u v hu hv => HF2.out u v (by omega) hv, hbz2⟩
          case measure => simp [intOf]; omega
    · go_wp2_with fail
      go_at_call 89
      refine ((impl_region _ _ _ _ hrow).mono fun _ _ => retS_of).mono ?_
      rintro e w5 ⟨a5, c5, rfl, ho5, hb5⟩
      have hge : GEq f (opG 14 (bitsOf l) (bitsOf m)) := fun u v hu hv => by
        rw [HF.out u v (by omega) hv, HG1.out, HG2.out]
      rw [regionL_congr hge] at ho5 ⊢
      have hbz3 := bel_trans hbl hbz
      go_wp2_with fail
      go_ret
      exact ⟨a5, c5, rfl, own_base ho5 hbz3.size, bel_trans hbz3 hb5⟩
set_option maxRecDepth 100000 in
set_option maxHeartbeats 400000 in
theorem impl_Union (l m : List Rc) (a a' : Option Addr) (cap cap' : Nat) (w : World) (h : RectsAt w.heap.size w a l) (h' : RectsAt w.heap.size w a' m) (hn : l.length ≤ 2000000) (hn' : m.length ≤ 2000000) :
    Calls Try.prog 27 #[.slice a l.length cap, .slice a' m.length cap'] w (RetS w (opR 14 l m)) := by
  go_enter Try.func27, Try.ntmps27
  go_wp2_with fail
  go_at_call 85
  refine (impl_combine_Union l m _ _ _ _ _ h h' hn hn').mono ?_
  rintro e w1 ⟨a1, c1, rfl, ho1, hb1⟩
  go_wp2_with fail
  go_ret
  exact ⟨a1, c1, rfl, ho1, hb1⟩
set_option maxRecDepth 100000 in
set_option maxHeartbeats 800000 in
theorem spec_Intersection (l m : List Rc) (a a' : Option Addr) (cap cap' : Nat) (w : World) (h : RectsAt w.heap.size w a l) (h' : RectsAt w.heap.size w a' m) (hn : l.length ≤ 2000000) (hn' : m.length ≤ 2000000) :
    Calls Try.prog 44 #[.slice a l.length cap, .slice a' m.length cap'] w (RetS w (opR 8 l m)) := by
  cases hv : (isReg l && isReg m)
  · rw [opR_no hv]
    have HV := hide hv
    clear hv
    go_enter Try.func44, Try.ntmps44
    go_wp2_with fail
    go_at_call 100
    refine (spec_l04Both l m _ _ _ _ _ h h' hn hn').mono ?_
    rintro e w1 ⟨he, hb1⟩
    rw [HV.out] at he
    subst he
    go_wp2_with fail
    go_ret
    exact retS_nil rfl hb1
  · rw [opR_ok hv]
    have hv2 := hv
    rw [Bool.and_eq_true] at hv2
    have k1 := isReg_iff.1 hv2.1
    have k2 := isReg_iff.1 hv2.2
    have K1 := hide k1
    have K2 := hide k2
    have HV := hide hv
    clear hv hv2 k1 k2
    go_enter Try.func44, Try.ntmps44
    go_wp2_with fail
    go_at_call 100
    refine (spec_l04Both l m _ _ _ _ _ h h' hn hn').mono ?_
    rintro e w1 ⟨he, hb1⟩
    rw [HV.out] at he
    subst he
    go_wp2_with fail
    go_at_call 102
    refine (spec_l04Op l m 8 (by omega) _ _ _ _ _ (h.kept hb1) (h'.kept hb1) (by have := K1.out.1; omega) (by have := K2.out.1; omega) K1.out.2.1 K2.out.2.1).mono ?_
    rintro e w2 ⟨a2, c2, rfl, ho2, hb2⟩
    go_wp2_with fail
    go_ret
    exact ⟨a2, c2, rfl, own_base ho2 hb1.size, bel_trans hb1 hb2⟩
set_option maxRecDepth 100000 in
set_option maxHeartbeats 400000 in
theorem impl_Intersection1 (p q : Bool) (w : World) : Calls Try.prog 94 #[.bool p, .bool q] w fun e w' => e = .returned (.bool (opB 8 p q)) ∧ w = w' := by
  cases p <;> cases q
  all_goals
    go_enter Try.func94, Try.ntmps94
    go_wp2
    go_ret
    exact ⟨rfl, rfl⟩
set_option maxRecDepth 100000 in
set_option maxHeartbeats 3200000 in
theorem impl_combine_Intersection (l m : List Rc) (a a' : Option Addr) (cap cap' : Nat) (w : World) (h : RectsAt w.heap.size w a l) (h' : RectsAt w.heap.size w a' m) (hn : l.length ≤ 2000000) (hn' : m.length ≤ 2000000) :
    Calls Try.prog 85 #[.slice a l.length cap, .slice a' m.length cap', .func (Fn.func 94) #[] #[]] w (RetS w (opR 8 l m)) := by
  cases hv : isReg l
  · rw [opR_no (by rw [hv]; rfl)]
    go_enter Try.func85, Try.ntmps85
    go_wp2_with fail
    go_at_call 30
    refine (impl_IsRegion l _ _ _ h hn).mono ?_
    rintro e w1 ⟨rfl, hb1⟩
    go_wp2_with fail
    go_ret
    exact retS_nil rfl hb1
  cases hv2 : isReg m
  · rw [opR_no (by rw [hv, hv2]; rfl)]
    go_enter Try.func85, Try.ntmps85
    go_wp2_with fail
    go_at_call 30
    refine (impl_IsRegion l _ _ _ h hn).mono ?_
    rintro e w1 ⟨rfl, hb1⟩
    go_wp2_with fail
    go_at_call 30
    refine (impl_IsRegion m _ _ _ (h'.kept hb1) hn').mono ?_
    rintro e w2 ⟨rfl, hb2⟩
    go_wp2_with fail
    go_ret
    exact retS_nil rfl (bel_trans hb1 hb2)
  rw [opR_ok (by rw [hv, hv2]; rfl)]
  have k1 := isReg_iff.1 hv
  have k2 := isReg_iff.1 hv2
  have K1 := hide k1
  have K2 := hide k2
  clear k1 k2
  go_enter Try.func85, Try.ntmps85
  go_wp2_with fail
  go_at_call 30
  refine (impl_IsRegion l _ _ _ h hn).mono ?_
  rintro e w1 ⟨rfl, hb1⟩
  go_wp2_with fail
  go_at_call 30
  refine (impl_IsRegion m _ _ _ (h'.kept hb1) hn').mono ?_
  rintro e w2 ⟨rfl, hb2⟩
  go_wp2_with fail
  go_at_call 88
  refine (impl_cellsOf l _ _ _ ((h.kept hb1).kept hb2) (by have := K1.out.1; omega)).mono ?_
  rintro e w3 ⟨b1, rfl, _, r1, hb3⟩
  go_wp2_with fail
  go_at_call 88
  refine (impl_cellsOf m _ _ _ (((h'.kept hb1).kept hb2).kept hb3) (by have := K2.out.1; omega)).mono ?_
  rintro e w4 ⟨b2, rfl, _, r2, hb4⟩
  have hbl := bel_trans (bel3 hb1 hb2 hb3) hb4
  replace r1 := rowIs_kept r1 hb4
  have q1 := r1.lt
  have q2 := r2.lt
  have hz := zero_rowF w4
  clear hv hv2 h h' hb1 hb2 hb3 hb4
  obtain ⟨g1, hg1⟩ : ∃ g1, g1 = bitsOf l := ⟨_, rfl⟩
  obtain ⟨g2, hg2⟩ : ∃ g2, g2 = bitsOf m := ⟨_, rfl⟩
  rw [← hg1] at r1
  rw [← hg2] at r2
  have HG1 := hide hg1
  have HG2 := hide hg2
  clear hg1 hg2
  go_wp2_with fail
  go_loopw [26] (fun s wr => ∃ (i : Nat) (f : Grid), i ≤ 80 ∧ s = .int .i64 i ∧ wr.rowIs w4.heap.size 103 6400 (gv f) ∧ (∀ u v, u < i → v < 80 → f u v = opG 8 g1 g2 u v) ∧ Below w4.heap.size w4 wr) (fun s _ => 80 - (intOf s).toNat)
  case atStart => exact ⟨0, _, Nat.zero_le _, rfl, hz, fun u v hu => absurd hu (by omega), (by repeat (first | with_reducible exact Below.refl _ _ | with_reducible assumption | with_reducible refine bel_alloc ?_ _ | with_reducible refine bel_drew ?_ | with_reducible refine bel_drewN ?_ _ | with_reducible refine bel_set ?_ (by (try simp) <;> omega) _ | with_reducible refine bel_trans ?_ (by assumption)))⟩
  case round =>
    obtain ⟨i, f, hi, rfl, hrow, hf, hbz⟩ := hrel
    have HF := hide hf
    clear hf hz
    by_cases hy : i < 80
    · have hyI : (i : Int) < 80 := by omega
      have hyJ : (0 : Int) ≤ (i : Int) := Int.natCast_nonneg _
      go_wp2_with fail
      go_loopw [29] (fun s wr => ∃ (k : Nat) (f : Grid), k ≤ 80 ∧ s = .int .i64 k ∧ wr.rowIs w4.heap.size 103 6400 (gv f) ∧ (∀ u v, (u < i ∨ u = i ∧ v < k) → v < 80 → f u v = opG 8 g1 g2 u v) ∧ Below w4.heap.size w4 wr) (fun s _ => 80 - (intOf s).toNat)
      case atStart => exact ⟨0, f, Nat.zero_le _, rfl, hrow, fun u v hu hv => HF.out u v (by omega) hv, hbz⟩
      case round =>
        obtain ⟨k, f2, hk, rfl, hrow2, hf2, hbz2⟩ := hrel
        have HF2 := hide hf2
        clear hf2 hrow
        by_cases hx : k < 80
        · have hxI : (k : Int) < 80 := by omega
          have hxJ : (0 : Int) ≤ (k : Int) := Int.natCast_nonneg _
          have e1 : _root_.Go.World.rowIs _ b1 103 6400 (gv g1) := r1.of_block (hbz2.block b1 q1)
          have e2 : _root_.Go.World.rowIs _ b2 103 6400 (gv g2) := r2.of_block (hbz2.block b2 q2)
          have d1 := e1.cell (i := i * 80 + k) (by omega)
          have d2 := e2.cell (i := i * 80 + k) (by omega)
          have d3 := hrow2.cell (i := i * 80 + k) (by omega)
          have d4 := hrow2.frozen (i * 80 + k)
          rw [gv_at _ hx] at d1 d2
          have hop : opG 8 g1 g2 i k = opB 8 (g1 i k) (g2 i k) := rfl
          generalize g1 i k = p at d1 hop
          generalize g2 i k = q at d2 hop
          have HOP := hide hop
          clear hop e1 e2
          go_wp2_with fail
          go_still_tail 22, (by kernel_rfl)
          still_call ((impl_Intersection1 p q _).mono fun _ _ h => ⟨h.1, h.2.symm⟩)
          repeat still_step
          try refine wpStill_nil ?_
          change wpList _ _ _ _ _ (World.drew _)
          go_wp2_with fail
          go_roundw
          case rel =>
            refine ⟨k + 1, upd f2 i k (opB 8 p q), by omega, by go_num, (row_upd hrow2 hx _).drew, fun u v hu hv => ?_, (hbz2.setCell (Nat.le_refl _) _).drew⟩
            by_cases e : u = i ∧ v = k
            · obtain ⟨rfl, rfl⟩ := e
              rw [upd_same, HOP.out]
            · rw [upd_other e]
              exact HF2.out u v (by omega) hv
          case measure => simp [intOf]; omega
        · go_wp2_with fail
          go_roundw
          case rel => exact ⟨i + 1, f2, by omega, by go_num, hrow2, fun u v hu hv => HF2.out u v (by omega) hv, hbz2⟩
          case measure => simp [intOf]; omega
    · go_wp2_with fail
      go_at_call 89
      refine ((impl_region _ _ _ _ hrow).mono fun _ _ => retS_of).mono ?_
      rintro e w5 ⟨a5, c5, rfl, ho5, hb5⟩
      have hge : GEq f (opG 8 (bitsOf l) (bitsOf m)) := fun u v hu hv => by
        rw [HF.out u v (by omega) hv, HG1.out, HG2.out]
      rw [regionL_congr hge] at ho5 ⊢
      have hbz3 := bel_trans hbl hbz
      go_wp2_with fail
      go_ret
      exact ⟨a5, c5, rfl, own_base ho5 hbz3.size, bel_trans hbz3 hb5⟩
set_option maxRecDepth 100000 in
set_option maxHeartbeats 400000 in
theorem impl_Intersection (l m : List Rc) (a a' : Option Addr) (cap cap' : Nat) (w : World) (h : RectsAt w.heap.size w a l) (h' : RectsAt w.heap.size w a' m) (hn : l.length ≤ 2000000) (hn' : m.length ≤ 2000000) :
    Calls Try.prog 35 #[.slice a l.length cap, .slice a' m.length cap'] w (RetS w (opR 8 l m)) := by
  go_enter Try.func35, Try.ntmps35
  go_wp2_with fail
  go_at_call 85
  refine (impl_combine_Intersection l m _ _ _ _ _ h h' hn hn').mono ?_
  rintro e w1 ⟨a1, c1, rfl, ho1, hb1⟩
  go_wp2_with fail
  go_ret
  exact ⟨a1, c1, rfl, ho1, hb1⟩
set_option maxRecDepth 100000 in
set_option maxHeartbeats 400000 in
theorem impl_Difference1 (p q : Bool) (w : World) : Calls Try.prog 109 #[.bool p, .bool q] w fun e w' => e = .returned (.bool (opB 4 p q)) ∧ w = w' := by
  cases p <;> cases q
  all_goals
    go_enter Try.func109, Try.ntmps109
    go_wp2
    go_ret
    exact ⟨rfl, rfl⟩
set_option maxRecDepth 100000 in
set_option maxHeartbeats 3200000 in
theorem impl_combine_Difference (l m : List Rc) (a a' : Option Addr) (cap cap' : Nat) (w : World) (h : RectsAt w.heap.size w a l) (h' : RectsAt w.heap.size w a' m) (hn : l.length ≤ 2000000) (hn' : m.length ≤ 2000000) :
    Calls Try.prog 85 #[.slice a l.length cap, .slice a' m.length cap', .func (Fn.func 109) #[] #[]] w (RetS w (opR 4 l m)) := by
  cases hv : isReg l
  · rw [opR_no (by rw [hv]; rfl)]
    go_enter Try.func85, Try.ntmps85
    go_wp2_with fail
    go_at_call 30
    refine (impl_IsRegion l _ _ _ h hn).mono ?_
    rintro e w1 ⟨rfl, hb1⟩
    go_wp2_with fail
    go_ret
    exact retS_nil rfl hb1
  cases hv2 : isReg m
  · rw [opR_no (by rw [hv, hv2]; rfl)]
    go_enter Try.func85, Try.ntmps85
    go_wp2_with fail
    go_at_call 30
    refine (impl_IsRegion l _ _ _ h hn).mono ?_
    rintro e w1 ⟨rfl, hb1⟩
    go_wp2_with fail
    go_at_call 30
    refine (impl_IsRegion m _ _ _ (h'.kept hb1) hn').mono ?_
    rintro e w2 ⟨rfl, hb2⟩
    go_wp2_with fail
    go_ret
    exact retS_nil rfl (bel_trans hb1 hb2)
  rw [opR_ok (by rw [hv, hv2]; rfl)]
  have k1 := isReg_iff.1 hv
  have k2 := isReg_iff.1 hv2
  have K1 := hide k1
  have K2 := hide k2
  clear k1 k2
  go_enter Try.func85, Try.ntmps85
  go_wp2_with fail
  go_at_call 30
  refine (impl_IsRegion l _ _ _ h hn).mono ?_
  rintro e w1 ⟨rfl, hb1⟩
  go_wp2_with fail
  go_at_call 30
  refine (impl_IsRegion m _ _ _ (h'.kept hb1) hn').mono ?_
  rintro e w2 ⟨rfl, hb2⟩
  go_wp2_with fail
  go_at_call 88
  refine (impl_cellsOf l _ _ _ ((h.kept hb1).kept hb2) (by have := K1.out.1; omega)).mono ?_
  rintro e w3 ⟨b1, rfl, _, r1, hb3⟩
  go_wp2_with fail
  go_at_call 88
  refine (impl_cellsOf m _ _ _ (((h'.kept hb1).kept hb2).kept hb3) (by have := K2.out.1; omega)).mono ?_
  rintro e w4 ⟨b2, rfl, _, r2, hb4⟩
  have hbl := bel_trans (bel3 hb1 hb2 hb3) hb4
  replace r1 := rowIs_kept r1 hb4
  have q1 := r1.lt
  have q2 := r2.lt
  have hz := zero_rowF w4
  clear hv hv2 h h' hb1 hb2 hb3 hb4
  obtain ⟨g1, hg1⟩ : ∃ g1, g1 = bitsOf l := ⟨_, rfl⟩
  obtain ⟨g2, hg2⟩ : ∃ g2, g2 = bitsOf m := ⟨_, rfl⟩
  rw [← hg1] at r1
  rw [← hg2] at r2
  have HG1 := hide hg1
  have HG2 := hide hg2
  clear hg1 hg2
  go_wp2_with fail
  go_loopw [26] (fun s wr => ∃ (i : Nat) (f : Grid), i ≤ 80 ∧ s = .int .i64 i ∧ wr.rowIs w4.heap.size 103 6400 (gv f) ∧ (∀ u v, u < i → v < 80 → f u v = opG 4 g1 g2 u v) ∧ Below w4.heap.size w4 wr) (fun s _ => 80 - (intOf s).toNat)
  case atStart => exact ⟨0, _, Nat.zero_le _, rfl, hz, fun u v hu => absurd hu (by omega), (by repeat (first | with_reducible exact Below.refl _ _ | with_reducible assumption | with_reducible refine bel_alloc ?_ _ | with_reducible refine bel_drew ?_ | with_reducible refine bel_drewN ?_ _ | with_reducible refine bel_set ?_ (by (try simp) <;> omega) _ | with_reducible refine bel_trans ?_ (by assumption)))⟩
  case round =>
    obtain ⟨i, f, hi, rfl, hrow, hf, hbz⟩ := hrel
    have HF := hide hf
    clear hf hz
    by_cases hy : i < 80
    · have hyI : (i : Int) < 80 := by omega
      have hyJ : (0 : Int) ≤ (i : Int) := Int.natCast_nonneg _
      go_wp2_with fail
      go_loopw [29] (fun s wr => ∃ (k : Nat) (f : Grid), k ≤ 80 ∧ s = .int .i64 k ∧ wr.rowIs w4.heap.size 103 6400 (gv f) ∧ (∀ u v, (u < i ∨ u = i ∧ v < k) → v < 80 → f u v = opG 4 g1 g2 u v) ∧ Below w4.heap.size w4 wr) (fun s _ => 80 - (intOf s).toNat)
      case atStart => exact ⟨0, f, Nat.zero_le _, rfl, hrow, fun u v hu hv => HF.out u v (by omega) hv, hbz⟩
      case round =>
        obtain ⟨k, f2, hk, rfl, hrow2, hf2, hbz2⟩ := hrel
        have HF2 := hide hf2
        clear hf2 hrow
        by_cases hx : k < 80
        · have hxI : (k : Int) < 80 := by omega
          have hxJ : (0 : Int) ≤ (k : Int) := Int.natCast_nonneg _
          have e1 : _root_.Go.World.rowIs _ b1 103 6400 (gv g1) := r1.of_block (hbz2.block b1 q1)
          have e2 : _root_.Go.World.rowIs _ b2 103 6400 (gv g2) := r2.of_block (hbz2.block b2 q2)
          have d1 := e1.cell (i := i * 80 + k) (by omega)
          have d2 := e2.cell (i := i * 80 + k) (by omega)
          have d3 := hrow2.cell (i := i * 80 + k) (by omega)
          have d4 := hrow2.frozen (i * 80 + k)
          rw [gv_at _ hx] at d1 d2
          have hop : opG 4 g1 g2 i k = opB 4 (g1 i k) (g2 i k) := rfl
          generalize g1 i k = p at d1 hop
          generalize g2 i k = q at d2 hop
          have HOP := hide hop
          clear hop e1 e2
          go_wp2_with fail
          go_still_tail 22, (by kernel_rfl)
          still_call ((impl_Difference1 p q _).mono fun _ _ h => ⟨h.1, h.2.symm⟩)
          repeat still_step
          try refine wpStill_nil ?_
          change wpList _ _ _ _ _ (World.drew _)
          go_wp2_with fail
          go_roundw
          case rel =>
            refine ⟨k + 1, upd f2 i k (opB 4 p q), by omega, by go_num, (row_upd hrow2 hx _).drew, fun u v hu hv => ?_, (hbz2.setCell (Nat.le_refl _) _).drew⟩
            by_cases e : u = i ∧ v = k
            · obtain ⟨rfl, rfl⟩ := e
              rw [upd_same, HOP.out]
            · rw [upd_other e]
              exact HF2.out u v (by omega) hv
          case measure => simp [intOf]; omega
        · go_wp2_with fail
          go_roundw
          case rel => exact ⟨i + 1, f2, by omega, by go_num, hrow2, fun u v hu hv => HF2.out u v (by omega) hv, hbz2⟩
          case measure => simp [intOf]; omega
    · go_wp2_with fail
      go_at_call 89
      refine ((impl_region _ _ _ _ hrow).mono fun _ _ => retS_of).mono ?_
      rintro e w5 ⟨a5, c5, rfl, ho5, hb5⟩
      have hge : GEq f (opG 4 (bitsOf l) (bitsOf m)) := fun u v hu hv => by
        rw [HF.out u v (by omega) hv, HG1.out, HG2.out]
      rw [regionL_congr hge] at ho5 ⊢
      have hbz3 := bel_trans hbl hbz
      go_wp2_with fail
      go_ret
      exact ⟨a5, c5, rfl, own_base ho5 hbz3.size, bel_trans hbz3 hb5⟩
set_option maxRecDepth 100000 in
set_option maxHeartbeats 400000 in
theorem impl_Difference (l m : List Rc) (a a' : Option Addr) (cap cap' : Nat) (w : World) (h : RectsAt w.heap.size w a l) (h' : RectsAt w.heap.size w a' m) (hn : l.length ≤ 2000000) (hn' : m.length ≤ 2000000) :
    Calls Try.prog 51 #[.slice a l.length cap, .slice a' m.length cap'] w (RetS w (opR 4 l m)) := by
  go_enter Try.func51, Try.ntmps51
  go_wp2_with fail
  go_at_call 85
  refine (impl_combine_Difference l m _ _ _ _ _ h h' hn hn').mono ?_
  rintro e w1 ⟨a1, c1, rfl, ho1, hb1⟩
  go_wp2_with fail
  go_ret
  exact ⟨a1, c1, rfl, ho1, hb1⟩
set_option maxRecDepth 100000 in
set_option maxHeartbeats 400000 in
theorem impl_SymmetricDifference1 (p q : Bool) (w : World) : Calls Try.prog 111 #[.bool p, .bool q] w fun e w' => e = .returned (.bool (opB 6 p q)) ∧ w = w' := by
  cases p <;> cases q
  all_goals
    go_enter Try.func111, Try.ntmps111
    go_wp2
    go_ret
    exact ⟨rfl, rfl⟩
set_option maxRecDepth 100000 in
set_option maxHeartbeats 3200000 in
theorem impl_combine_SymmetricDifference (l m : List Rc) (a a' : Option Addr) (cap cap' : Nat) (w : World) (h : RectsAt w.heap.size w a l) (h' : RectsAt w.heap.size w a' m) (hn : l.length ≤ 2000000) (hn' : m.length ≤ 2000000) :
    Calls Try.prog 85 #[.slice a l.length cap, .slice a' m.length cap', .func (Fn.func 111) #[] #[]] w (RetS w (opR 6 l m)) := by
  cases hv : isReg l
  · rw [opR_no (by rw [hv]; rfl)]
    go_enter Try.func85, Try.ntmps85
    go_wp2_with fail
    go_at_call 30
    refine (impl_IsRegion l _ _ _ h hn).mono ?_
    rintro e w1 ⟨rfl, hb1⟩
    go_wp2_with fail
    go_ret
    exact retS_nil rfl hb1
  cases hv2 : isReg m
  · rw [opR_no (by rw [hv, hv2]; rfl)]
    go_enter Try.func85, Try.ntmps85
    go_wp2_with fail
    go_at_call 30
    refine (impl_IsRegion l _ _ _ h hn).mono ?_
    rintro e w1 ⟨rfl, hb1⟩
    go_wp2_with fail
    go_at_call 30
    refine (impl_IsRegion m _ _ _ (h'.kept hb1) hn').mono ?_
    rintro e w2 ⟨rfl, hb2⟩
    go_wp2_with fail
    go_ret
    exact retS_nil rfl (bel_trans hb1 hb2)
  rw [opR_ok (by rw [hv, hv2]; rfl)]
  have k1 := isReg_iff.1 hv
  have k2 := isReg_iff.1 hv2
  have K1 := hide k1
  have K2 := hide k2
  clear k1 k2
  go_enter Try.func85, Try.ntmps85
  go_wp2_with fail
  go_at_call 30
  refine (impl_IsRegion l _ _ _ h hn).mono ?_
  rintro e w1 ⟨rfl, hb1⟩
  go_wp2_with fail
  go_at_call 30
  refine (impl_IsRegion m _ _ _ (h'.kept hb1) hn').mono ?_
  rintro e w2 ⟨rfl, hb2⟩
  go_wp2_with fail
  go_at_call 88
  refine (impl_cellsOf l _ _ _ ((h.kept hb1).kept hb2) (by have := K1.out.1; omega)).mono ?_
  rintro e w3 ⟨b1, rfl, _, r1, hb3⟩
  go_wp2_with fail
  go_at_call 88
  refine (impl_cellsOf m _ _ _ (((h'.kept hb1).kept hb2).kept hb3) (by have := K2.out.1; omega)).mono ?_
  rintro e w4 ⟨b2, rfl, _, r2, hb4⟩
  have hbl := bel_trans (bel3 hb1 hb2 hb3) hb4
  replace r1 := rowIs_kept r1 hb4
  have q1 := r1.lt
  have q2 := r2.lt
  have hz := zero_rowF w4
  clear hv hv2 h h' hb1 hb2 hb3 hb4
  obtain ⟨g1, hg1⟩ : ∃ g1, g1 = bitsOf l := ⟨_, rfl⟩
  obtain ⟨g2, hg2⟩ : ∃ g2, g2 = bitsOf m := ⟨_, rfl⟩
  rw [← hg1] at r1
  rw [← hg2] at r2
  have HG1 := hide hg1
  have HG2 := hide hg2
  clear hg1 hg2
  go_wp2_with fail
  go_loopw [26] (fun s wr => ∃ (i : Nat) (f : Grid), i ≤ 80 ∧ s = .int .i64 i ∧ wr.rowIs w4.heap.size 103 6400 (gv f) ∧ (∀ u v, u < i → v < 80 → f u v = opG 6 g1 g2 u v) ∧ Below w4.heap.size w4 wr) (fun s _ => 80 - (intOf s).toNat)
  case atStart => exact ⟨0, _, Nat.zero_le _, rfl, hz, fun u v hu => absurd hu (by omega), (by repeat (first | with_reducible exact Below.refl _ _ | with_reducible assumption | with_reducible refine bel_alloc ?_ _ | with_reducible refine bel_drew ?_ | with_reducible refine bel_drewN ?_ _ | with_reducible refine bel_set ?_ (by (try simp) <;> omega) _ | with_reducible refine bel_trans ?_ (by assumption)))⟩
  case round =>
    obtain ⟨i, f, hi, rfl, hrow, hf, hbz⟩ := hrel
    have HF := hide hf
    clear hf hz
    by_cases hy : i < 80
    · have hyI : (i : Int) < 80 := by omega
      have hyJ : (0 : Int) ≤ (i : Int) := Int.natCast_nonneg _
      go_wp2_with fail
      go_loopw [29] (fun s wr => ∃ (k : Nat) (f : Grid), k ≤ 80 ∧ s = .int .i64 k ∧ wr.rowIs w4.heap.size 103 6400 (gv f) ∧ (∀ u v, (u < i ∨ u = i ∧ v < k) → v < 80 → f u v = opG 6 g1 g2 u v) ∧ Below w4.heap.size w4 wr) (fun s _ => 80 - (intOf s).toNat)
      case atStart => exact ⟨0, f, Nat.zero_le _, rfl, hrow, fun u v hu hv => HF.out u v (by omega) hv, hbz⟩
      case round =>
        obtain ⟨k, f2, hk, rfl, hrow2, hf2, hbz2⟩ := hrel
        have HF2 := hide hf2
        clear hf2 hrow
        by_cases hx : k < 80
        · have hxI : (k : Int) < 80 := by omega
          have hxJ : (0 : Int) ≤ (k : Int) := Int.natCast_nonneg _
          have e1 : _root_.Go.World.rowIs _ b1 103 6400 (gv g1) := r1.of_block (hbz2.block b1 q1)
          have e2 : _root_.Go.World.rowIs _ b2 103 6400 (gv g2) := r2.of_block (hbz2.block b2 q2)
          have d1 := e1.cell (i := i * 80 + k) (by omega)
          have d2 := e2.cell (i := i * 80 + k) (by omega)
          have d3 := hrow2.cell (i := i * 80 + k) (by omega)
          have d4 := hrow2.frozen (i * 80 + k)
          rw [gv_at _ hx] at d1 d2
          have hop : opG 6 g1 g2 i k = opB 6 (g1 i k) (g2 i k) := rfl
          generalize g1 i k = p at d1 hop
          generalize g2 i k = q at d2 hop
          have HOP := hide hop
          clear hop e1 e2
          go_wp2_with fail
          go_still_tail 22, (by kernel_rfl)
          still_call ((impl_SymmetricDifference1 p q _).mono fun _ _ h => ⟨h.1, h.2.symm⟩)
          repeat still_step
          try refine wpStill_nil ?_
          change wpList _ _ _ _ _ (World.drew _)
          go_wp2_with fail
          go_roundw
          case rel =>
            refine ⟨k + 1, upd f2 i k (opB 6 p q), by omega, by go_num, (row_upd hrow2 hx _).drew, fun u v hu hv => ?_, (hbz2.setCell (Nat.le_refl _) _).drew⟩
            by_cases e : u = i ∧ v = k
            · obtain ⟨rfl, rfl⟩ := e
              rw [upd_same, HOP.out]
            · rw [upd_other e]
              exact HF2.out u v (by omega) hv
          case measure => simp [intOf]; omega
        · go_wp2_with fail
          go_roundw
          case rel => exact ⟨i + 1, f2, by omega, by go_num, hrow2, fun u v hu hv => HF2.out u v (by omega) hv, hbz2⟩
          case measure => simp [intOf]; omega
    · go_wp2_with fail
      go_at_call 89
      refine ((impl_region _ _ _ _ hrow).mono fun _ _ => retS_of).mono ?_
      rintro e w5 ⟨a5, c5, rfl, ho5, hb5⟩
      have hge : GEq f (opG 6 (bitsOf l) (bitsOf m)) := fun u v hu hv => by
        rw [HF.out u v (by omega) hv, HG1.out, HG2.out]
      rw [regionL_congr hge] at ho5 ⊢
      have hbz3 := bel_trans hbl hbz
      go_wp2_with fail
      go_ret
      exact ⟨a5, c5, rfl, own_base ho5 hbz3.size, bel_trans hbz3 hb5⟩
set_option maxRecDepth 100000 in
set_option maxHeartbeats 400000 in
theorem impl_SymmetricDifference (l m : List Rc) (a a' : Option Addr) (cap cap' : Nat) (w : World) (h : RectsAt w.heap.size w a l) (h' : RectsAt w.heap.size w a' m) (hn : l.length ≤ 2000000) (hn' : m.length ≤ 2000000) :
    Calls Try.prog 53 #[.slice a l.length cap, .slice a' m.length cap'] w (RetS w (opR 6 l m)) := by
  go_enter Try.func53, Try.ntmps53
  go_wp2_with fail
  go_at_call 85
  refine (impl_combine_SymmetricDifference l m _ _ _ _ _ h h' hn hn').mono ?_
  rintro e w1 ⟨a1, c1, rfl, ho1, hb1⟩
  go_wp2_with fail
  go_ret
  exact ⟨a1, c1, rfl, ho1, hb1⟩
set_option maxRecDepth 100000 in
set_option maxHeartbeats 3200000 in
theorem impl_not (g1 : Grid) (b1 t1 : Nat) (w4 : World) (r1 : w4.rowIs b1 t1 6400 (gv g1)) : Calls Try.prog 110 #[.pointer (some ⟨b1, 0, none⟩)] w4
    fun e w' => ∃ b, e = .returned (.pointer (some ⟨b, 0, none⟩)) ∧ w4.heap.size ≤ b ∧ w'.rowIs b 103 6400 (gv (notG g1)) ∧ Below w4.heap.size w4 w' := by
  have q1 := r1.lt
  have hz := zero_rowF w4
  go_enter Try.func110, Try.ntmps110
  go_wp2_with fail
  go_loopw [8] (fun s wr => ∃ (i : Nat) (f : Grid), i ≤ 80 ∧ s = .int .i64 i ∧ wr.rowIs w4.heap.size 103 6400 (gv f) ∧ (∀ u v, u < i → v < 80 → f u v = notG g1 u v) ∧ Below w4.heap.size w4 wr) (fun s _ => 80 - (intOf s).toNat)
  case atStart => exact ⟨0, _, Nat.zero_le _, rfl, hz, fun u v hu => absurd hu (by omega), (by repeat (first | with_reducible exact Below.refl _ _ | with_reducible assumption | with_reducible refine bel_alloc ?_ _ | with_reducible refine bel_drew ?_ | with_reducible refine bel_drewN ?_ _ | with_reducible refine bel_set ?_ (by (try simp) <;> omega) _ | with_reducible refine bel_trans ?_ (by assumption)))⟩
  case round =>
    obtain ⟨i, f, hi, rfl, hrow, hf, hbz⟩ := hrel
    have HF := hide hf
    clear hf hz
    by_cases hy : i < 80
    · have hyI : (i : Int) < 80 := by omega
      have hyJ : (0 : Int) ≤ (i : Int) := Int.natCast_nonneg _
      go_wp2_with fail
      go_loopw [11] (fun s wr => ∃ (k : Nat) (f : Grid), k ≤ 80 ∧ s = .int .i64 k ∧ wr.rowIs w4.heap.size 103 6400 (gv f) ∧ (∀ u v, (u < i ∨ u = i ∧ v < k) → v < 80 → f u v = notG g1 u v) ∧ Below w4.heap.size w4 wr) (fun s _ => 80 - (intOf s).toNat)
      case atStart => exact ⟨0, f, Nat.zero_le _, rfl, hrow, fun u v hu hv => HF.out u v (by omega) hv, hbz⟩
      case round =>
        obtain ⟨k, f2, hk, rfl, hrow2, hf2, hbz2⟩ := hrel
        have HF2 := hide hf2
        clear hf2 hrow
        by_cases hx : k < 80
        · have hxI : (k : Int) < 80 := by omega
          have hxJ : (0 : Int) ≤ (k : Int) := Int.natCast_nonneg _
          have e1 : _root_.Go.World.rowIs _ b1 t1 6400 (gv g1) := r1.of_block (hbz2.block b1 q1)
          have d1 := e1.cell (i := i * 80 + k) (by omega)
          have d3 := hrow2.cell (i := i * 80 + k) (by omega)
          have d4 := hrow2.frozen (i * 80 + k)
          rw [gv_at _ hx] at d1
          have hop : notG g1 i k = !(g1 i k) := rfl
          generalize g1 i k = p at d1 hop
          have HOP := hide hop
          clear hop e1
          go_wp2_with fail
          go_still_tail 14, (by kernel_rfl)
          change wpList _ _ _ _ _ (World.drew _)
          go_wp2_with fail
          go_roundw
          case rel =>
            refine ⟨k + 1, upd f2 i k (!p), by omega, by go_num, (row_upd hrow2 hx _).drew, fun u v hu hv => ?_, (hbz2.setCell (Nat.le_refl _) _).drew⟩
            by_cases e : u = i ∧ v = k
            · obtain ⟨rfl, rfl⟩ := e
              rw [upd_same, HOP.out]
            · rw [upd_other e]
              exact HF2.out u v (by omega) hv
          case measure => simp [intOf]; omega
        · go_wp2_with fail
          go_roundw
          case rel => exact ⟨i + 1, f2, by omega, by go_num, hrow2, fun u v hu hv => HF2.out u v (by omega) hv, hbz2⟩
          case measure => simp [intOf]; omega
    · go_wp2_with fail
      go_ret
      refine ⟨_, rfl, Nat.le_refl _, hrow.congr fun n hn => ?_, hbz⟩
      simp only [gv]
      rw [HF.out (n / 80) (n % 80) (by omega) (by omega)]
set_option maxRecDepth 100000 in
set_option maxHeartbeats 800000 in
theorem impl_Complement (l : List Rc) (a : Option Addr) (cap : Nat) (w : World) (h : RectsAt w.heap.size w a l) (hn : l.length ≤ 2000000) :
    Calls Try.prog 52 #[.slice a l.length cap] w (RetS w (compR l)) := by
  cases hv : isReg l
  · rw [show compR l = [] from by simp [compR, hv]]
    go_enter Try.func52, Try.ntmps52
    go_wp2_with fail
    go_at_call 30
    refine (impl_IsRegion l _ _ _ h hn).mono ?_
    rintro e w1 ⟨rfl, hb1⟩
    go_wp2_with fail
    go_ret
    exact retS_nil rfl hb1
  · rw [show compR l = regionL (notG (bitsOf l)) from by simp [compR, hv]]
    have k1 := isReg_iff.1 hv
    have K1 := hide k1
    clear k1
    go_enter Try.func52, Try.ntmps52
    go_wp2_with fail
    go_at_call 30
    refine (impl_IsRegion l _ _ _ h hn).mono ?_
    rintro e w1 ⟨rfl, hb1⟩
    go_wp2_with fail
    go_at_call 88
    refine (impl_cellsOf l _ _ _ (h.kept hb1) (by have := K1.out.1; omega)).mono ?_
    rintro e w2 ⟨b2, rfl, _, r2, hb2⟩
    go_wp2_with fail
    go_at_call 110
    refine (impl_not _ _ _ _ r2).mono ?_
    rintro e w3 ⟨b3, rfl, _, r3, hb3⟩
    go_wp2_with fail
    go_at_call 89
    refine ((impl_region _ _ _ _ r3).mono fun _ _ => retS_of).mono ?_
    rintro e w4 ⟨a4, c4, rfl, ho4, hb4⟩
    go_wp2_with fail
    go_ret
    exact ⟨a4, c4, rfl, own_base ho4 (bel3 hb1 hb2 hb3).size, bel_trans (bel3 hb1 hb2 hb3) hb4⟩
end Go.Proofs.Ytldgjocjcbhkmaa
