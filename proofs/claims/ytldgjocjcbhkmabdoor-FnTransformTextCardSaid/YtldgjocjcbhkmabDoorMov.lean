/- Contracts of the functions that move points and rectangles. -/
import Derived.Test.YtldgjocjcbhkmabDoorOri
namespace Go.Proofs.YtldgjocjcbhkmabDoor
open Go.RowKit
attribute [local go_sem high] run_max2 run_min2 run_max3 run_max4
attribute [local go_sem low] cell_alloc_ite frozen_alloc_ite

set_option maxRecDepth 100000 in
set_option maxHeartbeats 800000 in
theorem impl_turn (o x y : Int) (ho : 0 ≤ o ∧ o ≤ 7) (hx : small x) (hy : small y) (w : World) :
    Calls Tryd.prog 29 #[.int .i64 o, .agg #[.int .i64 (x), .int .i64 (y)]] w fun e w' => e = .returned (.agg #[.int .i64 (turnX o x y), .int .i64 (turnY o x y)]) ∧ Below w.heap.size w w' := by
  obtain ⟨ho1, ho2⟩ := ho
  have hb := rot_small hx (mir_small (o := o) hy)
  have hmx := hx
  have hmy := hy
  unfold small at hmx hmy
  obtain ⟨x1, x2⟩ := hmx
  obtain ⟨y1, y2⟩ := hmy
  have hm : (4 ≤ o ∧ mir o y = -y) ∨ (o < 4 ∧ mir o y = y) := by unfold mir; split <;> omega
  have HB := hide hb
  have HM := hide hm
  clear hb hm hx hy
  obtain ⟨r, hr1, hr2⟩ : ∃ r : Nat, (r : Int) ≤ o % 4 ∧ o % 4 ≤ r := ⟨(o % 4).toNat, by omega, by omega⟩
  have hr3 : r ≤ 3 := by omega
  go_enter Tryd.func29, Tryd.ntmps29
  by_cases h4 : 4 ≤ o
  · go_wp2_with fail
    go_loopw [5] (fun sk wr => ∃ j : Nat, j ≤ r ∧ sk = .int .i64 j ∧ wr = (w.alloc (.cells #[.int .i64 (rotX (r - j) x (mir o y)), .int .i64 (rotY (r - j) x (mir o y))] 37)).alloc (.cells #[.int .i64 0, .int .i64 0] 37)) (fun k _ => (intOf k).toNat)
    case atStart => exact ⟨r, Nat.le_refl _, by go_num, by have := HM.out; rw [show r - r = 0 from by omega]; simp only [rotX, rotY, rotP]; rw [show mir o y = -y from by omega]⟩
    case round =>
      obtain ⟨j, hj, rfl, rfl⟩ := hrel
      have hb := HB.out (r - j)
      unfold small at hb
      obtain ⟨⟨b1, b2⟩, b3, b4⟩ := hb
      by_cases hj0 : 0 < j
      · go_wp2
        go_roundw
        case rel => exact ⟨j - 1, by omega, by go_num, by rw [show r - (j - 1) = (r - j) + 1 from by omega, rotX_succ, rotY_succ]⟩
        case measure => simp [intOf]; omega
      · go_wp2
        refine bodyPost_ret (v := .agg #[.int .i64 (rotX (r - j) x (mir o y)), .int .i64 (rotY (r - j) x (mir o y))]) (by first | (simp [results, Tryd.results29, go_sem, *]; done) | simp [results, Tryd.results29, go_sem, *, ↓IntWalk.iteOmega]) rfl ⟨?_, (by repeat (first | with_reducible exact Below.refl _ _ | with_reducible assumption | with_reducible refine bel_alloc ?_ _ | with_reducible refine bel_drew ?_ | with_reducible refine bel_drewN ?_ _ | with_reducible refine bel_set ?_ (by (try simp) <;> omega) _ | with_reducible refine bel_trans ?_ (by assumption)))⟩
        rw [turnX, turnY, show (o % 4).toNat = r - j from by omega]
  · go_wp2_with fail
    go_loopw [5] (fun sk wr => ∃ j : Nat, j ≤ r ∧ sk = .int .i64 j ∧ wr = (w.alloc (.cells #[.int .i64 (rotX (r - j) x (mir o y)), .int .i64 (rotY (r - j) x (mir o y))] 37)).alloc (.cells #[.int .i64 0, .int .i64 0] 37)) (fun k _ => (intOf k).toNat)
    case atStart => exact ⟨r, Nat.le_refl _, by go_num, by have := HM.out; rw [show r - r = 0 from by omega]; simp only [rotX, rotY, rotP]; rw [show mir o y = y from by omega]⟩
    case round =>
      obtain ⟨j, hj, rfl, rfl⟩ := hrel
      have hb := HB.out (r - j)
      unfold small at hb
      obtain ⟨⟨b1, b2⟩, b3, b4⟩ := hb
      by_cases hj0 : 0 < j
      · go_wp2
        go_roundw
        case rel => exact ⟨j - 1, by omega, by go_num, by rw [show r - (j - 1) = (r - j) + 1 from by omega, rotX_succ, rotY_succ]⟩
        case measure => simp [intOf]; omega
      · go_wp2
        refine bodyPost_ret (v := .agg #[.int .i64 (rotX (r - j) x (mir o y)), .int .i64 (rotY (r - j) x (mir o y))]) (by first | (simp [results, Tryd.results29, go_sem, *]; done) | simp [results, Tryd.results29, go_sem, *, ↓IntWalk.iteOmega]) rfl ⟨?_, (by repeat (first | with_reducible exact Below.refl _ _ | with_reducible assumption | with_reducible refine bel_alloc ?_ _ | with_reducible refine bel_drew ?_ | with_reducible refine bel_drewN ?_ _ | with_reducible refine bel_set ?_ (by (try simp) <;> omega) _ | with_reducible refine bel_trans ?_ (by assumption)))⟩
        rw [turnX, turnY, show (o % 4).toNat = r - j from by omega]
theorem small_unfold {x : Int} (h : small x) : -100000 ≤ x ∧ x ≤ 100000 := h
theorem small_of {x : Int} (h : -1000 ≤ x ∧ x ≤ 1000) : small x := by unfold small; omega
set_option maxRecDepth 100000 in
set_option maxHeartbeats 800000 in
theorem impl_move (o tx ty x y : Int) (ho : 0 ≤ o ∧ o ≤ 7) (htx : small tx) (hty : small ty) (hx : small x) (hy : small y) (w : World) :
    Calls Tryd.prog 28 #[.agg #[.int .i64 (o), .int .i64 (tx), .int .i64 (ty)], .agg #[.int .i64 (x), .int .i64 (y)]] w fun e w' => e = .returned (.agg #[.int .i64 (turnX o x y + tx), .int .i64 (turnY o x y + ty)]) ∧ Below w.heap.size w w' := by
  have HO := hide ho
  have HX := hide hx
  have HY := hide hy
  obtain ⟨b1, b2⟩ := small_unfold (turn_small (o := o) hx hy).1
  obtain ⟨b3, b4⟩ := small_unfold (turn_small (o := o) hx hy).2
  obtain ⟨b5, b6⟩ := small_unfold htx
  obtain ⟨b7, b8⟩ := small_unfold hty
  clear ho hx hy htx hty
  go_enter Tryd.func28, Tryd.ntmps28
  go_wp2_with (go_at_call 29; refine (impl_turn _ _ _ HO.out HX.out HY.out _).mono ?_; rintro e w1 ⟨rfl, hb⟩; obtain ⟨_, _, hc, hf⟩ := bcellI hb; have hs := hb.size; (try simp at hs))
  refine bodyPost_ret (v := .agg #[.int .i64 (turnX o x y + tx), .int .i64 (turnY o x y + ty)]) (by first | (simp [results, Tryd.results28, go_sem, *]; done) | simp [results, Tryd.results28, go_sem, *, ↓IntWalk.iteOmega]) rfl ⟨rfl, (by repeat (first | with_reducible exact Below.refl _ _ | with_reducible assumption | with_reducible refine bel_alloc ?_ _ | with_reducible refine bel_drew ?_ | with_reducible refine bel_drewN ?_ _ | with_reducible refine bel_set ?_ (by (try simp) <;> omega) _ | with_reducible refine bel_trans ?_ (by assumption)))⟩
end Go.Proofs.YtldgjocjcbhkmabDoor
