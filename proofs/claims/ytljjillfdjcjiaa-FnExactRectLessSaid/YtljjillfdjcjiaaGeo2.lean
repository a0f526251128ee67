/- Contracts of the plain functions on rectangles and edges, continued. -/
import Derived.Test.YtljjillfdjcjiaaGeo
namespace Go.Proofs.Ytljjillfdjcjiaa
open Go.RowKit
attribute [local go_sem high] run_max2 run_min2 run_max3 run_max4

set_option maxHeartbeats 400000 in
theorem spec_RectsOverlap (a0 a1 a2 a3 b0 b1 b2 b3 : Int) (w : World) : Calls Try.prog 23 #[.agg #[.int .i64 a0, .int .i64 a1, .int .i64 a2, .int .i64 a3], .agg #[.int .i64 b0, .int .i64 b1, .int .i64 b2, .int .i64 b3]] w fun e w' => e = .returned (.bool (overB a0 a1 a2 a3 b0 b1 b2 b3)) ∧ Below w.heap.size w w' := by
  by_cases h1 : vRect a0 a1 a2 a3 = true
  · by_cases h2 : vRect b0 b1 b2 b3 = true
    · obtain ⟨k1, k2, k3, k4, k5, k6⟩ := vRect_iff.1 h1
      obtain ⟨l1, l2, l3, l4, l5, l6⟩ := vRect_iff.1 h2
      go_enter Try.func23, Try.ntmps23
      go_wp2_with (first
        | (go_at_call 15; refine (spec_IsValidRect _ _ _ _ _).mono ?_; rintro e w1 ⟨rfl, hb⟩; obtain ⟨hc, hf⟩ := bcell hb; have hz := sz2 (show w.heap.size + 2 ≤ w1.heap.size by have := hb.size; (try simp at this); omega))
        | (go_at_call 43; refine (spec_l02Span_in _ _ _ _ (by omega) (by omega) (by omega) (by omega) _).mono ?_; rintro e w1 ⟨rfl, rfl⟩))
      all_goals (go_ret; exact ⟨retb (by simp [overB, *] <;> omega), (by repeat (first | with_reducible exact Below.refl _ _ | with_reducible assumption | with_reducible refine bel_alloc ?_ _ | with_reducible refine bel_drew ?_ | with_reducible refine bel_drewN ?_ _ | with_reducible refine bel_set ?_ (by (try simp) <;> omega) _ | with_reducible refine bel_trans ?_ (by assumption)))⟩)
    · go_enter Try.func23, Try.ntmps23
      go_wp2_with (go_at_call 15; refine (spec_IsValidRect _ _ _ _ _).mono ?_; rintro e w1 ⟨rfl, hb⟩; obtain ⟨hc, hf⟩ := bcell hb; have hz := sz2 (show w.heap.size + 2 ≤ w1.heap.size by have := hb.size; (try simp at this); omega))
      all_goals (go_ret; exact ⟨retb (by simp [overB, *]), (by repeat (first | with_reducible exact Below.refl _ _ | with_reducible assumption | with_reducible refine bel_alloc ?_ _ | with_reducible refine bel_drew ?_ | with_reducible refine bel_drewN ?_ _ | with_reducible refine bel_set ?_ (by (try simp) <;> omega) _ | with_reducible refine bel_trans ?_ (by assumption)))⟩)
  · go_enter Try.func23, Try.ntmps23
    go_wp2_with (go_at_call 15; refine (spec_IsValidRect _ _ _ _ _).mono ?_; rintro e w1 ⟨rfl, hb⟩; obtain ⟨hc, hf⟩ := bcell hb; have hz := sz2 (show w.heap.size + 2 ≤ w1.heap.size by have := hb.size; (try simp at this); omega))
    all_goals (go_ret; exact ⟨retb (by simp [overB, *]), (by repeat (first | with_reducible exact Below.refl _ _ | with_reducible assumption | with_reducible refine bel_alloc ?_ _ | with_reducible refine bel_drew ?_ | with_reducible refine bel_drewN ?_ _ | with_reducible refine bel_set ?_ (by (try simp) <;> omega) _ | with_reducible refine bel_trans ?_ (by assumption)))⟩)

/-! ### area -/
def areaV (x0 y0 x1 y1 : Int) : Int := (x1 - x0) * (y1 - y0)
theorem areaV_bounds {x0 y0 x1 y1 : Int} (h : vRect x0 y0 x1 y1 = true) : 1 ≤ areaV x0 y0 x1 y1 ∧ areaV x0 y0 x1 y1 ≤ 6400 := by
  obtain ⟨k1, k2, k3, k4, k5, k6⟩ := vRect_iff.1 h
  unfold areaV
  obtain ⟨m, hm⟩ : ∃ m, m = x1 - x0 := ⟨_, rfl⟩
  obtain ⟨n, hn⟩ : ∃ n, n = y1 - y0 := ⟨_, rfl⟩
  rw [← hm, ← hn]
  have h1 : 1 * 1 ≤ m * n := Int.mul_le_mul (by omega) (by omega) (by omega) (by omega)
  have h2 : m * n ≤ 80 * 80 := Int.mul_le_mul (by omega) (by omega) (by omega) (by omega)
  omega
def areaF (x0 y0 x1 y1 : Int) : Int := if vRect x0 y0 x1 y1 then areaV x0 y0 x1 y1 else -1
set_option maxHeartbeats 400000 in
theorem impl_area (a0 a1 a2 a3 : Int) (h : vRect a0 a1 a2 a3 = true) (w : World) : Calls Try.prog 45 #[.agg #[.int .i64 a0, .int .i64 a1, .int .i64 a2, .int .i64 a3]] w fun e w' => e = .returned (.int .i64 (areaV a0 a1 a2 a3)) ∧ Below w.heap.size w w' := by
  have hA := areaV_bounds h
  obtain ⟨k1, k2, k3, k4, k5, k6⟩ := vRect_iff.1 h
  unfold areaV at hA
  have H := hide hA
  clear h hA
  go_enter Try.func45, Try.ntmps45
  go_wp2
  go_ret
  refine ⟨reti ?_, (by repeat (first | with_reducible exact Below.refl _ _ | with_reducible assumption | with_reducible refine bel_alloc ?_ _ | with_reducible refine bel_drew ?_ | with_reducible refine bel_drewN ?_ _ | with_reducible refine bel_set ?_ (by (try simp) <;> omega) _ | with_reducible refine bel_trans ?_ (by assumption)))⟩
  have := H.out
  exact IntWalk.wrap64_in _ (by omega)
set_option maxHeartbeats 400000 in
theorem impl_RectArea (a0 a1 a2 a3 : Int) (w : World) : Calls Try.prog 26 #[.agg #[.int .i64 a0, .int .i64 a1, .int .i64 a2, .int .i64 a3]] w fun e w' => e = .returned (.int .i64 (areaF a0 a1 a2 a3)) ∧ Below w.heap.size w w' := by
  by_cases h1 : vRect a0 a1 a2 a3 = true
  · go_enter Try.func26, Try.ntmps26
    go_wp2_with (first
      | (go_at_call 17; refine (impl_IsValidRect _ _ _ _ _).mono ?_; rintro e w1 ⟨rfl, hb⟩; obtain ⟨hc, hf⟩ := bcell hb; have hz := sz1 (show w.heap.size + 1 ≤ w1.heap.size by have := hb.size; (try simp at this); omega))
      | (go_at_call 45; refine (impl_area _ _ _ _ h1 _).mono ?_; rintro e w1 ⟨rfl, hb⟩; obtain ⟨hc, hf⟩ := bcell hb; have hz := sz1 (show w.heap.size + 1 ≤ w1.heap.size by have := hb.size; (try simp at this); omega)))
    go_ret; exact ⟨reti (by simp [areaF, h1]), (by repeat (first | with_reducible exact Below.refl _ _ | with_reducible assumption | with_reducible refine bel_alloc ?_ _ | with_reducible refine bel_drew ?_ | with_reducible refine bel_drewN ?_ _ | with_reducible refine bel_set ?_ (by (try simp) <;> omega) _ | with_reducible refine bel_trans ?_ (by assumption)))⟩
  · go_enter Try.func26, Try.ntmps26
    go_wp2_with (first
      | (go_at_call 17; refine (impl_IsValidRect _ _ _ _ _).mono ?_; rintro e w1 ⟨rfl, hb⟩; obtain ⟨hc, hf⟩ := bcell hb; have hz := sz1 (show w.heap.size + 1 ≤ w1.heap.size by have := hb.size; (try simp at this); omega)))
    go_ret; exact ⟨reti (by simp [areaF, h1]), (by repeat (first | with_reducible exact Below.refl _ _ | with_reducible assumption | with_reducible refine bel_alloc ?_ _ | with_reducible refine bel_drew ?_ | with_reducible refine bel_drewN ?_ _ | with_reducible refine bel_set ?_ (by (try simp) <;> omega) _ | with_reducible refine bel_trans ?_ (by assumption)))⟩
set_option maxHeartbeats 400000 in
theorem spec_RectArea (a0 a1 a2 a3 : Int) (w : World) : Calls Try.prog 25 #[.agg #[.int .i64 a0, .int .i64 a1, .int .i64 a2, .int .i64 a3]] w fun e w' => e = .returned (.int .i64 (areaF a0 a1 a2 a3)) ∧ Below w.heap.size w w' := by
  by_cases h1 : vRect a0 a1 a2 a3 = true
  · have hA := areaV_bounds h1
    obtain ⟨k1, k2, k3, k4, k5, k6⟩ := vRect_iff.1 h1
    unfold areaV at hA
    have H := hide hA
    clear hA
    go_enter Try.func25, Try.ntmps25
    go_wp2_with (first
      | (go_at_call 15; refine (spec_IsValidRect _ _ _ _ _).mono ?_; rintro e w1 ⟨rfl, hb⟩; obtain ⟨hc, hf⟩ := bcell hb; have hz := sz1 (show w.heap.size + 1 ≤ w1.heap.size by have := hb.size; (try simp at this); omega)))
    go_ret
    refine ⟨reti ?_, (by repeat (first | with_reducible exact Below.refl _ _ | with_reducible assumption | with_reducible refine bel_alloc ?_ _ | with_reducible refine bel_drew ?_ | with_reducible refine bel_drewN ?_ _ | with_reducible refine bel_set ?_ (by (try simp) <;> omega) _ | with_reducible refine bel_trans ?_ (by assumption)))⟩
    rw [areaF, if_pos h1]
    have := H.out
    exact IntWalk.wrap64_in _ (by omega)
  · go_enter Try.func25, Try.ntmps25
    go_wp2_with (first
      | (go_at_call 15; refine (spec_IsValidRect _ _ _ _ _).mono ?_; rintro e w1 ⟨rfl, hb⟩; obtain ⟨hc, hf⟩ := bcell hb; have hz := sz1 (show w.heap.size + 1 ≤ w1.heap.size by have := hb.size; (try simp at this); omega)))
    go_ret; exact ⟨reti (by simp [areaF, h1]), (by repeat (first | with_reducible exact Below.refl _ _ | with_reducible assumption | with_reducible refine bel_alloc ?_ _ | with_reducible refine bel_drew ?_ | with_reducible refine bel_drewN ?_ _ | with_reducible refine bel_set ?_ (by (try simp) <;> omega) _ | with_reducible refine bel_trans ?_ (by assumption)))⟩

/-! ### abutting, gaps -/
def abutB (a0 a1 a2 a3 b0 b1 b2 b3 : Int) : Bool := vRect a0 a1 a2 a3 && vRect b0 b1 b2 b3 &&
  (decide (max a0 b0 = min a2 b2 ∧ max a1 b1 < min a3 b3) || decide (max a1 b1 = min a3 b3 ∧ max a0 b0 < min a2 b2))
set_option maxHeartbeats 800000 in
theorem impl_RectsAbut (a0 a1 a2 a3 b0 b1 b2 b3 : Int) (w : World) : Calls Try.prog 28 #[.agg #[.int .i64 a0, .int .i64 a1, .int .i64 a2, .int .i64 a3], .agg #[.int .i64 b0, .int .i64 b1, .int .i64 b2, .int .i64 b3]] w fun e w' => e = .returned (.bool (abutB a0 a1 a2 a3 b0 b1 b2 b3)) ∧ Below w.heap.size w w' := by
  by_cases h1 : vRect a0 a1 a2 a3 = true
  · by_cases h2 : vRect b0 b1 b2 b3 = true
    · go_enter Try.func28, Try.ntmps28
      go_wp2_with (first
        | (go_at_call 17; refine (impl_IsValidRect _ _ _ _ _).mono ?_; rintro e w1 ⟨rfl, hb⟩; obtain ⟨hc, hf⟩ := bcell hb; have hz := sz2 (show w.heap.size + 2 ≤ w1.heap.size by have := hb.size; (try simp at this); omega))
        | (go_at_call 44; refine (impl_common _ _ _ _ _ _ _ _ _).mono ?_; rintro e w1 ⟨rfl, hb⟩; obtain ⟨hc, hf⟩ := bcell hb; have hz := sz2 (show w.heap.size + 2 ≤ w1.heap.size by have := hb.size; (try simp at this); omega)))
      all_goals (go_ret; exact ⟨retb (by simp [abutB, *] <;> omega), (by repeat (first | with_reducible exact Below.refl _ _ | with_reducible assumption | with_reducible refine bel_alloc ?_ _ | with_reducible refine bel_drew ?_ | with_reducible refine bel_drewN ?_ _ | with_reducible refine bel_set ?_ (by (try simp) <;> omega) _ | with_reducible refine bel_trans ?_ (by assumption)))⟩)
    · go_enter Try.func28, Try.ntmps28
      go_wp2_with (go_at_call 17; refine (impl_IsValidRect _ _ _ _ _).mono ?_; rintro e w1 ⟨rfl, hb⟩; obtain ⟨hc, hf⟩ := bcell hb; have hz := sz2 (show w.heap.size + 2 ≤ w1.heap.size by have := hb.size; (try simp at this); omega))
      all_goals (go_ret; exact ⟨retb (by simp [abutB, *]), (by repeat (first | with_reducible exact Below.refl _ _ | with_reducible assumption | with_reducible refine bel_alloc ?_ _ | with_reducible refine bel_drew ?_ | with_reducible refine bel_drewN ?_ _ | with_reducible refine bel_set ?_ (by (try simp) <;> omega) _ | with_reducible refine bel_trans ?_ (by assumption)))⟩)
  · go_enter Try.func28, Try.ntmps28
    go_wp2_with (go_at_call 17; refine (impl_IsValidRect _ _ _ _ _).mono ?_; rintro e w1 ⟨rfl, hb⟩; obtain ⟨hc, hf⟩ := bcell hb; have hz := sz2 (show w.heap.size + 2 ≤ w1.heap.size by have := hb.size; (try simp at this); omega))
    all_goals (go_ret; exact ⟨retb (by simp [abutB, *]), (by repeat (first | with_reducible exact Below.refl _ _ | with_reducible assumption | with_reducible refine bel_alloc ?_ _ | with_reducible refine bel_drew ?_ | with_reducible refine bel_drewN ?_ _ | with_reducible refine bel_set ?_ (by (try simp) <;> omega) _ | with_reducible refine bel_trans ?_ (by assumption)))⟩)
set_option maxHeartbeats 800000 in
theorem spec_RectsAbut (a0 a1 a2 a3 b0 b1 b2 b3 : Int) (w : World) : Calls Try.prog 27 #[.agg #[.int .i64 a0, .int .i64 a1, .int .i64 a2, .int .i64 a3], .agg #[.int .i64 b0, .int .i64 b1, .int .i64 b2, .int .i64 b3]] w fun e w' => e = .returned (.bool (abutB a0 a1 a2 a3 b0 b1 b2 b3)) ∧ Below w.heap.size w w' := by
  by_cases h1 : vRect a0 a1 a2 a3 = true
  · by_cases h2 : vRect b0 b1 b2 b3 = true
    · obtain ⟨k1, k2, k3, k4, k5, k6⟩ := vRect_iff.1 h1
      obtain ⟨l1, l2, l3, l4, l5, l6⟩ := vRect_iff.1 h2
      go_enter Try.func27, Try.ntmps27
      go_wp2_with (first
        | (go_at_call 15; refine (spec_IsValidRect _ _ _ _ _).mono ?_; rintro e w1 ⟨rfl, hb⟩; obtain ⟨hc, hf⟩ := bcell hb; have hz := sz2 (show w.heap.size + 2 ≤ w1.heap.size by have := hb.size; (try simp at this); omega))
        | (go_at_call 43; refine (spec_l02Span_in _ _ _ _ (by omega) (by omega) (by omega) (by omega) _).mono ?_; rintro e w1 ⟨rfl, rfl⟩))
      all_goals (go_ret; exact ⟨retb (by simp [abutB, *] <;> omega), (by repeat (first | with_reducible exact Below.refl _ _ | with_reducible assumption | with_reducible refine bel_alloc ?_ _ | with_reducible refine bel_drew ?_ | with_reducible refine bel_drewN ?_ _ | with_reducible refine bel_set ?_ (by (try simp) <;> omega) _ | with_reducible refine bel_trans ?_ (by assumption)))⟩)
    · go_enter Try.func27, Try.ntmps27
      go_wp2_with (first
        | (go_at_call 15; refine (spec_IsValidRect _ _ _ _ _).mono ?_; rintro e w1 ⟨rfl, hb⟩; obtain ⟨hc, hf⟩ := bcell hb; have hz := sz2 (show w.heap.size + 2 ≤ w1.heap.size by have := hb.size; (try simp at this); omega))
        | (go_at_call 43; refine (spec_l02Span _ _ _ _ _).mono ?_; rintro e w1 ⟨rfl, rfl⟩))
      all_goals (go_ret; exact ⟨retb (by simp [abutB, *] <;> omega), (by repeat (first | with_reducible exact Below.refl _ _ | with_reducible assumption | with_reducible refine bel_alloc ?_ _ | with_reducible refine bel_drew ?_ | with_reducible refine bel_drewN ?_ _ | with_reducible refine bel_set ?_ (by (try simp) <;> omega) _ | with_reducible refine bel_trans ?_ (by assumption)))⟩)
  · go_enter Try.func27, Try.ntmps27
    go_wp2_with (first
      | (go_at_call 15; refine (spec_IsValidRect _ _ _ _ _).mono ?_; rintro e w1 ⟨rfl, hb⟩; obtain ⟨hc, hf⟩ := bcell hb; have hz := sz2 (show w.heap.size + 2 ≤ w1.heap.size by have := hb.size; (try simp at this); omega))
      | (go_at_call 43; refine (spec_l02Span _ _ _ _ _).mono ?_; rintro e w1 ⟨rfl, rfl⟩))
    all_goals (go_ret; exact ⟨retb (by simp [abutB, *] <;> omega), (by repeat (first | with_reducible exact Below.refl _ _ | with_reducible assumption | with_reducible refine bel_alloc ?_ _ | with_reducible refine bel_drew ?_ | with_reducible refine bel_drewN ?_ _ | with_reducible refine bel_set ?_ (by (try simp) <;> omega) _ | with_reducible refine bel_trans ?_ (by assumption)))⟩)

def gapX (a0 a2 b0 b2 : Int) : Int := max (max 0 (b0 - a2)) (a0 - b2)
set_option maxHeartbeats 400000 in
theorem impl_gaps (a0 a1 a2 a3 b0 b1 b2 b3 : Int) (h1 : vRect a0 a1 a2 a3 = true) (h2 : vRect b0 b1 b2 b3 = true) (w : World) : Calls Try.prog 46 #[.agg #[.int .i64 a0, .int .i64 a1, .int .i64 a2, .int .i64 a3], .agg #[.int .i64 b0, .int .i64 b1, .int .i64 b2, .int .i64 b3]] w fun e w' => e = .returned (.tuple #[.int .i64 (gapX a0 a2 b0 b2), .int .i64 (gapX a1 a3 b1 b3)]) ∧ Below w.heap.size w w' := by
  obtain ⟨k1, k2, k3, k4, k5, k6⟩ := vRect_iff.1 h1
  obtain ⟨l1, l2, l3, l4, l5, l6⟩ := vRect_iff.1 h2
  clear h1 h2
  go_enter Try.func46, Try.ntmps46
  go_wp2
  go_quiet (fail)
  go_wp2
  go_ret2
  refine ⟨ret2i ?_ ?_, (by repeat (first | with_reducible exact Below.refl _ _ | with_reducible assumption | with_reducible refine bel_alloc ?_ _ | with_reducible refine bel_drew ?_ | with_reducible refine bel_drewN ?_ _ | with_reducible refine bel_set ?_ (by (try simp) <;> omega) _ | with_reducible refine bel_trans ?_ (by assumption)))⟩ <;> (simp only [gapX]; omega)
def gapF (a0 a1 a2 a3 b0 b1 b2 b3 : Int) (x : Int) : Int := if vRect a0 a1 a2 a3 && vRect b0 b1 b2 b3 then x else -1
set_option maxHeartbeats 800000 in
theorem impl_RectGap (a0 a1 a2 a3 b0 b1 b2 b3 : Int) (w : World) : Calls Try.prog 30 #[.agg #[.int .i64 a0, .int .i64 a1, .int .i64 a2, .int .i64 a3], .agg #[.int .i64 b0, .int .i64 b1, .int .i64 b2, .int .i64 b3]] w fun e w' => e = .returned (.tuple #[.int .i64 (gapF a0 a1 a2 a3 b0 b1 b2 b3 (gapX a0 a2 b0 b2)), .int .i64 (gapF a0 a1 a2 a3 b0 b1 b2 b3 (gapX a1 a3 b1 b3))]) ∧ Below w.heap.size w w' := by
  by_cases h1 : vRect a0 a1 a2 a3 = true
  · by_cases h2 : vRect b0 b1 b2 b3 = true
    · go_enter Try.func30, Try.ntmps30
      go_wp2_with (first
        | (go_at_call 17; refine (impl_IsValidRect _ _ _ _ _).mono ?_; rintro e w1 ⟨rfl, hb⟩; obtain ⟨hc, hf⟩ := bcell hb; have hz := sz2 (show w.heap.size + 2 ≤ w1.heap.size by have := hb.size; (try simp at this); omega))
        | (go_at_call 46; refine (impl_gaps _ _ _ _ _ _ _ _ h1 h2 _).mono ?_; rintro e w1 ⟨rfl, hb⟩; obtain ⟨hc, hf⟩ := bcell hb; have hz := sz2 (show w.heap.size + 2 ≤ w1.heap.size by have := hb.size; (try simp at this); omega)))
      all_goals (go_ret2; exact ⟨by simp [gapF, *], (by repeat (first | with_reducible exact Below.refl _ _ | with_reducible assumption | with_reducible refine bel_alloc ?_ _ | with_reducible refine bel_drew ?_ | with_reducible refine bel_drewN ?_ _ | with_reducible refine bel_set ?_ (by (try simp) <;> omega) _ | with_reducible refine bel_trans ?_ (by assumption)))⟩)
    · go_enter Try.func30, Try.ntmps30
      go_wp2_with (go_at_call 17; refine (impl_IsValidRect _ _ _ _ _).mono ?_; rintro e w1 ⟨rfl, hb⟩; obtain ⟨hc, hf⟩ := bcell hb; have hz := sz2 (show w.heap.size + 2 ≤ w1.heap.size by have := hb.size; (try simp at this); omega))
      all_goals (go_ret2; exact ⟨by simp [gapF, *], (by repeat (first | with_reducible exact Below.refl _ _ | with_reducible assumption | with_reducible refine bel_alloc ?_ _ | with_reducible refine bel_drew ?_ | with_reducible refine bel_drewN ?_ _ | with_reducible refine bel_set ?_ (by (try simp) <;> omega) _ | with_reducible refine bel_trans ?_ (by assumption)))⟩)
  · go_enter Try.func30, Try.ntmps30
    go_wp2_with (go_at_call 17; refine (impl_IsValidRect _ _ _ _ _).mono ?_; rintro e w1 ⟨rfl, hb⟩; obtain ⟨hc, hf⟩ := bcell hb; have hz := sz2 (show w.heap.size + 2 ≤ w1.heap.size by have := hb.size; (try simp at this); omega))
    all_goals (go_ret2; exact ⟨by simp [gapF, *], (by repeat (first | with_reducible exact Below.refl _ _ | with_reducible assumption | with_reducible refine bel_alloc ?_ _ | with_reducible refine bel_drew ?_ | with_reducible refine bel_drewN ?_ _ | with_reducible refine bel_set ?_ (by (try simp) <;> omega) _ | with_reducible refine bel_trans ?_ (by assumption)))⟩)
set_option maxHeartbeats 800000 in
theorem spec_RectGap (a0 a1 a2 a3 b0 b1 b2 b3 : Int) (w : World) : Calls Try.prog 29 #[.agg #[.int .i64 a0, .int .i64 a1, .int .i64 a2, .int .i64 a3], .agg #[.int .i64 b0, .int .i64 b1, .int .i64 b2, .int .i64 b3]] w fun e w' => e = .returned (.tuple #[.int .i64 (gapF a0 a1 a2 a3 b0 b1 b2 b3 (gapX a0 a2 b0 b2)), .int .i64 (gapF a0 a1 a2 a3 b0 b1 b2 b3 (gapX a1 a3 b1 b3))]) ∧ Below w.heap.size w w' := by
  by_cases h1 : vRect a0 a1 a2 a3 = true
  · by_cases h2 : vRect b0 b1 b2 b3 = true
    · obtain ⟨k1, k2, k3, k4, k5, k6⟩ := vRect_iff.1 h1
      obtain ⟨l1, l2, l3, l4, l5, l6⟩ := vRect_iff.1 h2
      go_enter Try.func29, Try.ntmps29
      go_wp2_with (first
        | (go_at_call 15; refine (spec_IsValidRect _ _ _ _ _).mono ?_; rintro e w1 ⟨rfl, hb⟩; obtain ⟨hc, hf⟩ := bcell hb; have hz := sz2 (show w.heap.size + 2 ≤ w1.heap.size by have := hb.size; (try simp at this); omega)))
      go_quiet ((go_at_call 43; exact quiet_left (spec_l02Span_in _ _ _ _ (by omega) (by omega) (by omega) (by omega) _)))
      go_wp2
      go_ret2
      refine ⟨ret2i ?_ ?_, (by repeat (first | with_reducible exact Below.refl _ _ | with_reducible assumption | with_reducible refine bel_alloc ?_ _ | with_reducible refine bel_drew ?_ | with_reducible refine bel_drewN ?_ _ | with_reducible refine bel_set ?_ (by (try simp) <;> omega) _ | with_reducible refine bel_trans ?_ (by assumption)))⟩ <;> (simp only [gapF, gapX, h1, h2, Bool.and_self, if_true]; omega)
    · go_enter Try.func29, Try.ntmps29
      go_wp2_with (go_at_call 15; refine (spec_IsValidRect _ _ _ _ _).mono ?_; rintro e w1 ⟨rfl, hb⟩; obtain ⟨hc, hf⟩ := bcell hb; have hz := sz2 (show w.heap.size + 2 ≤ w1.heap.size by have := hb.size; (try simp at this); omega))
      all_goals (go_ret2; exact ⟨by simp [gapF, *], (by repeat (first | with_reducible exact Below.refl _ _ | with_reducible assumption | with_reducible refine bel_alloc ?_ _ | with_reducible refine bel_drew ?_ | with_reducible refine bel_drewN ?_ _ | with_reducible refine bel_set ?_ (by (try simp) <;> omega) _ | with_reducible refine bel_trans ?_ (by assumption)))⟩)
  · go_enter Try.func29, Try.ntmps29
    go_wp2_with (go_at_call 15; refine (spec_IsValidRect _ _ _ _ _).mono ?_; rintro e w1 ⟨rfl, hb⟩; obtain ⟨hc, hf⟩ := bcell hb; have hz := sz2 (show w.heap.size + 2 ≤ w1.heap.size by have := hb.size; (try simp at this); omega))
    all_goals (go_ret2; exact ⟨by simp [gapF, *], (by repeat (first | with_reducible exact Below.refl _ _ | with_reducible assumption | with_reducible refine bel_alloc ?_ _ | with_reducible refine bel_drew ?_ | with_reducible refine bel_drewN ?_ _ | with_reducible refine bel_set ?_ (by (try simp) <;> omega) _ | with_reducible refine bel_trans ?_ (by assumption)))⟩)
end Go.Proofs.Ytljjillfdjcjiaa
