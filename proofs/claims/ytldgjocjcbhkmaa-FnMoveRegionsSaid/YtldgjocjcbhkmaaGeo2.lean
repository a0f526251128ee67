/- Contracts of the plain functions on rectangles and edges, continued. -/
import Derived.Test.YtldgjocjcbhkmaaGeo
namespace Go.Proofs.Ytldgjocjcbhkmaa
open Go.RowKit
attribute [local go_sem high] run_max2 run_min2 run_max3 run_max4


/-! ### area -/
def areaV (x0 y0 x1 y1 : Int) : Int := (x1 - x0) * (y1 - y0)
theorem areaV_bounds {x0 y0 x1 y1 : Int} (h : vRect x0 y0 x1 y1 = true) : 1 ≤ areaV x0 y0 x1 y1 ∧ areaV x0 y0 x1 y1 ≤ 6400 := by
  obtain ⟨k1, k2, k3, k4, k5, k6⟩ := vRect_iff.1 h
  unfold areaV
  obtain ⟨m, hm⟩ : ∃ m, m = x1 - x0 := ⟨_, rfl⟩
  obtain ⟨n, hn⟩ : ∃ n, n = y1 - y0 := ⟨_, rfl⟩
  rw [← hm, ← hn]
  have h1 : 1 * 1 ≤ m * n := Int.mul_le_mul (by omega) (by omega) (by omega) (by omega)
  have h2 : m * n ≤ 80 * 80 := Int.mul_le_mul (by omega) (by omega) (by omega) (by omega)
  omega
def areaF (x0 y0 x1 y1 : Int) : Int := if vRect x0 y0 x1 y1 then areaV x0 y0 x1 y1 else -1
set_option maxRecDepth 100000 in
set_option maxHeartbeats 400000 in
theorem impl_area (a0 a1 a2 a3 : Int) (h : vRect a0 a1 a2 a3 = true) (w : World) : Calls Try.prog 138 #[.agg #[.int .i64 a0, .int .i64 a1, .int .i64 a2, .int .i64 a3]] w fun e w' => e = .returned (.int .i64 (areaV a0 a1 a2 a3)) ∧ Below w.heap.size w w' := by
  have hA := areaV_bounds h
  obtain ⟨k1, k2, k3, k4, k5, k6⟩ := vRect_iff.1 h
  unfold areaV at hA
  have H := hide hA
  clear h hA
  go_enter Try.func138, Try.ntmps138
  go_wp2
  go_ret
  refine ⟨reti ?_, (by repeat (first | with_reducible exact Below.refl _ _ | with_reducible assumption | with_reducible refine bel_alloc ?_ _ | with_reducible refine bel_drew ?_ | with_reducible refine bel_drewN ?_ _ | with_reducible refine bel_set ?_ (by (try simp) <;> omega) _ | with_reducible refine bel_trans ?_ (by assumption)))⟩
  have := H.out
  exact IntWalk.wrap64_in _ (by omega)
set_option maxRecDepth 100000 in
set_option maxHeartbeats 400000 in
theorem spec_RectArea (a0 a1 a2 a3 : Int) (w : World) : Calls Try.prog 133 #[.agg #[.int .i64 a0, .int .i64 a1, .int .i64 a2, .int .i64 a3]] w fun e w' => e = .returned (.int .i64 (areaF a0 a1 a2 a3)) ∧ Below w.heap.size w w' := by
  by_cases h1 : vRect a0 a1 a2 a3 = true
  · have hA := areaV_bounds h1
    obtain ⟨k1, k2, k3, k4, k5, k6⟩ := vRect_iff.1 h1
    unfold areaV at hA
    have H := hide hA
    clear hA
    go_enter Try.func133, Try.ntmps133
    go_wp2_with (first
      | (go_at_call 122; refine (spec_IsValidRect _ _ _ _ _).mono ?_; rintro e w1 ⟨rfl, hb⟩; obtain ⟨hc, hf⟩ := bcell hb; have hz := sz1 (show w.heap.size + 1 ≤ w1.heap.size by have := hb.size; (try simp at this); omega)))
    go_ret
    refine ⟨reti ?_, (by repeat (first | with_reducible exact Below.refl _ _ | with_reducible assumption | with_reducible refine bel_alloc ?_ _ | with_reducible refine bel_drew ?_ | with_reducible refine bel_drewN ?_ _ | with_reducible refine bel_set ?_ (by (try simp) <;> omega) _ | with_reducible refine bel_trans ?_ (by assumption)))⟩
    rw [areaF, if_pos h1]
    have := H.out
    exact IntWalk.wrap64_in _ (by omega)
  · go_enter Try.func133, Try.ntmps133
    go_wp2_with (first
      | (go_at_call 122; refine (spec_IsValidRect _ _ _ _ _).mono ?_; rintro e w1 ⟨rfl, hb⟩; obtain ⟨hc, hf⟩ := bcell hb; have hz := sz1 (show w.heap.size + 1 ≤ w1.heap.size by have := hb.size; (try simp at this); omega)))
    go_ret; exact ⟨reti (by simp [areaF, h1]), (by repeat (first | with_reducible exact Below.refl _ _ | with_reducible assumption | with_reducible refine bel_alloc ?_ _ | with_reducible refine bel_drew ?_ | with_reducible refine bel_drewN ?_ _ | with_reducible refine bel_set ?_ (by (try simp) <;> omega) _ | with_reducible refine bel_trans ?_ (by assumption)))⟩

/-! ### abutting, gaps -/
def abutB (a0 a1 a2 a3 b0 b1 b2 b3 : Int) : Bool := vRect a0 a1 a2 a3 && vRect b0 b1 b2 b3 &&
  (decide (max a0 b0 = min a2 b2 ∧ max a1 b1 < min a3 b3) || decide (max a1 b1 = min a3 b3 ∧ max a0 b0 < min a2 b2))

def gapX (a0 a2 b0 b2 : Int) : Int := max (max 0 (b0 - a2)) (a0 - b2)
def gapF (a0 a1 a2 a3 b0 b1 b2 b3 : Int) (x : Int) : Int := if vRect a0 a1 a2 a3 && vRect b0 b1 b2 b3 then x else -1
end Go.Proofs.Ytldgjocjcbhkmaa
