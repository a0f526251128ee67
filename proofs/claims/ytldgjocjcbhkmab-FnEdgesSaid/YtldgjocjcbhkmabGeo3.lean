/- Contracts of the functions on edges. -/
import Derived.Test.YtldgjocjcbhkmabGeo
import Derived.Deep.DeepCutAuto
namespace Go.Proofs.Ytldgjocjcbhkmab
open Go.RowKit
attribute [local go_sem high] run_max2 run_min2 run_max3 run_max4

def absI (x : Int) : Int := max x (-x)
def axis (a0 a1 a2 a3 : Int) : Bool := (decide (a0 = a2) && decide (a1 ≠ a3)) || (decide (a0 ≠ a2) && decide (a1 = a3))
def vEdge (a0 a1 a2 a3 : Int) : Bool := vPt a0 a1 && vPt a2 a3 && axis a0 a1 a2 a3
theorem vEdge_iff {a0 a1 a2 a3 : Int} : vEdge a0 a1 a2 a3 = true ↔ ((-40 ≤ a0 ∧ a0 ≤ 40) ∧ (-40 ≤ a1 ∧ a1 ≤ 40)) ∧ ((-40 ≤ a2 ∧ a2 ≤ 40) ∧ (-40 ≤ a3 ∧ a3 ≤ 40)) ∧ ((a0 = a2 ∧ a1 ≠ a3) ∨ (a0 ≠ a2 ∧ a1 = a3)) := by
  simp [vEdge, vPt_iff, axis, and_assoc]
def elenF (a0 a1 a2 a3 : Int) : Int := if vEdge a0 a1 a2 a3 then absI (a2 - a0) + absI (a3 - a1) else -1

set_option maxRecDepth 100000 in
set_option maxHeartbeats 400000 in
theorem impl_edgeLength (a0 a1 a2 a3 : Int) (h : vEdge a0 a1 a2 a3 = true) (w : World) : Calls Try.prog 25 #[.agg #[.int .i64 a0, .int .i64 a1, .int .i64 a2, .int .i64 a3]] w fun e w' => e = .returned (.int .i64 (elenF a0 a1 a2 a3)) ∧ Below w.heap.size w w' := by
  obtain ⟨⟨⟨b1, b2⟩, b3, b4⟩, ⟨⟨b5, b6⟩, b7, b8⟩, b9⟩ := vEdge_iff.1 h
  have H := hide h
  have H9 := hide b9
  clear h b9
  go_enter Try.func25, Try.ntmps25
  go_wp2
  go_ret
  refine ⟨reti ?_, (by repeat (first | with_reducible exact Below.refl _ _ | with_reducible assumption | with_reducible refine bel_alloc ?_ _ | with_reducible refine bel_drew ?_ | with_reducible refine bel_drewN ?_ _ | with_reducible refine bel_set ?_ (by (try simp) <;> omega) _ | with_reducible refine bel_trans ?_ (by assumption)))⟩
  have h9 := H9.out
  rw [elenF, if_pos H.out]
  simp only [absI]
  omega
set_option maxRecDepth 100000 in
set_option maxHeartbeats 1600000 in
theorem impl_EdgeLength (a0 a1 a2 a3 : Int) (w : World) : Calls Try.prog 15 #[.agg #[.int .i64 a0, .int .i64 a1, .int .i64 a2, .int .i64 a3]] w fun e w' => e = .returned (.int .i64 (elenF a0 a1 a2 a3)) ∧ Below w.heap.size w w' := by
  go_enter Try.func15, Try.ntmps15
  go_upto_region 1 with fail
  go_cut [3, 4] (fun s3 s4 wx => ∃ b c : Nat, s3 = .pointer (some ⟨b, 0, none⟩) ∧ s4 = .pointer (some ⟨c, 0, none⟩) ∧ wx.cell? ⟨b, 0, none⟩ = some (.int .i64 a0) ∧ wx.cell? ⟨b, 1, none⟩ = some (.int .i64 a1) ∧
    wx.cell? ⟨c, 0, none⟩ = some (.int .i64 a2) ∧ wx.cell? ⟨c, 1, none⟩ = some (.int .i64 a3) ∧ wx.cell? ⟨w.heap.size, 0, none⟩ = some (.int .i64 a0) ∧ wx.cell? ⟨w.heap.size, 1, none⟩ = some (.int .i64 a1) ∧
    wx.cell? ⟨w.heap.size, 2, none⟩ = some (.int .i64 a2) ∧ wx.cell? ⟨w.heap.size, 3, none⟩ = some (.int .i64 a3) ∧ b < wx.heap.size ∧ c < wx.heap.size ∧ w.heap.size < wx.heap.size ∧ Below w.heap.size w wx)
  case first =>
    go_region_held3 (fun w' => w'.cell? ⟨w.heap.size, 0, none⟩ = some (.int .i64 a0) ∧ w'.cell? ⟨w.heap.size, 1, none⟩ = some (.int .i64 a1) ∧ w'.cell? ⟨w.heap.size, 2, none⟩ = some (.int .i64 a2) ∧ w'.cell? ⟨w.heap.size, 3, none⟩ = some (.int .i64 a3))
      (simp [go_sem]) ((fail))
    all_goals
      go_wp2_with fail
      go_meet
      exact ⟨_, _, rfl, rfl, by simp [go_sem], by simp [go_sem], by simp [go_sem], by simp [go_sem], by simp [go_sem], by simp [go_sem], by simp [go_sem], by simp [go_sem], by simp [go_sem], by simp [go_sem], by simp [go_sem], (by repeat (first | with_reducible exact Below.refl _ _ | with_reducible assumption | with_reducible refine bel_alloc ?_ _ | with_reducible refine bel_drew ?_ | with_reducible refine bel_drewN ?_ _ | with_reducible refine bel_set ?_ (by (try simp) <;> omega) _ | with_reducible refine bel_trans ?_ (by assumption)))⟩
  case rest =>
    obtain ⟨b, c, rfl, rfl, c0, c1, c2, c3, d0, d1, d2, d3, zb, zc, zw, hbel⟩ := hcut
    by_cases hx : a0 = a2
    · by_cases hy : a1 = a3
      · subst hx hy
        go_wp2
        go_ret
        exact ⟨reti (by simp [elenF, vEdge, axis]), (by repeat (first | with_reducible exact Below.refl _ _ | with_reducible assumption | with_reducible refine bel_alloc ?_ _ | with_reducible refine bel_drew ?_ | with_reducible refine bel_drewN ?_ _ | with_reducible refine bel_set ?_ (by (try simp) <;> omega) _ | with_reducible refine bel_trans ?_ (by assumption)))⟩
      · subst hx
        by_cases hp : vPt a0 a1 = true
        · by_cases hq : vPt a0 a3 = true
          · go_wp2_with (first
          | (go_at_call 30; refine (impl_onChip _ _ _).mono ?_; rintro e w1 ⟨rfl, hb⟩; obtain ⟨hc, hf⟩ := bcell hb; have hz0 := Nat.lt_of_lt_of_le (by assumption : b < _) hb.size; have hz1 := Nat.lt_of_lt_of_le (by assumption : c < _) hb.size; have hz2 := Nat.lt_of_lt_of_le (by assumption : w.heap.size < _) hb.size)
          | (go_at_call 25; refine (impl_edgeLength _ _ _ _ (by simp [vEdge, axis, *]) _).mono ?_; rintro e w1 ⟨rfl, hb⟩))
            all_goals (go_ret; exact ⟨reti (by simp [elenF, vEdge, axis, *]), (by repeat (first | with_reducible exact Below.refl _ _ | with_reducible assumption | with_reducible refine bel_alloc ?_ _ | with_reducible refine bel_drew ?_ | with_reducible refine bel_drewN ?_ _ | with_reducible refine bel_set ?_ (by (try simp) <;> omega) _ | with_reducible refine bel_trans ?_ (by assumption)))⟩)
          · go_wp2_with (first
          | (go_at_call 30; refine (impl_onChip _ _ _).mono ?_; rintro e w1 ⟨rfl, hb⟩; obtain ⟨hc, hf⟩ := bcell hb; have hz0 := Nat.lt_of_lt_of_le (by assumption : b < _) hb.size; have hz1 := Nat.lt_of_lt_of_le (by assumption : c < _) hb.size; have hz2 := Nat.lt_of_lt_of_le (by assumption : w.heap.size < _) hb.size)
          | (go_at_call 25; refine (impl_edgeLength _ _ _ _ (by simp [vEdge, axis, *]) _).mono ?_; rintro e w1 ⟨rfl, hb⟩))
            all_goals (go_ret; exact ⟨reti (by simp [elenF, vEdge, axis, *]), (by repeat (first | with_reducible exact Below.refl _ _ | with_reducible assumption | with_reducible refine bel_alloc ?_ _ | with_reducible refine bel_drew ?_ | with_reducible refine bel_drewN ?_ _ | with_reducible refine bel_set ?_ (by (try simp) <;> omega) _ | with_reducible refine bel_trans ?_ (by assumption)))⟩)
        · go_wp2_with (first
          | (go_at_call 30; refine (impl_onChip _ _ _).mono ?_; rintro e w1 ⟨rfl, hb⟩; obtain ⟨hc, hf⟩ := bcell hb; have hz0 := Nat.lt_of_lt_of_le (by assumption : b < _) hb.size; have hz1 := Nat.lt_of_lt_of_le (by assumption : c < _) hb.size; have hz2 := Nat.lt_of_lt_of_le (by assumption : w.heap.size < _) hb.size)
          | (go_at_call 25; refine (impl_edgeLength _ _ _ _ (by simp [vEdge, axis, *]) _).mono ?_; rintro e w1 ⟨rfl, hb⟩))
          all_goals (go_ret; exact ⟨reti (by simp [elenF, vEdge, axis, *]), (by repeat (first | with_reducible exact Below.refl _ _ | with_reducible assumption | with_reducible refine bel_alloc ?_ _ | with_reducible refine bel_drew ?_ | with_reducible refine bel_drewN ?_ _ | with_reducible refine bel_set ?_ (by (try simp) <;> omega) _ | with_reducible refine bel_trans ?_ (by assumption)))⟩)
    · by_cases hy : a1 = a3
      · subst hy
        by_cases hp : vPt a0 a1 = true
        · by_cases hq : vPt a2 a1 = true
          · go_wp2_with (first
          | (go_at_call 30; refine (impl_onChip _ _ _).mono ?_; rintro e w1 ⟨rfl, hb⟩; obtain ⟨hc, hf⟩ := bcell hb; have hz0 := Nat.lt_of_lt_of_le (by assumption : b < _) hb.size; have hz1 := Nat.lt_of_lt_of_le (by assumption : c < _) hb.size; have hz2 := Nat.lt_of_lt_of_le (by assumption : w.heap.size < _) hb.size)
          | (go_at_call 25; refine (impl_edgeLength _ _ _ _ (by simp [vEdge, axis, *]) _).mono ?_; rintro e w1 ⟨rfl, hb⟩))
            all_goals (go_ret; exact ⟨reti (by simp [elenF, vEdge, axis, *]), (by repeat (first | with_reducible exact Below.refl _ _ | with_reducible assumption | with_reducible refine bel_alloc ?_ _ | with_reducible refine bel_drew ?_ | with_reducible refine bel_drewN ?_ _ | with_reducible refine bel_set ?_ (by (try simp) <;> omega) _ | with_reducible refine bel_trans ?_ (by assumption)))⟩)
          · go_wp2_with (first
          | (go_at_call 30; refine (impl_onChip _ _ _).mono ?_; rintro e w1 ⟨rfl, hb⟩; obtain ⟨hc, hf⟩ := bcell hb; have hz0 := Nat.lt_of_lt_of_le (by assumption : b < _) hb.size; have hz1 := Nat.lt_of_lt_of_le (by assumption : c < _) hb.size; have hz2 := Nat.lt_of_lt_of_le (by assumption : w.heap.size < _) hb.size)
          | (go_at_call 25; refine (impl_edgeLength _ _ _ _ (by simp [vEdge, axis, *]) _).mono ?_; rintro e w1 ⟨rfl, hb⟩))
            all_goals (go_ret; exact ⟨reti (by simp [elenF, vEdge, axis, *]), (by repeat (first | with_reducible exact Below.refl _ _ | with_reducible assumption | with_reducible refine bel_alloc ?_ _ | with_reducible refine bel_drew ?_ | with_reducible refine bel_drewN ?_ _ | with_reducible refine bel_set ?_ (by (try simp) <;> omega) _ | with_reducible refine bel_trans ?_ (by assumption)))⟩)
        · go_wp2_with (first
          | (go_at_call 30; refine (impl_onChip _ _ _).mono ?_; rintro e w1 ⟨rfl, hb⟩; obtain ⟨hc, hf⟩ := bcell hb; have hz0 := Nat.lt_of_lt_of_le (by assumption : b < _) hb.size; have hz1 := Nat.lt_of_lt_of_le (by assumption : c < _) hb.size; have hz2 := Nat.lt_of_lt_of_le (by assumption : w.heap.size < _) hb.size)
          | (go_at_call 25; refine (impl_edgeLength _ _ _ _ (by simp [vEdge, axis, *]) _).mono ?_; rintro e w1 ⟨rfl, hb⟩))
          all_goals (go_ret; exact ⟨reti (by simp [elenF, vEdge, axis, *]), (by repeat (first | with_reducible exact Below.refl _ _ | with_reducible assumption | with_reducible refine bel_alloc ?_ _ | with_reducible refine bel_drew ?_ | with_reducible refine bel_drewN ?_ _ | with_reducible refine bel_set ?_ (by (try simp) <;> omega) _ | with_reducible refine bel_trans ?_ (by assumption)))⟩)
      · go_wp2
        go_ret
        exact ⟨reti (by simp [elenF, vEdge, axis, *]), (by repeat (first | with_reducible exact Below.refl _ _ | with_reducible assumption | with_reducible refine bel_alloc ?_ _ | with_reducible refine bel_drew ?_ | with_reducible refine bel_drewN ?_ _ | with_reducible refine bel_set ?_ (by (try simp) <;> omega) _ | with_reducible refine bel_trans ?_ (by assumption)))⟩
end Go.Proofs.Ytldgjocjcbhkmab
