/- Contracts: composing and undoing transforms. -/
import Derived.Test.YthpfjhijkgmglaaMov2
import Derived.StillTailTactics
namespace Go.Proofs.Ythpfjhijkgmglaa
open Go.RowKit
attribute [local go_sem low] cell_alloc_ite frozen_alloc_ite

def cpV (a0 a1 a2 b0 b1 b2 : Int) : Bool := vTr a0 a1 a2 && vTr b0 b1 b2 && vTr (compO a0 b0) (mvX b0 b1 a1 a2) (mvY b0 b2 a1 a2)
set_option maxHeartbeats 1600000 in
theorem impl_compose (a0 a1 a2 b0 b1 b2 : Int) (ha : 0 ≤ a0 ∧ a0 ≤ 7) (ha1 : -80 ≤ a1 ∧ a1 ≤ 80) (ha2 : -80 ≤ a2 ∧ a2 ≤ 80) (hb : 0 ≤ b0 ∧ b0 ≤ 7) (hb1 : -80 ≤ b1 ∧ b1 ≤ 80) (hb2 : -80 ≤ b2 ∧ b2 ≤ 80) (w : World) :
    Calls Try.prog 58 #[.agg #[.int .i64 a0, .int .i64 a1, .int .i64 a2], .agg #[.int .i64 b0, .int .i64 b1, .int .i64 b2]] w fun e w' => e = .returned (.agg #[.int .i64 (compO a0 b0), .int .i64 (mvX b0 b1 a1 a2), .int .i64 (mvY b0 b2 a1 a2)]) ∧ Below w.heap.size w w' := by
  have HA := hide ha
  have HA1 := hide ha1
  have HA2 := hide ha2
  have HB := hide hb
  have HB1 := hide hb1
  have HB2 := hide hb2
  clear ha ha1 ha2 hb hb1 hb2
  go_enter Try.func58, Try.ntmps58
  go_upto_region 1 with fail
  go_cut [5] (fun s wx => ∃ g : Nat, s = .pointer (some ⟨g, 0, none⟩) ∧ wx.cell? ⟨g, 0, none⟩ = some (.int .i64 (mvX b0 b1 a1 a2)) ∧ wx.cell? ⟨g, 1, none⟩ = some (.int .i64 (mvY b0 b2 a1 a2)) ∧ wx.cell? ⟨w.heap.size, 0, none⟩ = some (.int .i64 a0) ∧ wx.cell? ⟨w.heap.size + 1, 0, none⟩ = some (.int .i64 b0) ∧ wx.cell? ⟨w.heap.size + 1 + 1, 0, none⟩ = some (.int .i64 0) ∧ wx.cell? ⟨w.heap.size + 1 + 1, 1, none⟩ = some (.int .i64 0) ∧ wx.cell? ⟨w.heap.size + 1 + 1, 2, none⟩ = some (.int .i64 0) ∧ wx.frozen? ⟨w.heap.size + 1 + 1, 0, none⟩ = false ∧ wx.frozen? ⟨w.heap.size + 1 + 1, 1, none⟩ = false ∧ wx.frozen? ⟨w.heap.size + 1 + 1, 2, none⟩ = false ∧ Below w.heap.size w wx)
  case first =>
    go_wp2_with (go_at_call 46; refine (impl_move_in b0 b1 b2 a1 a2 HB.out HB1.out HB2.out (by have := HA1.out; omega) (by have := HA2.out; omega) _).mono ?_; rintro e w1 ⟨rfl, hb⟩; obtain ⟨_, _, hc, hf⟩ := bcellI hb; have hs := hb.size; (try simp at hs))
    go_meet
    refine ⟨_, rfl, ?_⟩
    exact (by (((repeat' apply And.intro) <;> first | (simp [go_sem, *, ↓IntWalk.iteOmega]; done) | (simp [go_sem, *, ↓IntWalk.iteOmega]; intros; omega) | (((try simp [*]) <;> omega); done) | (exact (by repeat (first | with_reducible exact Below.refl _ _ | with_reducible assumption | with_reducible refine bel_alloc ?_ _ | with_reducible refine bel_drew ?_ | with_reducible refine bel_drewN ?_ _ | with_reducible refine bel_set ?_ (by (try simp) <;> omega) _ | with_reducible refine bel_trans ?_ (by assumption)))))))
  case rest =>
  obtain ⟨g, rfl, c0, c1, c2, c3, r0, r1, r2, f0, f1, f2, hbl⟩ := hcut
  have HBL := hide hbl
  clear hbl
  go_wp2_with fail
  go_still_tail 10, (by kernel_rfl)
  still_call ((impl_composed _ _ HA.out HB.out _).mono fun _ _ h => ⟨h.1, h.2.symm⟩)
  repeat still_step
  refine wpStill_nil ?_
  change wpList _ _ _ _ _ (World.drew _)
  have hbl := HBL.out
  go_wp2
  refine bodyPost_ret (v := .agg #[.int .i64 (compO a0 b0), .int .i64 (mvX b0 b1 a1 a2), .int .i64 (mvY b0 b2 a1 a2)]) (by simp [results, Try.results58, go_sem, *, ↓IntWalk.iteOmega]) rfl ⟨rfl, (by repeat (first | with_reducible exact Below.refl _ _ | with_reducible assumption | with_reducible refine bel_alloc ?_ _ | with_reducible refine bel_drew ?_ | with_reducible refine bel_drewN ?_ _ | with_reducible refine bel_set ?_ (by (try simp) <;> omega) _ | with_reducible refine bel_trans ?_ (by assumption)))⟩

set_option maxHeartbeats 3200000 in
theorem impl_ComposeTransforms (a0 a1 a2 b0 b1 b2 : Int) (w : World) : Calls Try.prog 28 #[.agg #[.int .i64 a0, .int .i64 a1, .int .i64 a2], .agg #[.int .i64 b0, .int .i64 b1, .int .i64 b2]] w
    fun e w' => e = .returned ((.tuple #[.agg #[.int .i64 (zI (cpV a0 a1 a2 b0 b1 b2) (compO a0 b0)), .int .i64 (zI (cpV a0 a1 a2 b0 b1 b2) (mvX b0 b1 a1 a2)), .int .i64 (zI (cpV a0 a1 a2 b0 b1 b2) (mvY b0 b2 a1 a2))], .bool (cpV a0 a1 a2 b0 b1 b2)])) ∧ Below w.heap.size w w' := by
  by_cases h1 : vTr a0 a1 a2 = true
  · by_cases h2 : vTr b0 b1 b2 = true
    · have B1 := hide (vTr_iff.1 h1)
      have B2 := hide (vTr_iff.1 h2)
      by_cases h3 : vTr (compO a0 b0) (mvX b0 b1 a1 a2) (mvY b0 b2 a1 a2) = true
      · go_enter Try.func28, Try.ntmps28
        go_wp2_with (first
        | (go_at_call 44; refine (impl_IsValidTransform _ _ _ _).mono ?_; rintro e w1 ⟨rfl, hb⟩; obtain ⟨_, _, hc, hf⟩ := bcellI hb; have hs := hb.size; (try simp at hs))
        | (go_at_call 58; refine (impl_compose _ _ _ _ _ _ B1.out.1 B1.out.2.1 B1.out.2.2 B2.out.1 B2.out.2.1 B2.out.2.2 _).mono ?_; rintro e w1 ⟨rfl, hb⟩; obtain ⟨_, _, hc, hf⟩ := bcellI hb; have hs := hb.size; (try simp at hs)))
        refine bodyPost_ret (v := .tuple #[.agg #[.int .i64 (compO a0 b0), .int .i64 (mvX b0 b1 a1 a2), .int .i64 (mvY b0 b2 a1 a2)], .bool true]) (by simp [results, Try.results28, go_sem, *, ↓IntWalk.iteOmega]) rfl ⟨?_, (by repeat (first | with_reducible exact Below.refl _ _ | with_reducible assumption | with_reducible refine bel_alloc ?_ _ | with_reducible refine bel_drew ?_ | with_reducible refine bel_drewN ?_ _ | with_reducible refine bel_set ?_ (by (try simp) <;> omega) _ | with_reducible refine bel_trans ?_ (by assumption)))⟩
        have h4 : cpV a0 a1 a2 b0 b1 b2 = true := by simp [cpV, h1, h2, h3]
        simp [zI, h4]
      · go_enter Try.func28, Try.ntmps28
        go_wp2_with (first
        | (go_at_call 44; refine (impl_IsValidTransform _ _ _ _).mono ?_; rintro e w1 ⟨rfl, hb⟩; obtain ⟨_, _, hc, hf⟩ := bcellI hb; have hs := hb.size; (try simp at hs))
        | (go_at_call 58; refine (impl_compose _ _ _ _ _ _ B1.out.1 B1.out.2.1 B1.out.2.2 B2.out.1 B2.out.2.1 B2.out.2.2 _).mono ?_; rintro e w1 ⟨rfl, hb⟩; obtain ⟨_, _, hc, hf⟩ := bcellI hb; have hs := hb.size; (try simp at hs)))
        refine bodyPost_ret (v := .tuple #[.agg #[.int .i64 (0), .int .i64 (0), .int .i64 (0)], .bool false]) (by simp [results, Try.results28, go_sem, *, ↓IntWalk.iteOmega]) rfl ⟨?_, (by repeat (first | with_reducible exact Below.refl _ _ | with_reducible assumption | with_reducible refine bel_alloc ?_ _ | with_reducible refine bel_drew ?_ | with_reducible refine bel_drewN ?_ _ | with_reducible refine bel_set ?_ (by (try simp) <;> omega) _ | with_reducible refine bel_trans ?_ (by assumption)))⟩
        have h4 : cpV a0 a1 a2 b0 b1 b2 = false := by simp [cpV, h3]
        simp [zI, h4]
    · have h4 : cpV a0 a1 a2 b0 b1 b2 = false := by simp [cpV, h2]
      go_enter Try.func28, Try.ntmps28
      go_wp2_with (first
        | (go_at_call 44; refine (impl_IsValidTransform _ _ _ _).mono ?_; rintro e w1 ⟨rfl, hb⟩; obtain ⟨_, _, hc, hf⟩ := bcellI hb; have hs := hb.size; (try simp at hs)))
      refine bodyPost_ret (v := .tuple #[.agg #[.int .i64 (0), .int .i64 (0), .int .i64 (0)], .bool false]) (by simp [results, Try.results28, go_sem, *, ↓IntWalk.iteOmega]) rfl ⟨?_, (by repeat (first | with_reducible exact Below.refl _ _ | with_reducible assumption | with_reducible refine bel_alloc ?_ _ | with_reducible refine bel_drew ?_ | with_reducible refine bel_drewN ?_ _ | with_reducible refine bel_set ?_ (by (try simp) <;> omega) _ | with_reducible refine bel_trans ?_ (by assumption)))⟩
      simp [zI, h4]
  · have h4 : cpV a0 a1 a2 b0 b1 b2 = false := by simp [cpV, h1]
    go_enter Try.func28, Try.ntmps28
    go_wp2_with (first
        | (go_at_call 44; refine (impl_IsValidTransform _ _ _ _).mono ?_; rintro e w1 ⟨rfl, hb⟩; obtain ⟨_, _, hc, hf⟩ := bcellI hb; have hs := hb.size; (try simp at hs)))
    refine bodyPost_ret (v := .tuple #[.agg #[.int .i64 (0), .int .i64 (0), .int .i64 (0)], .bool false]) (by simp [results, Try.results28, go_sem, *, ↓IntWalk.iteOmega]) rfl ⟨?_, (by repeat (first | with_reducible exact Below.refl _ _ | with_reducible assumption | with_reducible refine bel_alloc ?_ _ | with_reducible refine bel_drew ?_ | with_reducible refine bel_drewN ?_ _ | with_reducible refine bel_set ?_ (by (try simp) <;> omega) _ | with_reducible refine bel_trans ?_ (by assumption)))⟩
    simp [zI, h4]

set_option maxHeartbeats 3200000 in
theorem spec_ComposeTransforms (a0 a1 a2 b0 b1 b2 : Int) (w : World) : Calls Try.prog 27 #[.agg #[.int .i64 a0, .int .i64 a1, .int .i64 a2], .agg #[.int .i64 b0, .int .i64 b1, .int .i64 b2]] w
    fun e w' => e = .returned ((.tuple #[.agg #[.int .i64 (zI (cpV a0 a1 a2 b0 b1 b2) (compO a0 b0)), .int .i64 (zI (cpV a0 a1 a2 b0 b1 b2) (mvX b0 b1 a1 a2)), .int .i64 (zI (cpV a0 a1 a2 b0 b1 b2) (mvY b0 b2 a1 a2))], .bool (cpV a0 a1 a2 b0 b1 b2)])) ∧ Below w.heap.size w w' := by
  by_cases h1 : vTr a0 a1 a2 = true
  · by_cases h2 : vTr b0 b1 b2 = true
    · have B1 := hide (vTr_iff.1 h1)
      have B2 := hide (vTr_iff.1 h2)
      go_enter Try.func27, Try.ntmps27
      go_upto_region 4 with (first
        | (go_at_call 41; refine (spec_IsValidTransform _ _ _ _).mono ?_; rintro e w1 ⟨rfl, hb⟩; obtain ⟨_, _, hc, hf⟩ := bcellI hb; have hs := hb.size; (try simp at hs))
        | (go_at_call 43; refine (spec_l01Move_in _ _ _ _ _ B2.out.1 B2.out.2.1 B2.out.2.2 (by have := B1.out; omega) (by have := B1.out; omega) _).mono ?_; rintro e w1 ⟨rfl, hb⟩; obtain ⟨_, _, hc, hf⟩ := bcellI hb; have hs := hb.size; (try simp at hs)))
      go_cut [7] (fun s wx => ∃ h : Nat, s = .pointer (some ⟨h, 0, none⟩) ∧ wx.cell? ⟨h, 0, none⟩ = some (.int .i64 (compO a0 b0)) ∧ wx.cell? ⟨h, 1, none⟩ = some (.int .i64 (mvX b0 b1 a1 a2)) ∧ wx.cell? ⟨h, 2, none⟩ = some (.int .i64 (mvY b0 b2 a1 a2)) ∧ h < wx.heap.size ∧ w.heap.size + 1 + 1 < wx.heap.size ∧ wx.cell? ⟨w.heap.size + 1 + 1, 0, none⟩ = some (.int .i64 0) ∧ wx.cell? ⟨w.heap.size + 1 + 1, 1, none⟩ = some (.int .i64 0) ∧ wx.cell? ⟨w.heap.size + 1 + 1, 2, none⟩ = some (.int .i64 0) ∧ wx.frozen? ⟨w.heap.size + 1 + 1, 0, none⟩ = false ∧ wx.frozen? ⟨w.heap.size + 1 + 1, 1, none⟩ = false ∧ wx.frozen? ⟨w.heap.size + 1 + 1, 2, none⟩ = false ∧ Below w.heap.size w wx)
      case first =>
        go_region_held3 (fun w' => w'.cell? ⟨w.heap.size, 0, none⟩ = some (.int .i64 a0) ∧ w'.cell? ⟨w.heap.size + 1, 0, none⟩ = some (.int .i64 b0) ∧ w'.cell? ⟨w1.heap.size, 0, none⟩ = some (.int .i64 (mvX b0 b1 a1 a2)) ∧ w'.cell? ⟨w1.heap.size, 1, none⟩ = some (.int .i64 (mvY b0 b2 a1 a2)) ∧ w1.heap.size < w'.heap.size ∧ w.heap.size + 1 + 1 < w'.heap.size ∧ w'.cell? ⟨w.heap.size + 1 + 1, 0, none⟩ = some (.int .i64 0) ∧ w'.cell? ⟨w.heap.size + 1 + 1, 1, none⟩ = some (.int .i64 0) ∧ w'.cell? ⟨w.heap.size + 1 + 1, 2, none⟩ = some (.int .i64 0) ∧ w'.frozen? ⟨w.heap.size + 1 + 1, 0, none⟩ = false ∧ w'.frozen? ⟨w.heap.size + 1 + 1, 1, none⟩ = false ∧ w'.frozen? ⟨w.heap.size + 1 + 1, 2, none⟩ = false ∧ Below w.heap.size w w')
          (((repeat' apply And.intro) <;> first | (simp [go_sem, *, ↓IntWalk.iteOmega]; done) | (simp [go_sem, *, ↓IntWalk.iteOmega]; intros; omega) | (((try simp [*]) <;> omega); done) | (exact (by repeat (first | with_reducible exact Below.refl _ _ | with_reducible assumption | with_reducible refine bel_alloc ?_ _ | with_reducible refine bel_drew ?_ | with_reducible refine bel_drewN ?_ _ | with_reducible refine bel_set ?_ (by (try simp) <;> omega) _ | with_reducible refine bel_trans ?_ (by assumption)))))) ((go_at_call 51; refine (spec_l01Same _ _ B1.out.1 B2.out.1 _).mono ?_; rintro e w1 ⟨rfl, hb⟩; obtain ⟨_, _, hc, hf⟩ := bcellI hb; have hs := hb.size; (try simp at hs)))
        all_goals
          go_wp2_with fail
          go_meet
          refine ⟨_, rfl, ?_⟩
          exact (by (((repeat' apply And.intro) <;> first | (simp [go_sem, *, ↓IntWalk.iteOmega]; done) | (simp [go_sem, *, ↓IntWalk.iteOmega]; intros; omega) | (((try simp [*]) <;> omega); done) | (exact (by repeat (first | with_reducible exact Below.refl _ _ | with_reducible assumption | with_reducible refine bel_alloc ?_ _ | with_reducible refine bel_drew ?_ | with_reducible refine bel_drewN ?_ _ | with_reducible refine bel_set ?_ (by (try simp) <;> omega) _ | with_reducible refine bel_trans ?_ (by assumption)))))))
      case rest =>
        obtain ⟨h, rfl, c0, c1, c2, zh, zr, c3, c4, c5, f3, f4, f5, hbl⟩ := hcut
        by_cases h3 : vTr (compO a0 b0) (mvX b0 b1 a1 a2) (mvY b0 b2 a1 a2) = true
        · go_wp2_with (first
        | (go_at_call 41; refine (spec_IsValidTransform _ _ _ _).mono ?_; rintro e w1 ⟨rfl, hb⟩; obtain ⟨_, _, hc, hf⟩ := bcellI hb; have hs := hb.size; (try simp at hs))
        | (go_at_call 43; refine (spec_l01Move_in _ _ _ _ _ B2.out.1 B2.out.2.1 B2.out.2.2 (by have := B1.out; omega) (by have := B1.out; omega) _).mono ?_; rintro e w1 ⟨rfl, hb⟩; obtain ⟨_, _, hc, hf⟩ := bcellI hb; have hs := hb.size; (try simp at hs)))
          refine bodyPost_ret (v := .tuple #[.agg #[.int .i64 (compO a0 b0), .int .i64 (mvX b0 b1 a1 a2), .int .i64 (mvY b0 b2 a1 a2)], .bool true]) (by simp [results, Try.results27, go_sem, *, ↓IntWalk.iteOmega]) rfl ⟨?_, (by repeat (first | with_reducible exact Below.refl _ _ | with_reducible assumption | with_reducible refine bel_alloc ?_ _ | with_reducible refine bel_drew ?_ | with_reducible refine bel_drewN ?_ _ | with_reducible refine bel_set ?_ (by (try simp) <;> omega) _ | with_reducible refine bel_trans ?_ (by assumption)))⟩
          have h4 : cpV a0 a1 a2 b0 b1 b2 = true := by simp [cpV, h1, h2, h3]
          simp [zI, h4]
        · go_wp2_with (first
        | (go_at_call 41; refine (spec_IsValidTransform _ _ _ _).mono ?_; rintro e w1 ⟨rfl, hb⟩; obtain ⟨_, _, hc, hf⟩ := bcellI hb; have hs := hb.size; (try simp at hs))
        | (go_at_call 43; refine (spec_l01Move_in _ _ _ _ _ B2.out.1 B2.out.2.1 B2.out.2.2 (by have := B1.out; omega) (by have := B1.out; omega) _).mono ?_; rintro e w1 ⟨rfl, hb⟩; obtain ⟨_, _, hc, hf⟩ := bcellI hb; have hs := hb.size; (try simp at hs)))
          refine bodyPost_ret (v := .tuple #[.agg #[.int .i64 (0), .int .i64 (0), .int .i64 (0)], .bool false]) (by simp [results, Try.results27, go_sem, *, ↓IntWalk.iteOmega]) rfl ⟨?_, (by repeat (first | with_reducible exact Below.refl _ _ | with_reducible assumption | with_reducible refine bel_alloc ?_ _ | with_reducible refine bel_drew ?_ | with_reducible refine bel_drewN ?_ _ | with_reducible refine bel_set ?_ (by (try simp) <;> omega) _ | with_reducible refine bel_trans ?_ (by assumption)))⟩
          have h4 : cpV a0 a1 a2 b0 b1 b2 = false := by simp [cpV, h3]
          simp [zI, h4]
    · have h4 : cpV a0 a1 a2 b0 b1 b2 = false := by simp [cpV, h2]
      go_enter Try.func27, Try.ntmps27
      go_wp2_with (first
        | (go_at_call 41; refine (spec_IsValidTransform _ _ _ _).mono ?_; rintro e w1 ⟨rfl, hb⟩; obtain ⟨_, _, hc, hf⟩ := bcellI hb; have hs := hb.size; (try simp at hs)))
      refine bodyPost_ret (v := .tuple #[.agg #[.int .i64 (0), .int .i64 (0), .int .i64 (0)], .bool false]) (by simp [results, Try.results27, go_sem, *, ↓IntWalk.iteOmega]) rfl ⟨?_, (by repeat (first | with_reducible exact Below.refl _ _ | with_reducible assumption | with_reducible refine bel_alloc ?_ _ | with_reducible refine bel_drew ?_ | with_reducible refine bel_drewN ?_ _ | with_reducible refine bel_set ?_ (by (try simp) <;> omega) _ | with_reducible refine bel_trans ?_ (by assumption)))⟩
      simp [zI, h4]
  · have h4 : cpV a0 a1 a2 b0 b1 b2 = false := by simp [cpV, h1]
    go_enter Try.func27, Try.ntmps27
    go_wp2_with (first
        | (go_at_call 41; refine (spec_IsValidTransform _ _ _ _).mono ?_; rintro e w1 ⟨rfl, hb⟩; obtain ⟨_, _, hc, hf⟩ := bcellI hb; have hs := hb.size; (try simp at hs)))
    refine bodyPost_ret (v := .tuple #[.agg #[.int .i64 (0), .int .i64 (0), .int .i64 (0)], .bool false]) (by simp [results, Try.results27, go_sem, *, ↓IntWalk.iteOmega]) rfl ⟨?_, (by repeat (first | with_reducible exact Below.refl _ _ | with_reducible assumption | with_reducible refine bel_alloc ?_ _ | with_reducible refine bel_drew ?_ | with_reducible refine bel_drewN ?_ _ | with_reducible refine bel_set ?_ (by (try simp) <;> omega) _ | with_reducible refine bel_trans ?_ (by assumption)))⟩
    simp [zI, h4]

def invO (o : Int) : Int := if o < 4 then -o % 4 else o
theorem invO_bounds {o : Int} (h : 0 ≤ o ∧ o ≤ 7) : 0 ≤ invO o ∧ invO o ≤ 7 := by unfold invO; split <;> omega
theorem invO_iff {o j : Int} (h : 0 ≤ o ∧ o ≤ 7) (hj : 0 ≤ j ∧ j ≤ 7) : compO o j = 0 ↔ j = invO o := by
  unfold compO invO; split <;> split <;> split <;> omega
set_option maxHeartbeats 1600000 in
theorem impl_InvertTransform (t0 t1 t2 : Int) (w : World) : Calls Try.prog 19 #[.agg #[.int .i64 t0, .int .i64 t1, .int .i64 t2]] w
    fun e w' => e = .returned (.tuple #[.agg #[.int .i64 (zI (vTr t0 t1 t2) (invO t0)), .int .i64 (zI (vTr t0 t1 t2) (turnX (invO t0) (-t1) (-t2))), .int .i64 (zI (vTr t0 t1 t2) (turnY (invO t0) (-t1) (-t2)))], .bool (vTr t0 t1 t2)]) ∧ Below w.heap.size w w' := by
  by_cases h1 : vTr t0 t1 t2 = true
  · obtain ⟨⟨a1, a2⟩, ⟨a3, a4⟩, a5, a6⟩ := vTr_iff.1 h1
    have N1 := hide (IntWalk.i64_in (-t1) (by omega))
    have N2 := hide (IntWalk.i64_in (-t2) (by omega))
    have hs1 : small (-t1) := small_of ⟨by omega, by omega⟩
    have hs2 : small (-t2) := small_of ⟨by omega, by omega⟩
    have S1 := hide hs1
    have S2 := hide hs2
    clear hs1 hs2
    by_cases h4 : t0 < 4
    · have hi : invO t0 = -t0 % 4 := by unfold invO; rw [if_pos h4]
      rw [hi]
      have HB := hide (show 0 ≤ -t0 % 4 ∧ -t0 % 4 ≤ 7 by omega)
      clear hi
      go_enter Try.func19, Try.ntmps19
      go_wp2_with (first
        | (go_at_call 44; refine (impl_IsValidTransform _ _ _ _).mono ?_; rintro e w1 ⟨rfl, hb⟩; obtain ⟨_, _, hc, hf⟩ := bcellI hb; have hs := hb.size; (try simp at hs))
        | (go_at_call 53; refine (impl_turn (-t0 % 4) (-t1) (-t2) HB.out S1.out S2.out _).mono ?_; rintro e w1 ⟨rfl, hb⟩; obtain ⟨_, _, hc, hf⟩ := bcellI hb; have hs := hb.size; (try simp at hs)))
      refine bodyPost_ret (v := .tuple #[.agg #[.int .i64 (-t0 % 4), .int .i64 (turnX (-t0 % 4) (-t1) (-t2)), .int .i64 (turnY (-t0 % 4) (-t1) (-t2))], .bool true]) (by simp [results, Try.results19, go_sem, *, ↓IntWalk.iteOmega]) rfl ⟨?_, (by repeat (first | with_reducible exact Below.refl _ _ | with_reducible assumption | with_reducible refine bel_alloc ?_ _ | with_reducible refine bel_drew ?_ | with_reducible refine bel_drewN ?_ _ | with_reducible refine bel_set ?_ (by (try simp) <;> omega) _ | with_reducible refine bel_trans ?_ (by assumption)))⟩
      simp [zI, h1]
    · have hi : invO t0 = t0 := by unfold invO; rw [if_neg h4]
      rw [hi]
      have HB := hide (show 0 ≤ t0 ∧ t0 ≤ 7 from ⟨a1, a2⟩)
      clear hi
      go_enter Try.func19, Try.ntmps19
      go_wp2_with (first
        | (go_at_call 44; refine (impl_IsValidTransform _ _ _ _).mono ?_; rintro e w1 ⟨rfl, hb⟩; obtain ⟨_, _, hc, hf⟩ := bcellI hb; have hs := hb.size; (try simp at hs))
        | (go_at_call 53; refine (impl_turn t0 (-t1) (-t2) HB.out S1.out S2.out _).mono ?_; rintro e w1 ⟨rfl, hb⟩; obtain ⟨_, _, hc, hf⟩ := bcellI hb; have hs := hb.size; (try simp at hs)))
      refine bodyPost_ret (v := .tuple #[.agg #[.int .i64 (t0), .int .i64 (turnX t0 (-t1) (-t2)), .int .i64 (turnY t0 (-t1) (-t2))], .bool true]) (by simp [results, Try.results19, go_sem, *, ↓IntWalk.iteOmega]) rfl ⟨?_, (by repeat (first | with_reducible exact Below.refl _ _ | with_reducible assumption | with_reducible refine bel_alloc ?_ _ | with_reducible refine bel_drew ?_ | with_reducible refine bel_drewN ?_ _ | with_reducible refine bel_set ?_ (by (try simp) <;> omega) _ | with_reducible refine bel_trans ?_ (by assumption)))⟩
      simp [zI, h1]
  · go_enter Try.func19, Try.ntmps19
    go_wp2_with (first
      | (go_at_call 44; refine (impl_IsValidTransform _ _ _ _).mono ?_; rintro e w1 ⟨rfl, hb⟩; obtain ⟨_, _, hc, hf⟩ := bcellI hb; have hs := hb.size; (try simp at hs)))
    refine bodyPost_ret (v := .tuple #[.agg #[.int .i64 (0), .int .i64 (0), .int .i64 (0)], .bool false]) (by simp [results, Try.results19, go_sem, *, ↓IntWalk.iteOmega]) rfl ⟨?_, (by repeat (first | with_reducible exact Below.refl _ _ | with_reducible assumption | with_reducible refine bel_alloc ?_ _ | with_reducible refine bel_drew ?_ | with_reducible refine bel_drewN ?_ _ | with_reducible refine bel_set ?_ (by (try simp) <;> omega) _ | with_reducible refine bel_trans ?_ (by assumption)))⟩
    simp [zI, h1]

def sinceI (n k : Nat) (x : Int) : Int := if n < k then x else 0
set_option maxHeartbeats 3200000 in
theorem spec_InvertTransform (t0 t1 t2 : Int) (w : World) : Calls Try.prog 18 #[.agg #[.int .i64 t0, .int .i64 t1, .int .i64 t2]] w
    fun e w' => e = .returned (.tuple #[.agg #[.int .i64 (zI (vTr t0 t1 t2) (invO t0)), .int .i64 (zI (vTr t0 t1 t2) (turnX (invO t0) (-t1) (-t2))), .int .i64 (zI (vTr t0 t1 t2) (turnY (invO t0) (-t1) (-t2)))], .bool (vTr t0 t1 t2)]) ∧ Below w.heap.size w w' := by
  by_cases h1 : vTr t0 t1 t2 = true
  · obtain ⟨hh0, ⟨a3, a4⟩, a5, a6⟩ := vTr_iff.1 h1
    have S1 := hide (show small (-t1) from small_of ⟨by omega, by omega⟩)
    have S2 := hide (show small (-t2) from small_of ⟨by omega, by omega⟩)
    obtain ⟨n, hn⟩ : ∃ n : Nat, (n : Int) = invO t0 := ⟨(invO t0).toNat, by have := invO_bounds hh0; omega⟩
    have hn8 : n < 8 := by have := invO_bounds hh0; omega
    rw [← hn]
    have HN := hide hn
    have H0 := hide hh0
    clear hn hh0
    go_enter Try.func18, Try.ntmps18
    go_wp2_with (first
      | (go_at_call 41; refine (spec_IsValidTransform _ _ _ _).mono ?_; rintro e w1 ⟨rfl, hb⟩; obtain ⟨_, _, hc, hf⟩ := bcellI hb; have hs := hb.size; (try simp at hs)))
    go_loopw [5] (fun sk wr => ∃ k : Nat, k ≤ 8 ∧ sk = .int .i64 k ∧ wr.cell? ⟨w.heap.size, 0, none⟩ = some (.int .i64 t0) ∧ wr.cell? ⟨w.heap.size, 1, none⟩ = some (.int .i64 t1) ∧ wr.cell? ⟨w.heap.size, 2, none⟩ = some (.int .i64 t2) ∧
        wr.cell? ⟨w.heap.size + 1, 0, none⟩ = some (.int .i64 0) ∧ wr.cell? ⟨w.heap.size + 1, 1, none⟩ = some (.int .i64 0) ∧ wr.cell? ⟨w.heap.size + 1, 2, none⟩ = some (.int .i64 0) ∧
        wr.frozen? ⟨w.heap.size + 1, 0, none⟩ = false ∧ wr.frozen? ⟨w.heap.size + 1, 1, none⟩ = false ∧ wr.frozen? ⟨w.heap.size + 1, 2, none⟩ = false ∧
        wr.cell? ⟨w1.heap.size, 0, none⟩ = some (.int .i64 (sinceI n k n)) ∧ wr.cell? ⟨w1.heap.size, 1, none⟩ = some (.int .i64 (sinceI n k (turnX n (-t1) (-t2)))) ∧ wr.cell? ⟨w1.heap.size, 2, none⟩ = some (.int .i64 (sinceI n k (turnY n (-t1) (-t2)))) ∧
        wr.frozen? ⟨w1.heap.size, 0, none⟩ = false ∧ wr.frozen? ⟨w1.heap.size, 1, none⟩ = false ∧ wr.frozen? ⟨w1.heap.size, 2, none⟩ = false ∧
        w.heap.size + 1 < w1.heap.size ∧ w1.heap.size < wr.heap.size ∧ Below w.heap.size w wr) (fun k _ => 8 - (intOf k).toNat)
    case atStart =>
      have Z0 : ∀ x : Int, sinceI n 0 x = 0 := fun x => by unfold sinceI; rw [if_neg (by omega)]
      refine ⟨0, by omega, rfl, ?_⟩
      exact (by (((repeat' apply And.intro) <;> first | (simp [go_sem, *, ↓IntWalk.iteOmega]; done) | (simp [go_sem, *, ↓IntWalk.iteOmega]; intros; omega) | (((try simp [*]) <;> omega); done) | (exact (by repeat (first | with_reducible exact Below.refl _ _ | with_reducible assumption | with_reducible refine bel_alloc ?_ _ | with_reducible refine bel_drew ?_ | with_reducible refine bel_drewN ?_ _ | with_reducible refine bel_set ?_ (by (try simp) <;> omega) _ | with_reducible refine bel_trans ?_ (by assumption)))))))
    case round =>
      obtain ⟨k, hk, rfl, b0, b1, b2, r0, r1, r2, q0, q1, q2, o0, o1, o2, p0, p1, p2, zl, zo, hbl⟩ := hrel
      clear hc hf hs hb
      by_cases h8 : k < 8
      · have hz := invO_iff H0.out (j := (k : Int)) ⟨by omega, by omega⟩
        by_cases he : k = n
        · subst he
          have hc0 : compO t0 k = 0 := hz.2 HN.out
          have Z1 : ∀ x : Int, sinceI k (k + 1) x = x := fun x => by unfold sinceI; rw [if_pos (by omega)]
          clear hz
          go_wp2_with (first
            | (go_at_call 51; refine (spec_l01Same t0 k H0.out (by omega) _).mono ?_; rintro e w1 ⟨rfl, hb⟩; obtain ⟨_, _, hc, hf⟩ := bcellI hb; have hs := hb.size; (try simp at hs))
            | (go_at_call 52; refine (spec_l01Turn k (-t1) (-t2) (by omega) S1.out S2.out _).mono ?_; rintro e w1 ⟨rfl, hb⟩; obtain ⟨_, _, hc, hf⟩ := bcellI hb; have hs := hb.size; (try simp at hs)))
          go_roundw
          case rel =>
            refine ⟨k + 1, by omega, by go_num, ?_⟩
            exact (by (((repeat' apply And.intro) <;> first | (simp [go_sem, *, ↓IntWalk.iteOmega]; done) | (simp [go_sem, *, ↓IntWalk.iteOmega]; intros; omega) | (((try simp [*]) <;> omega); done) | (exact (by repeat (first | with_reducible exact Below.refl _ _ | with_reducible assumption | with_reducible refine bel_alloc ?_ _ | with_reducible refine bel_drew ?_ | with_reducible refine bel_drewN ?_ _ | with_reducible refine bel_set ?_ (by (try simp) <;> omega) _ | with_reducible refine bel_trans ?_ (by assumption)))))))
          case measure => simp [intOf]; omega
        · have hc0 : ¬ compO t0 k = 0 := fun h => he (by have := hz.1 h; have := HN.out; omega)
          have Z2 : ∀ x : Int, sinceI n (k + 1) x = sinceI n k x := fun x => by
            unfold sinceI
            by_cases hq : n < k
            · rw [if_pos hq, if_pos (by omega)]
            · rw [if_neg hq, if_neg (by omega)]
          clear hz
          go_wp2_with (first
            | (go_at_call 51; refine (spec_l01Same t0 k H0.out (by omega) _).mono ?_; rintro e w1 ⟨rfl, hb⟩; obtain ⟨_, _, hc, hf⟩ := bcellI hb; have hs := hb.size; (try simp at hs)))
          go_roundw
          case rel =>
            refine ⟨k + 1, by omega, by go_num, ?_⟩
            exact (by (((repeat' apply And.intro) <;> first | (simp [go_sem, *, ↓IntWalk.iteOmega]; done) | (simp [go_sem, *, ↓IntWalk.iteOmega]; intros; omega) | (((try simp [*]) <;> omega); done) | (exact (by repeat (first | with_reducible exact Below.refl _ _ | with_reducible assumption | with_reducible refine bel_alloc ?_ _ | with_reducible refine bel_drew ?_ | with_reducible refine bel_drewN ?_ _ | with_reducible refine bel_set ?_ (by (try simp) <;> omega) _ | with_reducible refine bel_trans ?_ (by assumption)))))))
          case measure => simp [intOf]; omega
      · have Z3 : ∀ x : Int, sinceI n k x = x := fun x => by unfold sinceI; rw [if_pos (by omega)]
        go_wp2
        refine bodyPost_ret (v := .tuple #[.agg #[.int .i64 (n), .int .i64 (turnX n (-t1) (-t2)), .int .i64 (turnY n (-t1) (-t2))], .bool true]) (by simp [results, Try.results18, go_sem, *, ↓IntWalk.iteOmega]) rfl ⟨?_, (by repeat (first | with_reducible exact Below.refl _ _ | with_reducible assumption | with_reducible refine bel_alloc ?_ _ | with_reducible refine bel_drew ?_ | with_reducible refine bel_drewN ?_ _ | with_reducible refine bel_set ?_ (by (try simp) <;> omega) _ | with_reducible refine bel_trans ?_ (by assumption)))⟩
        simp [zI, h1]
  · go_enter Try.func18, Try.ntmps18
    go_wp2_with (first
      | (go_at_call 41; refine (spec_IsValidTransform _ _ _ _).mono ?_; rintro e w1 ⟨rfl, hb⟩; obtain ⟨_, _, hc, hf⟩ := bcellI hb; have hs := hb.size; (try simp at hs)))
    refine bodyPost_ret (v := .tuple #[.agg #[.int .i64 (0), .int .i64 (0), .int .i64 (0)], .bool false]) (by simp [results, Try.results18, go_sem, *, ↓IntWalk.iteOmega]) rfl ⟨?_, (by repeat (first | with_reducible exact Below.refl _ _ | with_reducible assumption | with_reducible refine bel_alloc ?_ _ | with_reducible refine bel_drew ?_ | with_reducible refine bel_drewN ?_ _ | with_reducible refine bel_set ?_ (by (try simp) <;> omega) _ | with_reducible refine bel_trans ?_ (by assumption)))⟩
    simp [zI, h1]
end Go.Proofs.Ythpfjhijkgmglaa
