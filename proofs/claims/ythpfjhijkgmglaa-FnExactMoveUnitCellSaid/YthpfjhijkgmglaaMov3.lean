/- Contracts: moving unit cells. -/
import Derived.Test.YthpfjhijkgmglaaMov2
namespace Go.Proofs.Ythpfjhijkgmglaa
open Go.RowKit
attribute [local go_sem high] run_max2 run_min2 run_max3 run_max4
attribute [local go_sem low] cell_alloc_ite frozen_alloc_ite

def mcX (o tx x y : Int) : Int := min (mvX o tx x y) (mvX o tx (x + 1) (y + 1))
def mcY (o ty x y : Int) : Int := min (mvY o ty x y) (mvY o ty (x + 1) (y + 1))
set_option maxHeartbeats 3200000 in
theorem impl_moveCell (o tx ty x y : Int) (ho : 0 ≤ o ∧ o ≤ 7) (htx : -80 ≤ tx ∧ tx ≤ 80) (hty : -80 ≤ ty ∧ ty ≤ 80) (hx : -50 ≤ x ∧ x ≤ 50) (hy : -50 ≤ y ∧ y ≤ 50) (w : World) :
    Calls Try.prog 50 #[.agg #[.int .i64 (o), .int .i64 (tx), .int .i64 (ty)], .agg #[.int .i64 (x), .int .i64 (y)]] w fun e w' => e = .returned (.agg #[.int .i64 (mcX o tx x y), .int .i64 (mcY o ty x y)]) ∧ Below w.heap.size w w' := by
  have HO := hide ho
  have HT := hide htx
  have HU := hide hty
  have HX := hide hx
  have HY := hide hy
  obtain ⟨x1, x2⟩ := hx
  obtain ⟨y1, y2⟩ := hy
  clear ho htx hty
  have W1 := hide (IntWalk.i64_in (x + 1) (by omega))
  have W2 := hide (IntWalk.i64_in (y + 1) (by omega))
  go_enter Try.func50, Try.ntmps50
  go_upto_region 1 with fail
  go_cut [5, 6] (fun s t wx => ∃ g h : Nat, s = .pointer (some ⟨g, 0, none⟩) ∧ t = .pointer (some ⟨h, 0, none⟩) ∧ wx.cell? ⟨g, 0, none⟩ = some (.int .i64 (mvX o tx x y)) ∧ wx.cell? ⟨g, 1, none⟩ = some (.int .i64 (mvY o ty x y)) ∧
    wx.cell? ⟨h, 0, none⟩ = some (.int .i64 (mvX o tx (x + 1) (y + 1))) ∧ wx.cell? ⟨h, 1, none⟩ = some (.int .i64 (mvY o ty (x + 1) (y + 1))) ∧ wx.cell? ⟨w.heap.size + 1 + 1, 0, none⟩ = some (.int .i64 0) ∧ wx.cell? ⟨w.heap.size + 1 + 1, 1, none⟩ = some (.int .i64 0) ∧
    wx.frozen? ⟨w.heap.size + 1 + 1, 0, none⟩ = false ∧ wx.frozen? ⟨w.heap.size + 1 + 1, 1, none⟩ = false ∧ Below w.heap.size w wx)
  case first =>
    go_region_held3 (fun w' => w'.cell? ⟨w.heap.size, 0, none⟩ = some (.int .i64 o) ∧ w'.cell? ⟨w.heap.size, 1, none⟩ = some (.int .i64 tx) ∧ w'.cell? ⟨w.heap.size, 2, none⟩ = some (.int .i64 ty) ∧
        w'.cell? ⟨w.heap.size + 1, 0, none⟩ = some (.int .i64 x) ∧ w'.cell? ⟨w.heap.size + 1, 1, none⟩ = some (.int .i64 y) ∧ w.heap.size + 1 + 1 < w'.heap.size ∧ Below w.heap.size w w')
      (((repeat' apply And.intro) <;> first | (simp [go_sem, *, ↓IntWalk.iteOmega]; done) | (simp [go_sem, *, ↓IntWalk.iteOmega]; intros; omega) | (((try simp [*]) <;> omega); done) | (exact (by repeat (first | with_reducible exact Below.refl _ _ | with_reducible assumption | with_reducible refine bel_alloc ?_ _ | with_reducible refine bel_drew ?_ | with_reducible refine bel_drewN ?_ _ | with_reducible refine bel_set ?_ (by (try simp) <;> omega) _ | with_reducible refine bel_trans ?_ (by assumption)))))) ((go_at_call 46; (try rw [W1.out, W2.out]); refine (impl_move_in _ _ _ _ _ HO.out HT.out HU.out (by omega) (by omega) _).mono ?_; rintro e w1 ⟨rfl, hb⟩; obtain ⟨_, _, hc, hf⟩ := bcellI hb; have hs := hb.size; (try simp at hs)))
    all_goals
      go_wp2_with fail
      go_meet
      refine ⟨_, _, rfl, rfl, ?_⟩
      exact (by (((repeat' apply And.intro) <;> first | (simp [go_sem, *, ↓IntWalk.iteOmega]; done) | (simp [go_sem, *, ↓IntWalk.iteOmega]; intros; omega) | (((try simp [*]) <;> omega); done) | (exact (by repeat (first | with_reducible exact Below.refl _ _ | with_reducible assumption | with_reducible refine bel_alloc ?_ _ | with_reducible refine bel_drew ?_ | with_reducible refine bel_drewN ?_ _ | with_reducible refine bel_set ?_ (by (try simp) <;> omega) _ | with_reducible refine bel_trans ?_ (by assumption)))))))
  case rest =>
    obtain ⟨g, h, rfl, rfl, c0, c1, c2, c3, c4, c5, f4, f5, hbl⟩ := hcut
    go_wp2
    refine bodyPost_ret (v := .agg #[.int .i64 (min (mvX o tx x y) (mvX o tx (x + 1) (y + 1))), .int .i64 (min (mvY o ty x y) (mvY o ty (x + 1) (y + 1)))]) (by simp [results, Try.results50, go_sem, *, ↓IntWalk.iteOmega]) rfl ⟨rfl, (by repeat (first | with_reducible exact Below.refl _ _ | with_reducible assumption | with_reducible refine bel_alloc ?_ _ | with_reducible refine bel_drew ?_ | with_reducible refine bel_drewN ?_ _ | with_reducible refine bel_set ?_ (by (try simp) <;> omega) _ | with_reducible refine bel_trans ?_ (by assumption)))⟩
set_option maxHeartbeats 1600000 in
theorem spec_l01Cell (o tx ty x y : Int) (ho : 0 ≤ o ∧ o ≤ 7) (htx : -80 ≤ tx ∧ tx ≤ 80) (hty : -80 ≤ ty ∧ ty ≤ 80) (hx : -50 ≤ x ∧ x ≤ 50) (hy : -50 ≤ y ∧ y ≤ 50) (w : World) :
    Calls Try.prog 48 #[.agg #[.int .i64 (o), .int .i64 (tx), .int .i64 (ty)], .agg #[.int .i64 (x), .int .i64 (y)]] w fun e w' => e = .returned (.agg #[.int .i64 (mcX o tx x y), .int .i64 (mcY o ty x y)]) ∧ Below w.heap.size w w' := by
  have HO := hide ho
  have HT := hide htx
  have HU := hide hty
  have HX := hide hx
  have HY := hide hy
  obtain ⟨x1, x2⟩ := hx
  obtain ⟨y1, y2⟩ := hy
  clear ho htx hty
  go_enter Try.func48, Try.ntmps48
  go_wp2_with fail
  refine (spec_l01Move_in o tx ty x y HO.out HT.out HU.out (by have := HX.out; omega) (by have := HY.out; omega) _).mono ?_
  rintro e w1 ⟨rfl, hb⟩; obtain ⟨_, _, hc, hf⟩ := bcellI hb; have hs := hb.size; (try simp at hs)
  go_wp2_with fail
  refine (spec_l01Move_in o tx ty (x + 1) (y + 1) HO.out HT.out HU.out (by have := HX.out; omega) (by have := HY.out; omega) _).mono ?_
  rintro e w1 ⟨rfl, hb⟩; obtain ⟨_, _, hc, hf⟩ := bcellI hb; have hs := hb.size; (try simp at hs)
  go_wp2
  refine bodyPost_ret (v := .agg #[.int .i64 (min (mvX o tx x y) (mvX o tx (x + 1) (y + 1))), .int .i64 (min (mvY o ty x y) (mvY o ty (x + 1) (y + 1)))]) (by simp [results, Try.results48, go_sem, *, ↓IntWalk.iteOmega]) rfl ⟨rfl, (by repeat (first | with_reducible exact Below.refl _ _ | with_reducible assumption | with_reducible refine bel_alloc ?_ _ | with_reducible refine bel_drew ?_ | with_reducible refine bel_drewN ?_ _ | with_reducible refine bel_set ?_ (by (try simp) <;> omega) _ | with_reducible refine bel_trans ?_ (by assumption)))⟩

set_option maxHeartbeats 1600000 in
theorem impl_MoveUnitCell (t0 t1 t2 p0 p1 : Int) (w : World) : Calls Try.prog 17 #[.agg #[.int .i64 t0, .int .i64 t1, .int .i64 t2], .agg #[.int .i64 p0, .int .i64 p1]] w
    fun e w' => e = .returned (.tuple #[.agg #[.int .i64 (zI (vTr t0 t1 t2 && vCell p0 p1) (mcX t0 t1 p0 p1)), .int .i64 (zI (vTr t0 t1 t2 && vCell p0 p1) (mcY t0 t2 p0 p1))], .bool (vTr t0 t1 t2 && vCell p0 p1)]) ∧ Below w.heap.size w w' := by
  by_cases h1 : vTr t0 t1 t2 = true
  · by_cases h2 : vCell p0 p1 = true
    · have B1 := hide (vTr_iff.1 h1)
      have B2 := hide (vCell_iff.1 h2)
      go_enter Try.func17, Try.ntmps17
      go_wp2_with (first
        | (go_at_call 44; refine (impl_IsValidTransform _ _ _ _).mono ?_; rintro e w1 ⟨rfl, hb⟩; obtain ⟨_, _, hc, hf⟩ := bcellI hb; have hs := hb.size; (try simp at hs))
        | (go_at_call 49; refine (impl_isUnitCell _ _ _).mono ?_; rintro e w1 ⟨rfl, hb⟩; obtain ⟨_, _, hc, hf⟩ := bcellI hb; have hs := hb.size; (try simp at hs))
        | (go_at_call 50; refine (impl_moveCell _ _ _ _ _ B1.out.1 B1.out.2.1 B1.out.2.2 (by have := B2.out; omega) (by have := B2.out; omega) _).mono ?_; rintro e w1 ⟨rfl, hb⟩; obtain ⟨_, _, hc, hf⟩ := bcellI hb; have hs := hb.size; (try simp at hs)))
      refine bodyPost_ret (v := .tuple #[.agg #[.int .i64 (mcX t0 t1 p0 p1), .int .i64 (mcY t0 t2 p0 p1)], .bool true]) (by simp [results, Try.results17, go_sem, *, ↓IntWalk.iteOmega]) rfl ⟨?_, (by repeat (first | with_reducible exact Below.refl _ _ | with_reducible assumption | with_reducible refine bel_alloc ?_ _ | with_reducible refine bel_drew ?_ | with_reducible refine bel_drewN ?_ _ | with_reducible refine bel_set ?_ (by (try simp) <;> omega) _ | with_reducible refine bel_trans ?_ (by assumption)))⟩
      simp [zI, h1, h2]
    · by_cases q1 : inR p0 (-40) 39 = true
      · have q2 : ¬ inR p1 (-40) 39 = true := fun q => h2 (by simp [vCell, q1, q])
        go_enter Try.func17, Try.ntmps17
        go_wp2_with (first
          | (go_at_call 44; refine (impl_IsValidTransform _ _ _ _).mono ?_; rintro e w1 ⟨rfl, hb⟩; obtain ⟨_, _, hc, hf⟩ := bcellI hb; have hs := hb.size; (try simp at hs))
          | (go_at_call 49; refine (impl_isUnitCell _ _ _).mono ?_; rintro e w1 ⟨rfl, hb⟩; obtain ⟨_, _, hc, hf⟩ := bcellI hb; have hs := hb.size; (try simp at hs)))
        refine bodyPost_ret (v := .tuple #[.agg #[.int .i64 (0), .int .i64 (0)], .bool false]) (by simp [results, Try.results17, go_sem, *, ↓IntWalk.iteOmega]) rfl ⟨?_, (by repeat (first | with_reducible exact Below.refl _ _ | with_reducible assumption | with_reducible refine bel_alloc ?_ _ | with_reducible refine bel_drew ?_ | with_reducible refine bel_drewN ?_ _ | with_reducible refine bel_set ?_ (by (try simp) <;> omega) _ | with_reducible refine bel_trans ?_ (by assumption)))⟩
        simp [zI, h2]
      · go_enter Try.func17, Try.ntmps17
        go_wp2_with (first
          | (go_at_call 44; refine (impl_IsValidTransform _ _ _ _).mono ?_; rintro e w1 ⟨rfl, hb⟩; obtain ⟨_, _, hc, hf⟩ := bcellI hb; have hs := hb.size; (try simp at hs))
          | (go_at_call 49; refine (impl_isUnitCell _ _ _).mono ?_; rintro e w1 ⟨rfl, hb⟩; obtain ⟨_, _, hc, hf⟩ := bcellI hb; have hs := hb.size; (try simp at hs)))
        refine bodyPost_ret (v := .tuple #[.agg #[.int .i64 (0), .int .i64 (0)], .bool false]) (by simp [results, Try.results17, go_sem, *, ↓IntWalk.iteOmega]) rfl ⟨?_, (by repeat (first | with_reducible exact Below.refl _ _ | with_reducible assumption | with_reducible refine bel_alloc ?_ _ | with_reducible refine bel_drew ?_ | with_reducible refine bel_drewN ?_ _ | with_reducible refine bel_set ?_ (by (try simp) <;> omega) _ | with_reducible refine bel_trans ?_ (by assumption)))⟩
        simp [zI, h2]
  · go_enter Try.func17, Try.ntmps17
    go_wp2_with (first
      | (go_at_call 44; refine (impl_IsValidTransform _ _ _ _).mono ?_; rintro e w1 ⟨rfl, hb⟩; obtain ⟨_, _, hc, hf⟩ := bcellI hb; have hs := hb.size; (try simp at hs)))
    refine bodyPost_ret (v := .tuple #[.agg #[.int .i64 (0), .int .i64 (0)], .bool false]) (by simp [results, Try.results17, go_sem, *, ↓IntWalk.iteOmega]) rfl ⟨?_, (by repeat (first | with_reducible exact Below.refl _ _ | with_reducible assumption | with_reducible refine bel_alloc ?_ _ | with_reducible refine bel_drew ?_ | with_reducible refine bel_drewN ?_ _ | with_reducible refine bel_set ?_ (by (try simp) <;> omega) _ | with_reducible refine bel_trans ?_ (by assumption)))⟩
    simp [zI, h1]

set_option maxHeartbeats 1600000 in
theorem spec_MoveUnitCell (t0 t1 t2 p0 p1 : Int) (w : World) : Calls Try.prog 16 #[.agg #[.int .i64 t0, .int .i64 t1, .int .i64 t2], .agg #[.int .i64 p0, .int .i64 p1]] w
    fun e w' => e = .returned (.tuple #[.agg #[.int .i64 (zI (vTr t0 t1 t2 && vCell p0 p1) (mcX t0 t1 p0 p1)), .int .i64 (zI (vTr t0 t1 t2 && vCell p0 p1) (mcY t0 t2 p0 p1))], .bool (vTr t0 t1 t2 && vCell p0 p1)]) ∧ Below w.heap.size w w' := by
  by_cases h1 : vTr t0 t1 t2 = true
  · by_cases h2 : vCell p0 p1 = true
    · have B1 := hide (vTr_iff.1 h1)
      have B2 := hide (vCell_iff.1 h2)
      have q1 := inR_iff.2 B2.out.1
      have q2 := inR_iff.2 B2.out.2
      go_enter Try.func16, Try.ntmps16
      go_wp2_with (first
        | (go_at_call 41; refine (spec_IsValidTransform _ _ _ _).mono ?_; rintro e w1 ⟨rfl, hb⟩; obtain ⟨_, _, hc, hf⟩ := bcellI hb; have hs := hb.size; (try simp at hs))
        | (go_at_call 47; refine (spec_l01In _ _ _ _).mono ?_; rintro e w1 ⟨rfl, rfl⟩)
        | (go_at_call 48; refine (spec_l01Cell _ _ _ _ _ B1.out.1 B1.out.2.1 B1.out.2.2 (by have := B2.out; omega) (by have := B2.out; omega) _).mono ?_; rintro e w1 ⟨rfl, hb⟩; obtain ⟨_, _, hc, hf⟩ := bcellI hb; have hs := hb.size; (try simp at hs)))
      refine bodyPost_ret (v := .tuple #[.agg #[.int .i64 (mcX t0 t1 p0 p1), .int .i64 (mcY t0 t2 p0 p1)], .bool true]) (by simp [results, Try.results16, go_sem, *, ↓IntWalk.iteOmega]) rfl ⟨?_, (by repeat (first | with_reducible exact Below.refl _ _ | with_reducible assumption | with_reducible refine bel_alloc ?_ _ | with_reducible refine bel_drew ?_ | with_reducible refine bel_drewN ?_ _ | with_reducible refine bel_set ?_ (by (try simp) <;> omega) _ | with_reducible refine bel_trans ?_ (by assumption)))⟩
      simp [zI, h1, h2]
    · by_cases q1 : inR p0 (-40) 39 = true
      · have q2 : ¬ inR p1 (-40) 39 = true := fun q => h2 (by simp [vCell, q1, q])
        go_enter Try.func16, Try.ntmps16
        go_wp2_with (first
          | (go_at_call 41; refine (spec_IsValidTransform _ _ _ _).mono ?_; rintro e w1 ⟨rfl, hb⟩; obtain ⟨_, _, hc, hf⟩ := bcellI hb; have hs := hb.size; (try simp at hs))
          | (go_at_call 47; refine (spec_l01In _ _ _ _).mono ?_; rintro e w1 ⟨rfl, rfl⟩))
        refine bodyPost_ret (v := .tuple #[.agg #[.int .i64 (0), .int .i64 (0)], .bool false]) (by simp [results, Try.results16, go_sem, *, ↓IntWalk.iteOmega]) rfl ⟨?_, (by repeat (first | with_reducible exact Below.refl _ _ | with_reducible assumption | with_reducible refine bel_alloc ?_ _ | with_reducible refine bel_drew ?_ | with_reducible refine bel_drewN ?_ _ | with_reducible refine bel_set ?_ (by (try simp) <;> omega) _ | with_reducible refine bel_trans ?_ (by assumption)))⟩
        simp [zI, h2]
      · go_enter Try.func16, Try.ntmps16
        go_wp2_with (first
          | (go_at_call 41; refine (spec_IsValidTransform _ _ _ _).mono ?_; rintro e w1 ⟨rfl, hb⟩; obtain ⟨_, _, hc, hf⟩ := bcellI hb; have hs := hb.size; (try simp at hs))
          | (go_at_call 47; refine (spec_l01In _ _ _ _).mono ?_; rintro e w1 ⟨rfl, rfl⟩))
        refine bodyPost_ret (v := .tuple #[.agg #[.int .i64 (0), .int .i64 (0)], .bool false]) (by simp [results, Try.results16, go_sem, *, ↓IntWalk.iteOmega]) rfl ⟨?_, (by repeat (first | with_reducible exact Below.refl _ _ | with_reducible assumption | with_reducible refine bel_alloc ?_ _ | with_reducible refine bel_drew ?_ | with_reducible refine bel_drewN ?_ _ | with_reducible refine bel_set ?_ (by (try simp) <;> omega) _ | with_reducible refine bel_trans ?_ (by assumption)))⟩
        simp [zI, h2]
  · go_enter Try.func16, Try.ntmps16
    go_wp2_with (first
      | (go_at_call 41; refine (spec_IsValidTransform _ _ _ _).mono ?_; rintro e w1 ⟨rfl, hb⟩; obtain ⟨_, _, hc, hf⟩ := bcellI hb; have hs := hb.size; (try simp at hs)))
    refine bodyPost_ret (v := .tuple #[.agg #[.int .i64 (0), .int .i64 (0)], .bool false]) (by simp [results, Try.results16, go_sem, *, ↓IntWalk.iteOmega]) rfl ⟨?_, (by repeat (first | with_reducible exact Below.refl _ _ | with_reducible assumption | with_reducible refine bel_alloc ?_ _ | with_reducible refine bel_drew ?_ | with_reducible refine bel_drewN ?_ _ | with_reducible refine bel_set ?_ (by (try simp) <;> omega) _ | with_reducible refine bel_trans ?_ (by assumption)))⟩
    simp [zI, h1]
end Go.Proofs.Ythpfjhijkgmglaa
