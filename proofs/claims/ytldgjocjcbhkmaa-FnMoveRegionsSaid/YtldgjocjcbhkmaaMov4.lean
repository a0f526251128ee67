/- Contracts: moving rectangles. -/
import Derived.Test.YtldgjocjcbhkmaaMov2
namespace Go.Proofs.Ytldgjocjcbhkmaa
open Go.RowKit
attribute [local go_sem high] run_max2 run_min2 run_max3 run_max4
attribute [local go_sem low] cell_alloc_ite frozen_alloc_ite

def mr0 (o tx x0 _y0 x1 _y1 : Int) : Int := min (mvX o tx x0 _y0) (mvX o tx x1 _y1)
def mr1 (o ty x0 y0 x1 y1 : Int) : Int := min (mvY o ty x0 y0) (mvY o ty x1 y1)
def mr2 (o tx x0 y0 x1 y1 : Int) : Int := max (mvX o tx x0 y0) (mvX o tx x1 y1)
def mr3 (o ty x0 y0 x1 y1 : Int) : Int := max (mvY o ty x0 y0) (mvY o ty x1 y1)
def mrV (t0 t1 t2 r0 r1 r2 r3 : Int) : Bool := vTr t0 t1 t2 && vRect r0 r1 r2 r3 && vRect (mr0 t0 t1 r0 r1 r2 r3) (mr1 t0 t2 r0 r1 r2 r3) (mr2 t0 t1 r0 r1 r2 r3) (mr3 t0 t2 r0 r1 r2 r3)
set_option maxRecDepth 100000 in
set_option maxHeartbeats 3200000 in
theorem impl_moveRect (o tx ty r0 r1 r2 r3 : Int) (ho : 0 ≤ o ∧ o ≤ 7) (htx : -80 ≤ tx ∧ tx ≤ 80) (hty : -80 ≤ ty ∧ ty ≤ 80) (h0 : -40 ≤ r0 ∧ r0 ≤ 40) (h1 : -40 ≤ r1 ∧ r1 ≤ 40) (h2 : -40 ≤ r2 ∧ r2 ≤ 40) (h3 : -40 ≤ r3 ∧ r3 ≤ 40) (w : World) :
    Calls Try.prog 119 #[.agg #[.int .i64 (o), .int .i64 (tx), .int .i64 (ty)], .agg #[.int .i64 r0, .int .i64 r1, .int .i64 r2, .int .i64 r3]] w fun e w' => e = .returned (.agg #[.int .i64 (mr0 o tx r0 r1 r2 r3), .int .i64 (mr1 o ty r0 r1 r2 r3), .int .i64 (mr2 o tx r0 r1 r2 r3), .int .i64 (mr3 o ty r0 r1 r2 r3)]) ∧ Below w.heap.size w w' := by
  have HO := hide ho
  have HT := hide htx
  have HU := hide hty
  have H0 := hide h0
  have H1 := hide h1
  have H2 := hide h2
  have H3 := hide h3
  clear ho htx hty h0 h1 h2 h3
  go_enter Try.func119, Try.ntmps119
  go_upto_region 1 with fail
  go_cut [5, 6] (fun s t wx => ∃ g h : Nat, s = .pointer (some ⟨g, 0, none⟩) ∧ t = .pointer (some ⟨h, 0, none⟩) ∧ wx.cell? ⟨g, 0, none⟩ = some (.int .i64 (mvX o tx r0 r1)) ∧ wx.cell? ⟨g, 1, none⟩ = some (.int .i64 (mvY o ty r0 r1)) ∧
    wx.cell? ⟨h, 0, none⟩ = some (.int .i64 (mvX o tx r2 r3)) ∧ wx.cell? ⟨h, 1, none⟩ = some (.int .i64 (mvY o ty r2 r3)) ∧ wx.cell? ⟨w.heap.size + 1 + 1, 0, none⟩ = some (.int .i64 0) ∧ wx.cell? ⟨w.heap.size + 1 + 1, 1, none⟩ = some (.int .i64 0) ∧
    wx.cell? ⟨w.heap.size + 1 + 1, 2, none⟩ = some (.int .i64 0) ∧ wx.cell? ⟨w.heap.size + 1 + 1, 3, none⟩ = some (.int .i64 0) ∧ wx.frozen? ⟨w.heap.size + 1 + 1, 0, none⟩ = false ∧ wx.frozen? ⟨w.heap.size + 1 + 1, 1, none⟩ = false ∧
    wx.frozen? ⟨w.heap.size + 1 + 1, 2, none⟩ = false ∧ wx.frozen? ⟨w.heap.size + 1 + 1, 3, none⟩ = false ∧ Below w.heap.size w wx)
  case first =>
    go_region_held3 (fun w' => w'.cell? ⟨w.heap.size, 0, none⟩ = some (.int .i64 o) ∧ w'.cell? ⟨w.heap.size, 1, none⟩ = some (.int .i64 tx) ∧ w'.cell? ⟨w.heap.size, 2, none⟩ = some (.int .i64 ty) ∧
        w'.cell? ⟨w.heap.size + 1, 0, none⟩ = some (.int .i64 r0) ∧ w'.cell? ⟨w.heap.size + 1, 1, none⟩ = some (.int .i64 r1) ∧ w'.cell? ⟨w.heap.size + 1, 2, none⟩ = some (.int .i64 r2) ∧ w'.cell? ⟨w.heap.size + 1, 3, none⟩ = some (.int .i64 r3) ∧ w.heap.size + 1 + 1 < w'.heap.size ∧ Below w.heap.size w w')
      (((repeat' apply And.intro) <;> first | (simp [go_sem, *]; done) | (simp [go_sem, *]; intros; omega) | (((try simp [*]) <;> omega); done) | ((repeat (first | with_reducible exact Below.refl _ _ | with_reducible assumption | with_reducible refine bel_alloc ?_ _ | with_reducible refine bel_drew ?_ | with_reducible refine bel_drewN ?_ _ | with_reducible refine bel_set ?_ (by (try simp) <;> omega) _ | with_reducible refine bel_trans ?_ (by assumption))); done) | (simp [go_sem, *, ↓IntWalk.iteOmega]; done) | (simp [go_sem, *, ↓IntWalk.iteOmega]; intros; omega))) ((go_at_call 131; refine (impl_move_in _ _ _ _ _ HO.out HT.out HU.out (by have := H0.out; have := H1.out; have := H2.out; have := H3.out; omega) (by have := H0.out; have := H1.out; have := H2.out; have := H3.out; omega) _).mono ?_; rintro e w1 ⟨rfl, hb⟩; obtain ⟨_, _, hc, hf⟩ := bcellI hb; have hs := hb.size; (try simp at hs)))
    all_goals
      go_wp2_with fail
      go_meet
      refine ⟨_, _, rfl, rfl, ?_⟩
      exact (by (((repeat' apply And.intro) <;> first | (simp [go_sem, *]; done) | (simp [go_sem, *]; intros; omega) | (((try simp [*]) <;> omega); done) | ((repeat (first | with_reducible exact Below.refl _ _ | with_reducible assumption | with_reducible refine bel_alloc ?_ _ | with_reducible refine bel_drew ?_ | with_reducible refine bel_drewN ?_ _ | with_reducible refine bel_set ?_ (by (try simp) <;> omega) _ | with_reducible refine bel_trans ?_ (by assumption))); done) | (simp [go_sem, *, ↓IntWalk.iteOmega]; done) | (simp [go_sem, *, ↓IntWalk.iteOmega]; intros; omega))))
  case rest =>
    obtain ⟨g, h, rfl, rfl, c0, c1, c2, c3, c4, c5, c6, c7, f4, f5, f6, f7, hbl⟩ := hcut
    go_wp2
    refine bodyPost_ret (v := .agg #[.int .i64 (mr0 o tx r0 r1 r2 r3), .int .i64 (mr1 o ty r0 r1 r2 r3), .int .i64 (mr2 o tx r0 r1 r2 r3), .int .i64 (mr3 o ty r0 r1 r2 r3)]) (by first | (simp [results, Try.results119, go_sem, *, mr0, mr1, mr2, mr3]; done) | simp [results, Try.results119, go_sem, *, ↓IntWalk.iteOmega, mr0, mr1, mr2, mr3]) rfl ⟨rfl, (by repeat (first | with_reducible exact Below.refl _ _ | with_reducible assumption | with_reducible refine bel_alloc ?_ _ | with_reducible refine bel_drew ?_ | with_reducible refine bel_drewN ?_ _ | with_reducible refine bel_set ?_ (by (try simp) <;> omega) _ | with_reducible refine bel_trans ?_ (by assumption)))⟩
set_option maxRecDepth 100000 in
set_option maxHeartbeats 1600000 in
theorem spec_l02Move (o tx ty r0 r1 r2 r3 : Int) (ho : 0 ≤ o ∧ o ≤ 7) (htx : -80 ≤ tx ∧ tx ≤ 80) (hty : -80 ≤ ty ∧ ty ≤ 80) (h0 : -40 ≤ r0 ∧ r0 ≤ 40) (h1 : -40 ≤ r1 ∧ r1 ≤ 40) (h2 : -40 ≤ r2 ∧ r2 ≤ 40) (h3 : -40 ≤ r3 ∧ r3 ≤ 40) (w : World) :
    Calls Try.prog 146 #[.agg #[.int .i64 (o), .int .i64 (tx), .int .i64 (ty)], .agg #[.int .i64 r0, .int .i64 r1, .int .i64 r2, .int .i64 r3]] w fun e w' => e = .returned (.agg #[.int .i64 (mr0 o tx r0 r1 r2 r3), .int .i64 (mr1 o ty r0 r1 r2 r3), .int .i64 (mr2 o tx r0 r1 r2 r3), .int .i64 (mr3 o ty r0 r1 r2 r3)]) ∧ Below w.heap.size w w' := by
  have HO := hide ho
  have HT := hide htx
  have HU := hide hty
  have H0 := hide h0
  have H1 := hide h1
  have H2 := hide h2
  have H3 := hide h3
  clear ho htx hty h0 h1 h2 h3
  go_enter Try.func146, Try.ntmps146
  go_wp2_with fail
  refine (spec_l01Move_in o tx ty r0 r1 HO.out HT.out HU.out (by have := H0.out; omega) (by have := H1.out; omega) _).mono ?_
  rintro e w1 ⟨rfl, hb⟩; obtain ⟨_, _, hc, hf⟩ := bcellI hb; have hs := hb.size; (try simp at hs)
  go_wp2_with fail
  refine (spec_l01Move_in o tx ty r2 r3 HO.out HT.out HU.out (by have := H2.out; omega) (by have := H3.out; omega) _).mono ?_
  rintro e w1 ⟨rfl, hb⟩; obtain ⟨_, _, hc, hf⟩ := bcellI hb; have hs := hb.size; (try simp at hs)
  go_wp2
  refine bodyPost_ret (v := .agg #[.int .i64 (mr0 o tx r0 r1 r2 r3), .int .i64 (mr1 o ty r0 r1 r2 r3), .int .i64 (mr2 o tx r0 r1 r2 r3), .int .i64 (mr3 o ty r0 r1 r2 r3)]) (by first | (simp [results, Try.results146, go_sem, *, mr0, mr1, mr2, mr3]; done) | simp [results, Try.results146, go_sem, *, ↓IntWalk.iteOmega, mr0, mr1, mr2, mr3]) rfl ⟨rfl, (by repeat (first | with_reducible exact Below.refl _ _ | with_reducible assumption | with_reducible refine bel_alloc ?_ _ | with_reducible refine bel_drew ?_ | with_reducible refine bel_drewN ?_ _ | with_reducible refine bel_set ?_ (by (try simp) <;> omega) _ | with_reducible refine bel_trans ?_ (by assumption)))⟩


end Go.Proofs.Ytldgjocjcbhkmaa
