/- Contracts: moving edges. -/
import Derived.Test.YthpfjhijkgmglaaMov2
import Derived.Test.YthpfjhijkgmglaaGeo3
namespace Go.Proofs.Ythpfjhijkgmglaa
open Go.RowKit
attribute [local go_sem low] cell_alloc_ite frozen_alloc_ite

def me0 (o tx x0 y0 x1 y1 : Int) : Int := if 4 ≤ o then mvX o tx x1 y1 else mvX o tx x0 y0
def me1 (o ty x0 y0 x1 y1 : Int) : Int := if 4 ≤ o then mvY o ty x1 y1 else mvY o ty x0 y0
def me2 (o tx x0 y0 x1 y1 : Int) : Int := if 4 ≤ o then mvX o tx x0 y0 else mvX o tx x1 y1
def me3 (o ty x0 y0 x1 y1 : Int) : Int := if 4 ≤ o then mvY o ty x0 y0 else mvY o ty x1 y1
def meV (t0 t1 t2 r0 r1 r2 r3 : Int) : Bool := vTr t0 t1 t2 && vEdge r0 r1 r2 r3 && vPt (mvX t0 t1 r0 r1) (mvY t0 t2 r0 r1) && vPt (mvX t0 t1 r2 r3) (mvY t0 t2 r2 r3)
theorem elenF_pos {r0 r1 r2 r3 : Int} (h : vEdge r0 r1 r2 r3 = true) : 0 ≤ elenF r0 r1 r2 r3 := by unfold elenF; rw [if_pos h]; unfold absI; omega
theorem elenF_neg {r0 r1 r2 r3 : Int} (h : ¬ vEdge r0 r1 r2 r3 = true) : elenF r0 r1 r2 r3 = -1 := by unfold elenF; rw [if_neg h]

set_option maxHeartbeats 6400000 in
theorem impl_MoveEdge (t0 t1 t2 r0 r1 r2 r3 : Int) (w : World) : Calls Try.prog 34 #[.agg #[.int .i64 t0, .int .i64 t1, .int .i64 t2], .agg #[.int .i64 r0, .int .i64 r1, .int .i64 r2, .int .i64 r3]] w
    fun e w' => e = .returned ((.tuple #[.agg #[.int .i64 (zI (meV t0 t1 t2 r0 r1 r2 r3) (me0 t0 t1 r0 r1 r2 r3)), .int .i64 (zI (meV t0 t1 t2 r0 r1 r2 r3) (me1 t0 t2 r0 r1 r2 r3)), .int .i64 (zI (meV t0 t1 t2 r0 r1 r2 r3) (me2 t0 t1 r0 r1 r2 r3)), .int .i64 (zI (meV t0 t1 t2 r0 r1 r2 r3) (me3 t0 t2 r0 r1 r2 r3))], .bool (meV t0 t1 t2 r0 r1 r2 r3)])) ∧ Below w.heap.size w w' := by
  by_cases h1 : vTr t0 t1 t2 = true
  · by_cases h2 : vEdge r0 r1 r2 r3 = true
    · have B1 := hide (vTr_iff.1 h1)
      have B2 := hide (vEdge_iff.1 h2)
      have hL := elenF_pos h2
      go_enter Try.func34, Try.ntmps34
      go_upto_region 3 with (first
      | (go_at_call 44; refine (impl_IsValidTransform _ _ _ _).mono ?_; rintro e w1 ⟨rfl, hb⟩; obtain ⟨_, _, hc, hf⟩ := bcellI hb; have hs := hb.size; (try simp at hs))
      | (go_at_call 63; refine (impl_EdgeLength _ _ _ _ _).mono ?_; rintro e w1 ⟨rfl, hb⟩; obtain ⟨_, _, hc, hf⟩ := bcellI hb; have hs := hb.size; (try simp at hs)))
      go_cut [6, 7] (fun s t wx => ∃ g h : Nat, s = .pointer (some ⟨g, 0, none⟩) ∧ t = .pointer (some ⟨h, 0, none⟩) ∧ wx.cell? ⟨g, 0, none⟩ = some (.int .i64 (mvX t0 t1 r0 r1)) ∧ wx.cell? ⟨g, 1, none⟩ = some (.int .i64 (mvY t0 t2 r0 r1)) ∧ wx.cell? ⟨h, 0, none⟩ = some (.int .i64 (mvX t0 t1 r2 r3)) ∧ wx.cell? ⟨h, 1, none⟩ = some (.int .i64 (mvY t0 t2 r2 r3)) ∧ wx.frozen? ⟨g, 0, none⟩ = false ∧ wx.frozen? ⟨g, 1, none⟩ = false ∧ wx.frozen? ⟨h, 0, none⟩ = false ∧ wx.frozen? ⟨h, 1, none⟩ = false ∧ wx.cell? ⟨w.heap.size, 0, none⟩ = some (.int .i64 t0) ∧ wx.cell? ⟨w.heap.size + 1 + 1, 0, none⟩ = some (.int .i64 0) ∧ wx.cell? ⟨w.heap.size + 1 + 1, 1, none⟩ = some (.int .i64 0) ∧ wx.cell? ⟨w.heap.size + 1 + 1, 2, none⟩ = some (.int .i64 0) ∧ wx.cell? ⟨w.heap.size + 1 + 1, 3, none⟩ = some (.int .i64 0) ∧ wx.frozen? ⟨w.heap.size + 1 + 1, 0, none⟩ = false ∧ wx.frozen? ⟨w.heap.size + 1 + 1, 1, none⟩ = false ∧ wx.frozen? ⟨w.heap.size + 1 + 1, 2, none⟩ = false ∧ wx.frozen? ⟨w.heap.size + 1 + 1, 3, none⟩ = false ∧ w.heap.size + 1 + 1 < g ∧ w.heap.size + 1 + 1 < h ∧ g ≠ h ∧ g < wx.heap.size ∧ h < wx.heap.size ∧ Below w.heap.size w wx)
      case first =>
        go_region_held3 (fun w' => w'.cell? ⟨w.heap.size, 0, none⟩ = some (.int .i64 t0) ∧ w'.cell? ⟨w.heap.size, 1, none⟩ = some (.int .i64 t1) ∧ w'.cell? ⟨w.heap.size, 2, none⟩ = some (.int .i64 t2) ∧ w'.cell? ⟨w.heap.size + 1, 0, none⟩ = some (.int .i64 r0) ∧ w'.cell? ⟨w.heap.size + 1, 1, none⟩ = some (.int .i64 r1) ∧ w'.cell? ⟨w.heap.size + 1, 2, none⟩ = some (.int .i64 r2) ∧ w'.cell? ⟨w.heap.size + 1, 3, none⟩ = some (.int .i64 r3) ∧ w.heap.size + 1 + 1 < w'.heap.size ∧ w'.cell? ⟨w.heap.size + 1 + 1, 0, none⟩ = some (.int .i64 0) ∧ w'.cell? ⟨w.heap.size + 1 + 1, 1, none⟩ = some (.int .i64 0) ∧ w'.cell? ⟨w.heap.size + 1 + 1, 2, none⟩ = some (.int .i64 0) ∧ w'.cell? ⟨w.heap.size + 1 + 1, 3, none⟩ = some (.int .i64 0) ∧ w'.frozen? ⟨w.heap.size + 1 + 1, 0, none⟩ = false ∧ w'.frozen? ⟨w.heap.size + 1 + 1, 1, none⟩ = false ∧ w'.frozen? ⟨w.heap.size + 1 + 1, 2, none⟩ = false ∧ w'.frozen? ⟨w.heap.size + 1 + 1, 3, none⟩ = false ∧ Below w.heap.size w w')
          (((repeat' apply And.intro) <;> first | (simp [go_sem, *, ↓IntWalk.iteOmega]; done) | (simp [go_sem, *, ↓IntWalk.iteOmega]; intros; omega) | (((try simp [*]) <;> omega); done) | (exact (by repeat (first | with_reducible exact Below.refl _ _ | with_reducible assumption | with_reducible refine bel_alloc ?_ _ | with_reducible refine bel_drew ?_ | with_reducible refine bel_drewN ?_ _ | with_reducible refine bel_set ?_ (by (try simp) <;> omega) _ | with_reducible refine bel_trans ?_ (by assumption)))))) (((go_at_call 46; refine (impl_move_in _ _ _ _ _ B1.out.1 B1.out.2.1 B1.out.2.2 (by have := B2.out; omega) (by have := B2.out; omega) _).mono ?_; rintro e w1 ⟨rfl, hb⟩; obtain ⟨_, _, hc, hf⟩ := bcellI hb; have hs := hb.size; (try simp at hs))))
        all_goals
          go_wp2_with fail
          go_meet
          refine ⟨_, _, rfl, rfl, ?_⟩
          exact (by (((repeat' apply And.intro) <;> first | (simp [go_sem, *, ↓IntWalk.iteOmega]; done) | (simp [go_sem, *, ↓IntWalk.iteOmega]; intros; omega) | (((try simp [*]) <;> omega); done) | (exact (by repeat (first | with_reducible exact Below.refl _ _ | with_reducible assumption | with_reducible refine bel_alloc ?_ _ | with_reducible refine bel_drew ?_ | with_reducible refine bel_drewN ?_ _ | with_reducible refine bel_set ?_ (by (try simp) <;> omega) _ | with_reducible refine bel_trans ?_ (by assumption)))))))
      case rest =>
        obtain ⟨g, h, rfl, rfl, c0, c1, c2, c3, f0, f1, f2, f3, ct, cr0, cr1, cr2, cr3, fr0, fr1, fr2, fr3, zg, zh, zne, zg2, zh2, hbl⟩ := hcut
        by_cases h3 : vPt (mvX t0 t1 r0 r1) (mvY t0 t2 r0 r1) = true
        · by_cases h4 : vPt (mvX t0 t1 r2 r3) (mvY t0 t2 r2 r3) = true
          · by_cases h5 : 4 ≤ t0
            · go_wp2_with (first
        | (go_at_call 44; refine (impl_IsValidTransform _ _ _ _).mono ?_; rintro e w1 ⟨rfl, hb⟩; obtain ⟨_, _, hc, hf⟩ := bcellI hb; have hs := hb.size; (try simp at hs))
        | (go_at_call 63; refine (impl_EdgeLength _ _ _ _ _).mono ?_; rintro e w1 ⟨rfl, hb⟩; obtain ⟨_, _, hc, hf⟩ := bcellI hb; have hs := hb.size; (try simp at hs))
        | (go_at_call 46; refine (impl_move_in _ _ _ _ _ B1.out.1 B1.out.2.1 B1.out.2.2 (by have := B2.out; omega) (by have := B2.out; omega) _).mono ?_; rintro e w1 ⟨rfl, hb⟩; obtain ⟨_, _, hc, hf⟩ := bcellI hb; have hs := hb.size; (try simp at hs))
        | (go_at_call 45; refine (impl_onChip _ _ _).mono ?_; rintro e w1 ⟨rfl, hb⟩; obtain ⟨_, _, hc, hf⟩ := bcellI hb; have hs := hb.size; (try simp at hs)))
              refine bodyPost_ret (v := .tuple #[.agg #[.int .i64 (mvX t0 t1 r2 r3), .int .i64 (mvY t0 t2 r2 r3), .int .i64 (mvX t0 t1 r0 r1), .int .i64 (mvY t0 t2 r0 r1)], .bool true]) (by simp [results, Try.results34, go_sem, *, ↓IntWalk.iteOmega]) rfl ⟨?_, (by repeat (first | with_reducible exact Below.refl _ _ | with_reducible assumption | with_reducible refine bel_alloc ?_ _ | with_reducible refine bel_drew ?_ | with_reducible refine bel_drewN ?_ _ | with_reducible refine bel_set ?_ (by (try simp) <;> omega) _ | with_reducible refine bel_trans ?_ (by assumption)))⟩
              have h6 : meV t0 t1 t2 r0 r1 r2 r3 = true := by simp [meV, h1, h2, h3, h4]
              simp [zI, h6, me0, me1, me2, me3, h5]
            · go_wp2_with (first
        | (go_at_call 44; refine (impl_IsValidTransform _ _ _ _).mono ?_; rintro e w1 ⟨rfl, hb⟩; obtain ⟨_, _, hc, hf⟩ := bcellI hb; have hs := hb.size; (try simp at hs))
        | (go_at_call 63; refine (impl_EdgeLength _ _ _ _ _).mono ?_; rintro e w1 ⟨rfl, hb⟩; obtain ⟨_, _, hc, hf⟩ := bcellI hb; have hs := hb.size; (try simp at hs))
        | (go_at_call 46; refine (impl_move_in _ _ _ _ _ B1.out.1 B1.out.2.1 B1.out.2.2 (by have := B2.out; omega) (by have := B2.out; omega) _).mono ?_; rintro e w1 ⟨rfl, hb⟩; obtain ⟨_, _, hc, hf⟩ := bcellI hb; have hs := hb.size; (try simp at hs))
        | (go_at_call 45; refine (impl_onChip _ _ _).mono ?_; rintro e w1 ⟨rfl, hb⟩; obtain ⟨_, _, hc, hf⟩ := bcellI hb; have hs := hb.size; (try simp at hs)))
              refine bodyPost_ret (v := .tuple #[.agg #[.int .i64 (mvX t0 t1 r0 r1), .int .i64 (mvY t0 t2 r0 r1), .int .i64 (mvX t0 t1 r2 r3), .int .i64 (mvY t0 t2 r2 r3)], .bool true]) (by simp [results, Try.results34, go_sem, *, ↓IntWalk.iteOmega]) rfl ⟨?_, (by repeat (first | with_reducible exact Below.refl _ _ | with_reducible assumption | with_reducible refine bel_alloc ?_ _ | with_reducible refine bel_drew ?_ | with_reducible refine bel_drewN ?_ _ | with_reducible refine bel_set ?_ (by (try simp) <;> omega) _ | with_reducible refine bel_trans ?_ (by assumption)))⟩
              have h6 : meV t0 t1 t2 r0 r1 r2 r3 = true := by simp [meV, h1, h2, h3, h4]
              have h7 : ∀ x y : Int, (if 4 ≤ t0 then x else y) = y := fun x y => if_neg (by omega)
              simp [zI, h6, me0, me1, me2, me3, h7]
          · go_wp2_with (first
        | (go_at_call 44; refine (impl_IsValidTransform _ _ _ _).mono ?_; rintro e w1 ⟨rfl, hb⟩; obtain ⟨_, _, hc, hf⟩ := bcellI hb; have hs := hb.size; (try simp at hs))
        | (go_at_call 63; refine (impl_EdgeLength _ _ _ _ _).mono ?_; rintro e w1 ⟨rfl, hb⟩; obtain ⟨_, _, hc, hf⟩ := bcellI hb; have hs := hb.size; (try simp at hs))
        | (go_at_call 46; refine (impl_move_in _ _ _ _ _ B1.out.1 B1.out.2.1 B1.out.2.2 (by have := B2.out; omega) (by have := B2.out; omega) _).mono ?_; rintro e w1 ⟨rfl, hb⟩; obtain ⟨_, _, hc, hf⟩ := bcellI hb; have hs := hb.size; (try simp at hs))
        | (go_at_call 45; refine (impl_onChip _ _ _).mono ?_; rintro e w1 ⟨rfl, hb⟩; obtain ⟨_, _, hc, hf⟩ := bcellI hb; have hs := hb.size; (try simp at hs)))
            refine bodyPost_ret (v := .tuple #[.agg #[.int .i64 (0), .int .i64 (0), .int .i64 (0), .int .i64 (0)], .bool false]) (by simp [results, Try.results34, go_sem, *, ↓IntWalk.iteOmega]) rfl ⟨?_, (by repeat (first | with_reducible exact Below.refl _ _ | with_reducible assumption | with_reducible refine bel_alloc ?_ _ | with_reducible refine bel_drew ?_ | with_reducible refine bel_drewN ?_ _ | with_reducible refine bel_set ?_ (by (try simp) <;> omega) _ | with_reducible refine bel_trans ?_ (by assumption)))⟩
            have h6 : meV t0 t1 t2 r0 r1 r2 r3 = false := by simp [meV, h4]
            simp [zI, h6]
        · go_wp2_with (first
        | (go_at_call 44; refine (impl_IsValidTransform _ _ _ _).mono ?_; rintro e w1 ⟨rfl, hb⟩; obtain ⟨_, _, hc, hf⟩ := bcellI hb; have hs := hb.size; (try simp at hs))
        | (go_at_call 63; refine (impl_EdgeLength _ _ _ _ _).mono ?_; rintro e w1 ⟨rfl, hb⟩; obtain ⟨_, _, hc, hf⟩ := bcellI hb; have hs := hb.size; (try simp at hs))
        | (go_at_call 46; refine (impl_move_in _ _ _ _ _ B1.out.1 B1.out.2.1 B1.out.2.2 (by have := B2.out; omega) (by have := B2.out; omega) _).mono ?_; rintro e w1 ⟨rfl, hb⟩; obtain ⟨_, _, hc, hf⟩ := bcellI hb; have hs := hb.size; (try simp at hs))
        | (go_at_call 45; refine (impl_onChip _ _ _).mono ?_; rintro e w1 ⟨rfl, hb⟩; obtain ⟨_, _, hc, hf⟩ := bcellI hb; have hs := hb.size; (try simp at hs)))
          refine bodyPost_ret (v := .tuple #[.agg #[.int .i64 (0), .int .i64 (0), .int .i64 (0), .int .i64 (0)], .bool false]) (by simp [results, Try.results34, go_sem, *, ↓IntWalk.iteOmega]) rfl ⟨?_, (by repeat (first | with_reducible exact Below.refl _ _ | with_reducible assumption | with_reducible refine bel_alloc ?_ _ | with_reducible refine bel_drew ?_ | with_reducible refine bel_drewN ?_ _ | with_reducible refine bel_set ?_ (by (try simp) <;> omega) _ | with_reducible refine bel_trans ?_ (by assumption)))⟩
          have h6 : meV t0 t1 t2 r0 r1 r2 r3 = false := by simp [meV, h3]
          simp [zI, h6]
    · have hL := elenF_neg h2
      have h6 : meV t0 t1 t2 r0 r1 r2 r3 = false := by simp [meV, h2]
      go_enter Try.func34, Try.ntmps34
      go_wp2_with (first
        | (go_at_call 44; refine (impl_IsValidTransform _ _ _ _).mono ?_; rintro e w1 ⟨rfl, hb⟩; obtain ⟨_, _, hc, hf⟩ := bcellI hb; have hs := hb.size; (try simp at hs))
        | (go_at_call 63; refine (impl_EdgeLength _ _ _ _ _).mono ?_; rintro e w1 ⟨rfl, hb⟩; obtain ⟨_, _, hc, hf⟩ := bcellI hb; have hs := hb.size; (try simp at hs)))
      refine bodyPost_ret (v := .tuple #[.agg #[.int .i64 (0), .int .i64 (0), .int .i64 (0), .int .i64 (0)], .bool false]) (by simp [results, Try.results34, go_sem, *, ↓IntWalk.iteOmega]) rfl ⟨?_, (by repeat (first | with_reducible exact Below.refl _ _ | with_reducible assumption | with_reducible refine bel_alloc ?_ _ | with_reducible refine bel_drew ?_ | with_reducible refine bel_drewN ?_ _ | with_reducible refine bel_set ?_ (by (try simp) <;> omega) _ | with_reducible refine bel_trans ?_ (by assumption)))⟩
      simp [zI, h6]
  · have h6 : meV t0 t1 t2 r0 r1 r2 r3 = false := by simp [meV, h1]
    go_enter Try.func34, Try.ntmps34
    go_wp2_with (first
        | (go_at_call 44; refine (impl_IsValidTransform _ _ _ _).mono ?_; rintro e w1 ⟨rfl, hb⟩; obtain ⟨_, _, hc, hf⟩ := bcellI hb; have hs := hb.size; (try simp at hs))
        | (go_at_call 63; refine (impl_EdgeLength _ _ _ _ _).mono ?_; rintro e w1 ⟨rfl, hb⟩; obtain ⟨_, _, hc, hf⟩ := bcellI hb; have hs := hb.size; (try simp at hs)))
    refine bodyPost_ret (v := .tuple #[.agg #[.int .i64 (0), .int .i64 (0), .int .i64 (0), .int .i64 (0)], .bool false]) (by simp [results, Try.results34, go_sem, *, ↓IntWalk.iteOmega]) rfl ⟨?_, (by repeat (first | with_reducible exact Below.refl _ _ | with_reducible assumption | with_reducible refine bel_alloc ?_ _ | with_reducible refine bel_drew ?_ | with_reducible refine bel_drewN ?_ _ | with_reducible refine bel_set ?_ (by (try simp) <;> omega) _ | with_reducible refine bel_trans ?_ (by assumption)))⟩
    simp [zI, h6]

set_option maxHeartbeats 6400000 in
theorem spec_MoveEdge (t0 t1 t2 r0 r1 r2 r3 : Int) (w : World) : Calls Try.prog 32 #[.agg #[.int .i64 t0, .int .i64 t1, .int .i64 t2], .agg #[.int .i64 r0, .int .i64 r1, .int .i64 r2, .int .i64 r3]] w
    fun e w' => e = .returned ((.tuple #[.agg #[.int .i64 (zI (meV t0 t1 t2 r0 r1 r2 r3) (me0 t0 t1 r0 r1 r2 r3)), .int .i64 (zI (meV t0 t1 t2 r0 r1 r2 r3) (me1 t0 t2 r0 r1 r2 r3)), .int .i64 (zI (meV t0 t1 t2 r0 r1 r2 r3) (me2 t0 t1 r0 r1 r2 r3)), .int .i64 (zI (meV t0 t1 t2 r0 r1 r2 r3) (me3 t0 t2 r0 r1 r2 r3))], .bool (meV t0 t1 t2 r0 r1 r2 r3)])) ∧ Below w.heap.size w w' := by
  by_cases h1 : vTr t0 t1 t2 = true
  · by_cases h2 : vEdge r0 r1 r2 r3 = true
    · have B1 := hide (vTr_iff.1 h1)
      have B2 := hide (vEdge_iff.1 h2)
      have hL := elenF_pos h2
      go_enter Try.func32, Try.ntmps32
      by_cases h3 : vPt (mvX t0 t1 r0 r1) (mvY t0 t2 r0 r1) = true
      · by_cases h4 : vPt (mvX t0 t1 r2 r3) (mvY t0 t2 r2 r3) = true
        · by_cases h5 : 4 ≤ t0
          · go_wp2_with (first
        | (go_at_call 41; refine (spec_IsValidTransform _ _ _ _).mono ?_; rintro e w1 ⟨rfl, hb⟩; obtain ⟨_, _, hc, hf⟩ := bcellI hb; have hs := hb.size; (try simp at hs))
        | (go_at_call 62; refine (spec_EdgeLength _ _ _ _ _).mono ?_; rintro e w1 ⟨rfl, hb⟩; obtain ⟨_, _, hc, hf⟩ := bcellI hb; have hs := hb.size; (try simp at hs))
        | (go_at_call 43; refine (spec_l01Move_in _ _ _ _ _ B1.out.1 B1.out.2.1 B1.out.2.2 (by have := B2.out; omega) (by have := B2.out; omega) _).mono ?_; rintro e w1 ⟨rfl, hb⟩; obtain ⟨_, _, hc, hf⟩ := bcellI hb; have hs := hb.size; (try simp at hs))
        | (go_at_call 42; refine (spec_l01OnChip _ _ _).mono ?_; rintro e w1 ⟨rfl, hb⟩; obtain ⟨_, _, hc, hf⟩ := bcellI hb; have hs := hb.size; (try simp at hs)))
            refine bodyPost_ret (v := .tuple #[.agg #[.int .i64 (mvX t0 t1 r2 r3), .int .i64 (mvY t0 t2 r2 r3), .int .i64 (mvX t0 t1 r0 r1), .int .i64 (mvY t0 t2 r0 r1)], .bool true]) (by simp [results, Try.results32, go_sem, *, ↓IntWalk.iteOmega]) rfl ⟨?_, (by repeat (first | with_reducible exact Below.refl _ _ | with_reducible assumption | with_reducible refine bel_alloc ?_ _ | with_reducible refine bel_drew ?_ | with_reducible refine bel_drewN ?_ _ | with_reducible refine bel_set ?_ (by (try simp) <;> omega) _ | with_reducible refine bel_trans ?_ (by assumption)))⟩
            have h6 : meV t0 t1 t2 r0 r1 r2 r3 = true := by simp [meV, h1, h2, h3, h4]
            simp [zI, h6, me0, me1, me2, me3, h5]
          · go_wp2_with (first
        | (go_at_call 41; refine (spec_IsValidTransform _ _ _ _).mono ?_; rintro e w1 ⟨rfl, hb⟩; obtain ⟨_, _, hc, hf⟩ := bcellI hb; have hs := hb.size; (try simp at hs))
        | (go_at_call 62; refine (spec_EdgeLength _ _ _ _ _).mono ?_; rintro e w1 ⟨rfl, hb⟩; obtain ⟨_, _, hc, hf⟩ := bcellI hb; have hs := hb.size; (try simp at hs))
        | (go_at_call 43; refine (spec_l01Move_in _ _ _ _ _ B1.out.1 B1.out.2.1 B1.out.2.2 (by have := B2.out; omega) (by have := B2.out; omega) _).mono ?_; rintro e w1 ⟨rfl, hb⟩; obtain ⟨_, _, hc, hf⟩ := bcellI hb; have hs := hb.size; (try simp at hs))
        | (go_at_call 42; refine (spec_l01OnChip _ _ _).mono ?_; rintro e w1 ⟨rfl, hb⟩; obtain ⟨_, _, hc, hf⟩ := bcellI hb; have hs := hb.size; (try simp at hs)))
            refine bodyPost_ret (v := .tuple #[.agg #[.int .i64 (mvX t0 t1 r0 r1), .int .i64 (mvY t0 t2 r0 r1), .int .i64 (mvX t0 t1 r2 r3), .int .i64 (mvY t0 t2 r2 r3)], .bool true]) (by simp [results, Try.results32, go_sem, *, ↓IntWalk.iteOmega]) rfl ⟨?_, (by repeat (first | with_reducible exact Below.refl _ _ | with_reducible assumption | with_reducible refine bel_alloc ?_ _ | with_reducible refine bel_drew ?_ | with_reducible refine bel_drewN ?_ _ | with_reducible refine bel_set ?_ (by (try simp) <;> omega) _ | with_reducible refine bel_trans ?_ (by assumption)))⟩
            have h6 : meV t0 t1 t2 r0 r1 r2 r3 = true := by simp [meV, h1, h2, h3, h4]
            have h7 : ∀ x y : Int, (if 4 ≤ t0 then x else y) = y := fun x y => if_neg (by omega)
            simp [zI, h6, me0, me1, me2, me3, h7]
        · go_wp2_with (first
        | (go_at_call 41; refine (spec_IsValidTransform _ _ _ _).mono ?_; rintro e w1 ⟨rfl, hb⟩; obtain ⟨_, _, hc, hf⟩ := bcellI hb; have hs := hb.size; (try simp at hs))
        | (go_at_call 62; refine (spec_EdgeLength _ _ _ _ _).mono ?_; rintro e w1 ⟨rfl, hb⟩; obtain ⟨_, _, hc, hf⟩ := bcellI hb; have hs := hb.size; (try simp at hs))
        | (go_at_call 43; refine (spec_l01Move_in _ _ _ _ _ B1.out.1 B1.out.2.1 B1.out.2.2 (by have := B2.out; omega) (by have := B2.out; omega) _).mono ?_; rintro e w1 ⟨rfl, hb⟩; obtain ⟨_, _, hc, hf⟩ := bcellI hb; have hs := hb.size; (try simp at hs))
        | (go_at_call 42; refine (spec_l01OnChip _ _ _).mono ?_; rintro e w1 ⟨rfl, hb⟩; obtain ⟨_, _, hc, hf⟩ := bcellI hb; have hs := hb.size; (try simp at hs)))
          refine bodyPost_ret (v := .tuple #[.agg #[.int .i64 (0), .int .i64 (0), .int .i64 (0), .int .i64 (0)], .bool false]) (by simp [results, Try.results32, go_sem, *, ↓IntWalk.iteOmega]) rfl ⟨?_, (by repeat (first | with_reducible exact Below.refl _ _ | with_reducible assumption | with_reducible refine bel_alloc ?_ _ | with_reducible refine bel_drew ?_ | with_reducible refine bel_drewN ?_ _ | with_reducible refine bel_set ?_ (by (try simp) <;> omega) _ | with_reducible refine bel_trans ?_ (by assumption)))⟩
          have h6 : meV t0 t1 t2 r0 r1 r2 r3 = false := by simp [meV, h4]
          simp [zI, h6]
      · go_wp2_with (first
        | (go_at_call 41; refine (spec_IsValidTransform _ _ _ _).mono ?_; rintro e w1 ⟨rfl, hb⟩; obtain ⟨_, _, hc, hf⟩ := bcellI hb; have hs := hb.size; (try simp at hs))
        | (go_at_call 62; refine (spec_EdgeLength _ _ _ _ _).mono ?_; rintro e w1 ⟨rfl, hb⟩; obtain ⟨_, _, hc, hf⟩ := bcellI hb; have hs := hb.size; (try simp at hs))
        | (go_at_call 43; refine (spec_l01Move_in _ _ _ _ _ B1.out.1 B1.out.2.1 B1.out.2.2 (by have := B2.out; omega) (by have := B2.out; omega) _).mono ?_; rintro e w1 ⟨rfl, hb⟩; obtain ⟨_, _, hc, hf⟩ := bcellI hb; have hs := hb.size; (try simp at hs))
        | (go_at_call 42; refine (spec_l01OnChip _ _ _).mono ?_; rintro e w1 ⟨rfl, hb⟩; obtain ⟨_, _, hc, hf⟩ := bcellI hb; have hs := hb.size; (try simp at hs)))
        refine bodyPost_ret (v := .tuple #[.agg #[.int .i64 (0), .int .i64 (0), .int .i64 (0), .int .i64 (0)], .bool false]) (by simp [results, Try.results32, go_sem, *, ↓IntWalk.iteOmega]) rfl ⟨?_, (by repeat (first | with_reducible exact Below.refl _ _ | with_reducible assumption | with_reducible refine bel_alloc ?_ _ | with_reducible refine bel_drew ?_ | with_reducible refine bel_drewN ?_ _ | with_reducible refine bel_set ?_ (by (try simp) <;> omega) _ | with_reducible refine bel_trans ?_ (by assumption)))⟩
        have h6 : meV t0 t1 t2 r0 r1 r2 r3 = false := by simp [meV, h3]
        simp [zI, h6]
    · have hL := elenF_neg h2
      have h6 : meV t0 t1 t2 r0 r1 r2 r3 = false := by simp [meV, h2]
      go_enter Try.func32, Try.ntmps32
      go_wp2_with (first
        | (go_at_call 41; refine (spec_IsValidTransform _ _ _ _).mono ?_; rintro e w1 ⟨rfl, hb⟩; obtain ⟨_, _, hc, hf⟩ := bcellI hb; have hs := hb.size; (try simp at hs))
        | (go_at_call 62; refine (spec_EdgeLength _ _ _ _ _).mono ?_; rintro e w1 ⟨rfl, hb⟩; obtain ⟨_, _, hc, hf⟩ := bcellI hb; have hs := hb.size; (try simp at hs)))
      refine bodyPost_ret (v := .tuple #[.agg #[.int .i64 (0), .int .i64 (0), .int .i64 (0), .int .i64 (0)], .bool false]) (by simp [results, Try.results32, go_sem, *, ↓IntWalk.iteOmega]) rfl ⟨?_, (by repeat (first | with_reducible exact Below.refl _ _ | with_reducible assumption | with_reducible refine bel_alloc ?_ _ | with_reducible refine bel_drew ?_ | with_reducible refine bel_drewN ?_ _ | with_reducible refine bel_set ?_ (by (try simp) <;> omega) _ | with_reducible refine bel_trans ?_ (by assumption)))⟩
      simp [zI, h6]
  · have h6 : meV t0 t1 t2 r0 r1 r2 r3 = false := by simp [meV, h1]
    go_enter Try.func32, Try.ntmps32
    go_wp2_with (first
        | (go_at_call 41; refine (spec_IsValidTransform _ _ _ _).mono ?_; rintro e w1 ⟨rfl, hb⟩; obtain ⟨_, _, hc, hf⟩ := bcellI hb; have hs := hb.size; (try simp at hs))
        | (go_at_call 62; refine (spec_EdgeLength _ _ _ _ _).mono ?_; rintro e w1 ⟨rfl, hb⟩; obtain ⟨_, _, hc, hf⟩ := bcellI hb; have hs := hb.size; (try simp at hs)))
    refine bodyPost_ret (v := .tuple #[.agg #[.int .i64 (0), .int .i64 (0), .int .i64 (0), .int .i64 (0)], .bool false]) (by simp [results, Try.results32, go_sem, *, ↓IntWalk.iteOmega]) rfl ⟨?_, (by repeat (first | with_reducible exact Below.refl _ _ | with_reducible assumption | with_reducible refine bel_alloc ?_ _ | with_reducible refine bel_drew ?_ | with_reducible refine bel_drewN ?_ _ | with_reducible refine bel_set ?_ (by (try simp) <;> omega) _ | with_reducible refine bel_trans ?_ (by assumption)))⟩
    simp [zI, h6]
end Go.Proofs.Ythpfjhijkgmglaa
