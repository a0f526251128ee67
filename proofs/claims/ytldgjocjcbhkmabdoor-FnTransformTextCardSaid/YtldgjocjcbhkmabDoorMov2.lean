/- Contracts: moving points, unit cells, rectangles; composing and undoing transforms. -/
import Derived.Test.YtldgjocjcbhkmabDoorMov
import Derived.Deep.DeepCutAuto
namespace Go.Proofs.YtldgjocjcbhkmabDoor
open Go.RowKit
attribute [local go_sem high] run_max2 run_min2 run_max3 run_max4
attribute [local go_sem low] cell_alloc_ite frozen_alloc_ite

def zI (c : Bool) (x : Int) : Int := if c then x else 0
def mvX (o tx x y : Int) : Int := turnX o x y + tx
def mvY (o ty x y : Int) : Int := turnY o x y + ty
theorem mv_bounds {o tx ty x y : Int} (htx : -80 ≤ tx ∧ tx ≤ 80) (hty : -80 ≤ ty ∧ ty ≤ 80) (ho : 0 ≤ o ∧ o ≤ 7) (hx : -100 ≤ x ∧ x ≤ 100) (hy : -100 ≤ y ∧ y ≤ 100) :
    (-180 ≤ mvX o tx x y ∧ mvX o tx x y ≤ 180) ∧ (-180 ≤ mvY o ty x y ∧ mvY o ty x y ≤ 180) := by
  have h0 (x y : Int) : turnX 0 x y = x ∧ turnY 0 x y = y := ⟨rfl, rfl⟩
  have h1 (x y : Int) : turnX 1 x y = -y ∧ turnY 1 x y = x := ⟨rfl, rfl⟩
  have h2 (x y : Int) : turnX 2 x y = -x ∧ turnY 2 x y = -y := ⟨rfl, rfl⟩
  have h3 (x y : Int) : turnX 3 x y = -(-y) ∧ turnY 3 x y = -x := ⟨rfl, rfl⟩
  have h4 (x y : Int) : turnX 4 x y = x ∧ turnY 4 x y = -y := ⟨rfl, rfl⟩
  have h5 (x y : Int) : turnX 5 x y = -(-y) ∧ turnY 5 x y = x := ⟨rfl, rfl⟩
  have h6 (x y : Int) : turnX 6 x y = -x ∧ turnY 6 x y = -(-y) := ⟨rfl, rfl⟩
  have h7 (x y : Int) : turnX 7 x y = -(-(-y)) ∧ turnY 7 x y = -x := ⟨rfl, rfl⟩
  unfold mvX mvY
  rcases eight ho with h | h | h | h | h | h | h | h <;> subst h
  · rw [(h0 x y).1, (h0 x y).2]; omega
  · rw [(h1 x y).1, (h1 x y).2]; omega
  · rw [(h2 x y).1, (h2 x y).2]; omega
  · rw [(h3 x y).1, (h3 x y).2]; omega
  · rw [(h4 x y).1, (h4 x y).2]; omega
  · rw [(h5 x y).1, (h5 x y).2]; omega
  · rw [(h6 x y).1, (h6 x y).2]; omega
  · rw [(h7 x y).1, (h7 x y).2]; omega

set_option maxRecDepth 100000 in
set_option maxHeartbeats 400000 in
theorem impl_move_in (o tx ty x y : Int) (ho : 0 ≤ o ∧ o ≤ 7) (htx : -80 ≤ tx ∧ tx ≤ 80) (hty : -80 ≤ ty ∧ ty ≤ 80) (hx : -100 ≤ x ∧ x ≤ 100) (hy : -100 ≤ y ∧ y ≤ 100) (w : World) :
    Calls Tryd.prog 28 #[.agg #[.int .i64 (o), .int .i64 (tx), .int .i64 (ty)], .agg #[.int .i64 (x), .int .i64 (y)]] w fun e w' => e = .returned (.agg #[.int .i64 (mvX o tx x y), .int .i64 (mvY o ty x y)]) ∧ Below w.heap.size w w' :=
  impl_move o tx ty x y ho (small_of ⟨by omega, by omega⟩) (small_of ⟨by omega, by omega⟩) (small_of ⟨by omega, by omega⟩) (small_of ⟨by omega, by omega⟩) w
set_option maxRecDepth 100000 in
set_option maxHeartbeats 800000 in
theorem impl_MovePoint (t0 t1 t2 p0 p1 : Int) (w : World) : Calls Tryd.prog 15 #[.agg #[.int .i64 t0, .int .i64 t1, .int .i64 t2], .agg #[.int .i64 p0, .int .i64 p1]] w
    fun e w' => e = .returned (.tuple #[.agg #[.int .i64 (zI (vTr t0 t1 t2 && vPt p0 p1) (mvX t0 t1 p0 p1)), .int .i64 (zI (vTr t0 t1 t2 && vPt p0 p1) (mvY t0 t2 p0 p1))], .bool (vTr t0 t1 t2 && vPt p0 p1)]) ∧ Below w.heap.size w w' := by
  by_cases h1 : vTr t0 t1 t2 = true
  · by_cases h2 : vPt p0 p1 = true
    · have B1 := hide (vTr_iff.1 h1)
      have B2 := hide (vPt_iff.1 h2)
      go_enter Tryd.func15, Tryd.ntmps15
      go_wp2_with (first
        | (go_at_call 18; refine (impl_IsValidTransform _ _ _ _).mono ?_; rintro e w1 ⟨rfl, hb⟩; obtain ⟨_, _, hc, hf⟩ := bcellI hb; have hs := hb.size; (try simp at hs))
        | (go_at_call 27; refine (impl_onChip _ _ _).mono ?_; rintro e w1 ⟨rfl, hb⟩; obtain ⟨_, _, hc, hf⟩ := bcellI hb; have hs := hb.size; (try simp at hs))
        | (go_at_call 28; refine (impl_move_in _ _ _ _ _ B1.out.1 B1.out.2.1 B1.out.2.2 (by have := B2.out; omega) (by have := B2.out; omega) _).mono ?_; rintro e w1 ⟨rfl, hb⟩; obtain ⟨_, _, hc, hf⟩ := bcellI hb; have hs := hb.size; (try simp at hs)))
      refine bodyPost_ret (v := .tuple #[.agg #[.int .i64 (mvX t0 t1 p0 p1), .int .i64 (mvY t0 t2 p0 p1)], .bool true]) (by first | (simp [results, Tryd.results15, go_sem, *]; done) | simp [results, Tryd.results15, go_sem, *, ↓IntWalk.iteOmega]) rfl ⟨?_, (by repeat (first | with_reducible exact Below.refl _ _ | with_reducible assumption | with_reducible refine bel_alloc ?_ _ | with_reducible refine bel_drew ?_ | with_reducible refine bel_drewN ?_ _ | with_reducible refine bel_set ?_ (by (try simp) <;> omega) _ | with_reducible refine bel_trans ?_ (by assumption)))⟩
      simp [zI, h1, h2]
    · go_enter Tryd.func15, Tryd.ntmps15
      go_wp2_with (first
        | (go_at_call 18; refine (impl_IsValidTransform _ _ _ _).mono ?_; rintro e w1 ⟨rfl, hb⟩; obtain ⟨_, _, hc, hf⟩ := bcellI hb; have hs := hb.size; (try simp at hs))
        | (go_at_call 27; refine (impl_onChip _ _ _).mono ?_; rintro e w1 ⟨rfl, hb⟩; obtain ⟨_, _, hc, hf⟩ := bcellI hb; have hs := hb.size; (try simp at hs)))
      refine bodyPost_ret (v := .tuple #[.agg #[.int .i64 (0), .int .i64 (0)], .bool false]) (by first | (simp [results, Tryd.results15, go_sem, *]; done) | simp [results, Tryd.results15, go_sem, *, ↓IntWalk.iteOmega]) rfl ⟨?_, (by repeat (first | with_reducible exact Below.refl _ _ | with_reducible assumption | with_reducible refine bel_alloc ?_ _ | with_reducible refine bel_drew ?_ | with_reducible refine bel_drewN ?_ _ | with_reducible refine bel_set ?_ (by (try simp) <;> omega) _ | with_reducible refine bel_trans ?_ (by assumption)))⟩
      simp [zI, h2]
  · go_enter Tryd.func15, Tryd.ntmps15
    go_wp2_with (first
      | (go_at_call 18; refine (impl_IsValidTransform _ _ _ _).mono ?_; rintro e w1 ⟨rfl, hb⟩; obtain ⟨_, _, hc, hf⟩ := bcellI hb; have hs := hb.size; (try simp at hs)))
    refine bodyPost_ret (v := .tuple #[.agg #[.int .i64 (0), .int .i64 (0)], .bool false]) (by first | (simp [results, Tryd.results15, go_sem, *]; done) | simp [results, Tryd.results15, go_sem, *, ↓IntWalk.iteOmega]) rfl ⟨?_, (by repeat (first | with_reducible exact Below.refl _ _ | with_reducible assumption | with_reducible refine bel_alloc ?_ _ | with_reducible refine bel_drew ?_ | with_reducible refine bel_drewN ?_ _ | with_reducible refine bel_set ?_ (by (try simp) <;> omega) _ | with_reducible refine bel_trans ?_ (by assumption)))⟩
    simp [zI, h1]

end Go.Proofs.YtldgjocjcbhkmabDoor
