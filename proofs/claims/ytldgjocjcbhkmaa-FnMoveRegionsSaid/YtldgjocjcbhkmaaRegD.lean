/- Contracts: the distance of two regions. -/
import Derived.Test.YtldgjocjcbhkmaaRegO
import Derived.Test.YtldgjocjcbhkmaaGeo2
import Derived.BigQuiet
namespace Go.Proofs.Ytldgjocjcbhkmaa
open Go.RowKit
attribute [local go_sem high] run_max2 run_min2
attribute [local go_sem low] cell_alloc_ite frozen_alloc_ite

theorem run_max5 {P : Program} (w : World) (ts : Array TypeId) (t : TypeId) (x y z u v : Int) : (Builtin.max_ ts t #[.int .i64 x, .int .i64 y, .int .i64 z, .int .i64 u, .int .i64 v]).run P w = .ok (.int .i64 (max (max (max (max x y) z) u) v)) w := by
  simp [Builtin.max_, Builtin.max2]; omega
attribute [local go_sem high] run_max5
def distIn (r : Rc) (m : List Rc) (n : Int) : Int := m.foldl (fun q s => min q (cdR r s)) n
theorem distIn_snoc {r : Rc} {m : List Rc} {n : Int} {k : Nat} (h : k < m.length) : distIn r (m.take (k + 1)) n = min (distIn r (m.take k) n) (cdR r m[k]) := by
  rw [distIn, List.take_succ_eq_append_getElem h, List.foldl_append]; rfl
theorem distTo_snoc {l m : List Rc} {i : Nat} (h : i < l.length) : distTo (l.take (i + 1)) m = distIn l[i] m (distTo (l.take i) m) := by
  rw [distTo, List.take_succ_eq_append_getElem h, List.foldl_append]; rfl
theorem cdR_bounds {r s : Rc} (hr : r.ok = true) (hs : s.ok = true) : 0 ≤ cdR r s ∧ cdR r s ≤ 80 := by
  obtain ⟨h1, h2, h3, h4, h5, h6⟩ := vRect_iff.1 hr
  obtain ⟨k1, k2, k3, k4, k5, k6⟩ := vRect_iff.1 hs
  unfold cdR
  omega
def distR (l m : List Rc) : Int := if isReg l && isReg m && decide (0 < l.length) && decide (0 < m.length) then distTo l m else -1
set_option maxRecDepth 100000 in
set_option maxHeartbeats 3200000 in
theorem spec_RegionDistance (l m : List Rc) (a a' : Option Addr) (cap cap' : Nat) (w : World) (h : RectsAt w.heap.size w a l) (h' : RectsAt w.heap.size w a' m) (hn : l.length ≤ 2000000) (hn' : m.length ≤ 2000000) :
    Calls Try.prog 41 #[.slice a l.length cap, .slice a' m.length cap'] w fun e w' => e = .returned (.int .i64 (distR l m)) ∧ Below w.heap.size w w' := by
  cases hv : (isReg l && isReg m)
  · have hr : distR l m = -1 := by simp [distR, hv]
    rw [hr]
    have HV := hide hv
    clear hv hr
    go_enter Try.func41, Try.ntmps41
    go_wp2_with (go_at_call 100; refine (spec_l04Both l m _ _ _ _ _ h h' hn hn').mono ?_; rintro e w1 ⟨he, hb1⟩; rw [HV.out] at he; subst he)
    go_ret
    exact ⟨rfl, hb1⟩
  by_cases hl : l.length = 0
  · have hr : distR l m = -1 := by simp [distR, hl]
    rw [hr]
    have HV := hide hv
    clear hv hr
    rw [hl]
    have h0 : RectsAt w.heap.size w a l := h
    go_enter Try.func41, Try.ntmps41
    go_wp2_with (go_at_call 100; refine (show Calls Try.prog 100 #[.slice a 0 cap, .slice a' m.length cap'] _ _ from hl ▸ spec_l04Both l m _ _ _ _ _ h0 h' hn hn').mono ?_; rintro e w1 ⟨he, hb1⟩; rw [HV.out] at he; subst he)
    go_ret
    exact ⟨rfl, hb1⟩
  by_cases hm : m.length = 0
  · have hr : distR l m = -1 := by simp [distR, hm]
    rw [hr]
    have HV := hide hv
    have hl2 : ((l.length : Int) == 0) = false := by simp; exact fun e => hl (by rw [e]; rfl)
    clear hv hr hl
    rw [hm]
    go_enter Try.func41, Try.ntmps41
    go_wp2_with (go_at_call 100; refine (show Calls Try.prog 100 #[.slice a l.length cap, .slice a' 0 cap'] _ _ from hm ▸ spec_l04Both l m _ _ _ _ _ h h' hn hn').mono ?_; rintro e w1 ⟨he, hb1⟩; rw [HV.out] at he; subst he)
    go_ret
    exact ⟨rfl, hb1⟩
  · have hr : distR l m = distTo l m := by
      have h1 : 0 < l.length := by omega
      have h2 : 0 < m.length := by omega
      simp [distR, hv, h1, h2]
    rw [hr]
    have hv2 := hv
    rw [Bool.and_eq_true] at hv2
    have k1 := (isReg_iff.1 hv2.1).2.1
    have k2 := (isReg_iff.1 hv2.2).2.1
    have K1 := hide k1
    have K2 := hide k2
    have HV := hide hv
    have hl2 : ((l.length : Int) == 0) = false := by simp; exact fun e => hl (by rw [e]; rfl)
    have hm2 : ((m.length : Int) == 0) = false := by simp; exact fun e => hm (by rw [e]; rfl)
    clear hv hr hl hm hv2 k1 k2
    go_enter Try.func41, Try.ntmps41
    go_wp2_with (go_at_call 100; refine (spec_l04Both l m _ _ _ _ _ h h' hn hn').mono ?_; rintro e w1 ⟨he, hb1⟩; rw [HV.out] at he; subst he)
    clear hl2 hm2
    go_loopw [5, 6] (fun s5 s6 wr => ∃ (i : Nat) (q : Int), i ≤ l.length ∧ s6 = .int .i64 i ∧ s5 = .int .i64 q ∧ q = distTo (l.take i) m ∧ 0 ≤ q ∧ q ≤ 80 ∧ Below w.heap.size w wr) (fun _ s6 _ => l.length - (intOf s6).toNat)
    case atStart => exact ⟨0, 80, Nat.zero_le _, rfl, rfl, rfl, by omega, by omega, hb1⟩
    case round =>
      obtain ⟨i, q, hi, rfl, rfl, hq, hq0, hq1, hbl⟩ := hrel
      have HQ := hide hq
      clear hq
      by_cases hy : i < l.length
      · obtain ⟨g, ha, hg, c0, c1, c2, c3⟩ := h.below hbl (Nat.le_refl _) i l[i] (List.getElem?_eq_getElem hy)
        subst ha
        have hri := K1.out l[i] (List.getElem_mem hy)
        obtain ⟨x1, x2, x3, y1, y2, y3⟩ := vRect_iff.1 hri
        have HRI := hide hri
        clear hri
        have hi0 : (0 : Int) ≤ (i : Int) := Int.natCast_nonneg _
        have hi1 : (i : Int) < (l.length : Int) := by omega
        obtain ⟨wo, rfl⟩ : ∃ wo : World, wo = wr := ⟨_, rfl⟩
        go_wp2_with fail
        go_loopw [5, 7] (fun s5 s7 wz => ∃ (k : Nat) (p : Int), k ≤ m.length ∧ s7 = .int .i64 k ∧ s5 = .int .i64 p ∧ p = distIn l[i] (m.take k) q ∧ 0 ≤ p ∧ p ≤ 80 ∧ Below w.heap.size w wz ∧
          wz.cell? ⟨g, i * 4, none⟩ = some (.int .i64 l[i].x0) ∧ wz.cell? ⟨g, i * 4 + 1, none⟩ = some (.int .i64 l[i].y0) ∧ wz.cell? ⟨g, i * 4 + 2, none⟩ = some (.int .i64 l[i].x1) ∧ wz.cell? ⟨g, i * 4 + 3, none⟩ = some (.int .i64 l[i].y1)) (fun _ s7 _ => m.length - (intOf s7).toNat)
        case atStart => exact ⟨0, q, Nat.zero_le _, rfl, rfl, rfl, hq0, hq1, hbl, c0, c1, c2, c3⟩
        case round =>
          obtain ⟨k, p, hk, rfl, rfl, hp, hp0, hp1, hbl2, d0, d1, d2, d3⟩ := hrel
          have HP := hide hp
          clear hp c0 c1 c2 c3
          by_cases hx : k < m.length
          · obtain ⟨g', ha', hg', c0, c1, c2, c3⟩ := h'.below hbl2 (Nat.le_refl _) k m[k] (List.getElem?_eq_getElem hx)
            subst ha'
            have hrk := K2.out m[k] (List.getElem_mem hx)
            obtain ⟨u1, u2, u3, v1, v2, v3⟩ := vRect_iff.1 hrk
            have hcd := cdR_bounds HRI.out hrk
            have HCD := hide hcd
            have hceq : max (max 0 (1 - (min l[i].x1 m[k].x1 - max l[i].x0 m[k].x0))) (max 0 (1 - (min l[i].y1 m[k].y1 - max l[i].y0 m[k].y0))) = cdR l[i] m[k] := by unfold cdR; omega
            have HCE := hide hceq
            clear hrk hcd hceq
            have hk0 : (0 : Int) ≤ (k : Int) := Int.natCast_nonneg _
            have hk1 : (k : Int) < (m.length : Int) := by omega
            go_wp2_with fail
            go_quiet ((go_at_call 101; exact quiet_left (spec_l02Span_in _ _ _ _ (by omega) (by omega) (by omega) (by omega) _)))
            go_wp2_with fail
            go_quiet ((go_at_call 101; first | exact quiet_left (spec_l02Span_in _ _ _ _ (by omega) (by omega) (by omega) (by omega) _) | exact quiet_add_left (spec_l02Span_in _ _ _ _ (by omega) (by omega) (by omega) (by omega) _)))
            go_wp2_with fail
            go_roundw
            case rel =>
              refine ⟨k + 1, min p (cdR l[i] m[k]), hx, by go_num, ?_, ?_, ?_, ?_, ?_, d0, d1, d2, d3⟩
              · refine congrArg (Value.int .i64) ?_
                rw [← HCE.out]
                omega
              · rw [distIn_snoc hx, HP.out]
              · have := HCD.out; omega
              · have := HCD.out; omega
              · exact bel_drewN hbl2 _
            case measure => simp [intOf]; omega
          · go_wp2_with fail
            go_roundw
            case rel => exact ⟨i + 1, p, hy, by go_num, rfl, by rw [HP.out, List.take_of_length_le (by omega), HQ.out, distTo_snoc hy], hp0, hp1, hbl2⟩
            case measure => simp [intOf]; omega
      · go_wp2_with fail
        go_ret
        refine ⟨?_, hbl⟩
        rw [HQ.out, List.take_of_length_le (by omega)]
        rfl
set_option maxRecDepth 100000 in
set_option maxHeartbeats 800000 in
theorem impl_cellDistance (r s : Rc) (hr : r.ok = true) (hs : s.ok = true) (w : World) : Calls Try.prog 96 #[.agg #[.int .i64 r.x0, .int .i64 r.y0, .int .i64 r.x1, .int .i64 r.y1], .agg #[.int .i64 s.x0, .int .i64 s.y0, .int .i64 s.x1, .int .i64 s.y1]] w fun e w' => e = .returned (.int .i64 (cdR r s)) ∧ Below w.heap.size w w' := by
  obtain ⟨h1, h2, h3, h4, h5, h6⟩ := vRect_iff.1 hr
  obtain ⟨k1, k2, k3, k4, k5, k6⟩ := vRect_iff.1 hs
  clear hr hs
  go_enter Try.func96, Try.ntmps96
  go_wp2
  go_ret
  exact ⟨reti (by unfold cdR; omega), (by repeat (first | with_reducible exact Below.refl _ _ | with_reducible assumption | with_reducible refine bel_alloc ?_ _ | with_reducible refine bel_drew ?_ | with_reducible refine bel_drewN ?_ _ | with_reducible refine bel_set ?_ (by (try simp) <;> omega) _ | with_reducible refine bel_trans ?_ (by assumption)))⟩
set_option maxRecDepth 100000 in
set_option maxHeartbeats 3200000 in
theorem impl_RegionDistance (l m : List Rc) (a a' : Option Addr) (cap cap' : Nat) (w : World) (h : RectsAt w.heap.size w a l) (h' : RectsAt w.heap.size w a' m) (hn : l.length ≤ 2000000) (hn' : m.length ≤ 2000000) :
    Calls Try.prog 38 #[.slice a l.length cap, .slice a' m.length cap'] w fun e w' => e = .returned (.int .i64 (distR l m)) ∧ Below w.heap.size w w' := by
  cases hv : isReg l
  · have hr : distR l m = -1 := by simp [distR, hv]
    rw [hr]
    clear hr
    go_enter Try.func38, Try.ntmps38
    go_wp2_with fail
    go_at_call 30
    refine (impl_IsRegion _ _ _ _ h hn).mono ?_
    rintro e w1 ⟨rfl, hb1⟩
    go_wp2_with fail
    go_ret
    exact ⟨rfl, hb1⟩
  cases hv2 : isReg m
  · have hr : distR l m = -1 := by simp [distR, hv2]
    rw [hr]
    clear hr
    go_enter Try.func38, Try.ntmps38
    go_wp2_with fail
    go_at_call 30
    refine (impl_IsRegion _ _ _ _ h hn).mono ?_
    rintro e w1 ⟨rfl, hb1⟩
    go_wp2_with fail
    go_at_call 30
    refine (impl_IsRegion _ _ _ _ (h'.kept hb1) hn').mono ?_
    rintro e w2 ⟨rfl, hb2⟩
    go_wp2_with fail
    go_ret
    exact ⟨rfl, bel_trans hb1 hb2⟩
  have k1 := (isReg_iff.1 hv).2.1
  have k2 := (isReg_iff.1 hv2).2.1
  have K1 := hide k1
  have K2 := hide k2
  clear k1 k2
  by_cases hl : l = []
  · subst hl
    have hr : distR [] m = -1 := by simp [distR]
    rw [hr]
    clear hr
    go_enter Try.func38, Try.ntmps38
    go_wp2_with fail
    go_at_call 30
    refine (impl_IsRegion _ _ _ _ h hn).mono ?_
    rintro e w1 ⟨rfl, hb1⟩
    go_wp2_with fail
    go_at_call 30
    refine (impl_IsRegion _ _ _ _ (h'.kept hb1) hn').mono ?_
    rintro e w2 ⟨rfl, hb2⟩
    go_wp2_with fail
    go_ret
    exact ⟨rfl, bel_trans hb1 hb2⟩
  have hl2 : ((l.length : Int) == 0) = false := by simp; exact hl
  by_cases hm : m = []
  · subst hm
    have hr : distR l [] = -1 := by simp [distR]
    rw [hr]
    clear hr hl
    go_enter Try.func38, Try.ntmps38
    go_wp2_with fail
    go_at_call 30
    refine (impl_IsRegion _ _ _ _ h hn).mono ?_
    rintro e w1 ⟨rfl, hb1⟩
    go_wp2_with fail
    go_at_call 30
    refine (impl_IsRegion _ _ _ _ (h'.kept hb1) hn').mono ?_
    rintro e w2 ⟨rfl, hb2⟩
    go_wp2_with fail
    go_ret
    exact ⟨rfl, bel_trans hb1 hb2⟩
  have hm2 : ((m.length : Int) == 0) = false := by simp; exact hm
  have hr : distR l m = distTo l m := by
    have h1 : 0 < l.length := List.length_pos_iff.2 hl
    have h2 : 0 < m.length := List.length_pos_iff.2 hm
    simp [distR, hv, hv2, h1, h2]
  rw [hr]
  clear hr hl hm
  go_enter Try.func38, Try.ntmps38
  go_wp2_with fail
  go_at_call 30
  refine (impl_IsRegion _ _ _ _ h hn).mono ?_
  rintro e w1 ⟨rfl, hb1⟩
  go_wp2_with fail
  go_at_call 30
  refine (impl_IsRegion _ _ _ _ (h'.kept hb1) hn').mono ?_
  rintro e w2 ⟨rfl, hb2⟩
  have hb12 := bel_trans hb1 hb2
  go_wp2_with fail
  clear hl2 hm2 hv hv2 hb1 hb2
  go_loopw [5, 30] (fun s5 s6 wr => ∃ (i : Nat) (q : Int), i ≤ l.length ∧ s6 = .int .i64 i ∧ s5 = .int .i64 q ∧ q = distTo (l.take i) m ∧ Below w.heap.size w wr) (fun _ s6 _ => l.length - (intOf s6).toNat)
  case atStart => exact ⟨0, 80, Nat.zero_le _, rfl, rfl, rfl, hb12⟩
  case round =>
    obtain ⟨i, q, hi, rfl, rfl, hq, hbl⟩ := hrel
    have HQ := hide hq
    clear hq
    by_cases hy : i < l.length
    · obtain ⟨g, ha, hg, c0, c1, c2, c3⟩ := h.below hbl (Nat.le_refl _) i l[i] (List.getElem?_eq_getElem hy)
      subst ha
      have HRI := hide (K1.out l[i] (List.getElem_mem hy))
      have hsz := hbl.size
      obtain ⟨wo, rfl⟩ : ∃ wo : World, wo = wr := ⟨_, rfl⟩
      go_wp2_with fail
      go_loopw [5, 36] (fun s5 s7 wz => ∃ (k : Nat) (p : Int), k ≤ m.length ∧ s7 = .int .i64 k ∧ s5 = .int .i64 p ∧ p = distIn l[i] (m.take k) q ∧ wz.cell? ⟨wo.heap.size, 0, none⟩ = some (.int .i64 l[i].x0) ∧ wz.cell? ⟨wo.heap.size, 1, none⟩ = some (.int .i64 l[i].y0) ∧
          wz.cell? ⟨wo.heap.size, 2, none⟩ = some (.int .i64 l[i].x1) ∧ wz.cell? ⟨wo.heap.size, 3, none⟩ = some (.int .i64 l[i].y1) ∧ wo.heap.size < wz.heap.size ∧ Below w.heap.size w wz) (fun _ s7 _ => m.length - (intOf s7).toNat)
      case atStart => exact ⟨0, q, Nat.zero_le _, rfl, rfl, rfl, by simp [go_sem], by simp [go_sem], by simp [go_sem], by simp [go_sem], by simp, (by repeat (first | with_reducible exact Below.refl _ _ | with_reducible assumption | with_reducible refine bel_alloc ?_ _ | with_reducible refine bel_drew ?_ | with_reducible refine bel_drewN ?_ _ | with_reducible refine bel_set ?_ (by (try simp) <;> omega) _ | with_reducible refine bel_trans ?_ (by assumption)))⟩
      case round =>
        obtain ⟨k, p, hk, rfl, rfl, hp, d0, d1, d2, d3, hz2, hbl2⟩ := hrel
        have HP := hide hp
        clear hp c0 c1 c2 c3
        by_cases hx : k < m.length
        · obtain ⟨g', ha', hg', c0, c1, c2, c3⟩ := h'.below hbl2 (Nat.le_refl _) k m[k] (List.getElem?_eq_getElem hx)
          subst ha'
          have HRK := hide (K2.out m[k] (List.getElem_mem hx))
          go_wp2_with (go_at_call 96; refine (impl_cellDistance _ _ HRI.out HRK.out _).mono ?_; rintro e w2 ⟨rfl, hb2⟩; have e0 := (hb2.cell (p := ⟨wo.heap.size, 0, none⟩) (by simp; omega)).trans (keep_alloc d0 _); have e1 := (hb2.cell (p := ⟨wo.heap.size, 1, none⟩) (by simp; omega)).trans (keep_alloc d1 _); have e2 := (hb2.cell (p := ⟨wo.heap.size, 2, none⟩) (by simp; omega)).trans (keep_alloc d2 _); have e3 := (hb2.cell (p := ⟨wo.heap.size, 3, none⟩) (by simp; omega)).trans (keep_alloc d3 _))
          go_roundw
          case rel => exact ⟨k + 1, min p (cdR l[i] m[k]), hx, by go_num, rfl, by rw [distIn_snoc hx, HP.out], e0, e1, e2, e3, by have := hb2.size; simp at this; omega, (by repeat (first | with_reducible exact Below.refl _ _ | with_reducible assumption | with_reducible refine bel_alloc ?_ _ | with_reducible refine bel_drew ?_ | with_reducible refine bel_drewN ?_ _ | with_reducible refine bel_set ?_ (by (try simp) <;> omega) _ | with_reducible refine bel_trans ?_ (by assumption)))⟩
          case measure => simp [intOf]; omega
        · go_wp2_with fail
          go_roundw
          case rel => exact ⟨i + 1, p, hy, by go_num, rfl, by rw [HP.out, List.take_of_length_le (by omega), HQ.out, distTo_snoc hy], hbl2⟩
          case measure => simp [intOf]; omega
    · go_wp2_with fail
      go_ret
      refine ⟨?_, hbl⟩
      rw [HQ.out, List.take_of_length_le (by omega)]
      rfl
end Go.Proofs.Ytldgjocjcbhkmaa
