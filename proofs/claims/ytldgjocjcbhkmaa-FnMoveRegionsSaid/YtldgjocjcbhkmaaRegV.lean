/- Contracts: does one region cover another one? -/
import Derived.Test.YtldgjocjcbhkmaaRegO
namespace Go.Proofs.Ytldgjocjcbhkmaa
open Go.RowKit
attribute [local go_sem low] cell_alloc_ite frozen_alloc_ite

def covG (g : Grid) (l : List Rc) : Bool := l.all fun r => (List.range 80).all fun i => (List.range 80).all fun k => !r.has i k || g i k
theorem covG_iff {g : Grid} {l : List Rc} : covG g l = true ↔ ∀ r ∈ l, ∀ i k, i < 80 → k < 80 → r.has i k = true → g i k = true := by
  simp only [covG, List.all_eq_true, List.mem_range, Bool.or_eq_true, Bool.not_eq_true']
  constructor
  · intro h r hr i k hi hk hh
    rcases h r hr i hi k hk with h' | h'
    · rw [hh] at h'; cases h'
    · exact h'
  · intro h r hr i hi k hk
    cases hh : r.has i k
    · exact .inl rfl
    · exact .inr (h r hr i k hi hk hh)
theorem covG_bits {g : Grid} {l : List Rc} : covG g l = true ↔ sub (bitsOf l) g := by
  rw [covG_iff]
  constructor
  · intro h i k hi hk hb
    obtain ⟨r, hr, hh⟩ := List.any_eq_true.1 hb
    exact h r hr i k hi hk hh
  · intro h r hr i k hi hk hh
    exact h i k hi hk (List.any_eq_true.2 ⟨r, hr, hh⟩)
def covR (l m : List Rc) : Bool := isReg l && isReg m && covG (bitsOf l) m
theorem diff_nil {g h : Grid} : regionL (opG 4 g h) = [] ↔ sub g h := by
  rw [regionL_nil]
  constructor
  · intro e i j hi hj hg
    have := e i j hi hj
    rw [opG, opB_diff, hg] at this
    simpa using this
  · intro e i j hi hj
    rw [opG, opB_diff]
    cases hg : g i j
    · rfl
    · rw [e i j hi hj hg]; rfl
theorem covR_reg {l m : List Rc} (h : isReg l = true) (h' : isReg m = true) : covR l m = decide ((regionL (opG 4 (bitsOf m) (bitsOf l))).length = 0) := by
  rw [covR, h, h', Bool.true_and, Bool.true_and, Bool.eq_iff_iff, covG_bits, decide_eq_true_eq, List.length_eq_zero_iff, diff_nil]
set_option maxRecDepth 100000 in
set_option maxHeartbeats 800000 in
theorem spec_Covers (l m : List Rc) (a a' : Option Addr) (cap cap' : Nat) (w : World) (h : RectsAt w.heap.size w a l) (h' : RectsAt w.heap.size w a' m) (hn : l.length ≤ 2000000) (hn' : m.length ≤ 2000000) :
    Calls Try.prog 57 #[.slice a l.length cap, .slice a' m.length cap'] w fun e w' => e = .returned (.bool (covR l m)) ∧ Below w.heap.size w w' := by
  cases hv : (isReg l && isReg m)
  · have hr : covR l m = false := by rw [covR, hv]; rfl
    rw [hr]
    go_enter Try.func57, Try.ntmps57
    go_wp2_with fail
    go_at_call 100
    refine (spec_l04Both l m _ _ _ _ _ h h' hn hn').mono ?_
    rintro e w1 ⟨he, hb1⟩
    rw [hv] at he
    subst he
    go_wp2_with fail
    go_ret
    exact ⟨rfl, hb1⟩
  · have hv2 := hv
    rw [Bool.and_eq_true] at hv2
    rw [covR_reg hv2.1 hv2.2]
    have k1 := isReg_iff.1 hv2.1
    have k2 := isReg_iff.1 hv2.2
    have K1 := hide k1
    have K2 := hide k2
    have HV := hide hv
    clear hv hv2 k1 k2
    obtain ⟨n, hnn⟩ : ∃ n, n = (regionL (opG 4 (bitsOf m) (bitsOf l))).length := ⟨_, rfl⟩
    rw [← hnn]
    have HNN := hide hnn
    clear hnn
    go_enter Try.func57, Try.ntmps57
    go_wp2_with fail
    go_at_call 100
    refine (spec_l04Both l m _ _ _ _ _ h h' hn hn').mono ?_
    rintro e w1 ⟨he, hb1⟩
    rw [HV.out] at he
    subst he
    go_wp2_with fail
    go_at_call 102
    refine (spec_l04Op m l 4 (by omega) _ _ _ _ _ (h'.kept hb1) (h.kept hb1) (by have := K2.out.1; omega) (by have := K1.out.1; omega) K2.out.2.1 K1.out.2.1).mono ?_
    rintro e w2 ⟨a2, c2, he, ho2, hb2⟩
    rw [← HNN.out] at he
    subst he
    by_cases hp : (n : Int) = 0
    · obtain rfl : n = 0 := by omega
      go_wp2_with fail
      go_ret
      exact ⟨rfl, bel_trans hb1 hb2⟩
    · have hq : ((n : Int) == 0) = false := by simpa using hp
      have hn0 : ¬ n = 0 := by omega
      have HN := hide hn0
      clear hp hn0
      go_wp2_with fail
      go_ret
      exact ⟨retb (by simp [HN.out]), bel_trans hb1 hb2⟩
set_option maxRecDepth 100000 in
set_option maxHeartbeats 800000 in
theorem impl_has (g : Grid) (b t : Nat) (x y : Int) (w : World) (hrow : w.rowIs b t 6400 (gv g)) : Calls Try.prog 142 #[.pointer (some ⟨b, 0, none⟩), .int .i64 x, .int .i64 y] w fun e w' => e = .returned (.bool (hasI g x y)) ∧ Below w.heap.size w w' := by
  cases hv : vCell x y
  · have hr : hasI g x y = false := by
      rw [show hasI g x y = (vCell x y && g (y + 40).toNat (x + 40).toNat) from rfl, hv]; rfl
    rw [hr]
    go_enter Try.func142, Try.ntmps142
    go_wp2_with (go_at_call 149; refine (impl_isUnitCell _ _ _).mono ?_; rintro e w1 ⟨rfl, hb1⟩)
    go_ret
    exact ⟨rfl, hb1⟩
  · have hr : hasI g x y = g (y + 40).toNat (x + 40).toNat := by
      rw [show hasI g x y = (vCell x y && g (y + 40).toNat (x + 40).toNat) from rfl, hv]; rfl
    rw [hr]
    have hvi := vCell_iff.1 hv
    obtain ⟨k, hk⟩ : ∃ k : Nat, x = (k : Int) - 40 := ⟨(x + 40).toNat, by omega⟩
    obtain ⟨i, hi⟩ : ∃ i : Nat, y = (i : Int) - 40 := ⟨(y + 40).toNat, by omega⟩
    subst hk
    subst hi
    rw [show ((i : Int) - 40 + 40).toNat = i from by omega, show ((k : Int) - 40 + 40).toNat = k from by omega]
    have hi : i < 80 := by omega
    have hk : k < 80 := by omega
    clear hr
    go_enter Try.func142, Try.ntmps142
    go_wp2_with (go_at_call 149; refine (impl_isUnitCell _ _ _).mono ?_; rintro e w1 ⟨rfl, hb1⟩; have hc1 := (rowIs_kept hrow hb1).cell (i := i * 80 + k) (by omega); rw [gv_at g hk] at hc1)
    go_ret
    exact ⟨rfl, hb1⟩
set_option maxRecDepth 100000 in
set_option maxHeartbeats 1600000 in
theorem impl_covers (g : Grid) (b t : Nat) (l : List Rc) (a : Option Addr) (cap : Nat) (w : World) (hrow : w.rowIs b t 6400 (gv g)) (h : RectsAt w.heap.size w a l) (hn : l.length ≤ 2000000) (hok : ∀ r ∈ l, r.ok = true) :
    Calls Try.prog 105 #[.pointer (some ⟨b, 0, none⟩), .slice a l.length cap] w fun e w' => e = .returned (.bool (covG g l)) ∧ Below w.heap.size w w' := by
  have HOK := hide hok
  have hb0 := hrow.lt
  clear hok
  go_enter Try.func105, Try.ntmps105
  go_wp2_with fail
  go_loopw [11] (fun s wr => ∃ i : Nat, i ≤ l.length ∧ s = .int .i64 i ∧ covG g (l.take i) = true ∧ Below w.heap.size w wr) (fun s _ => l.length - (intOf s).toNat)
  case atStart => exact ⟨0, Nat.zero_le _, rfl, rfl, Below.refl _ _⟩
  case round =>
    obtain ⟨i, hi, rfl, hall, hbl⟩ := hrel
    have HA := hide hall
    clear hall
    by_cases hy : i < l.length
    · obtain ⟨gg, ha, hg, c0, c1, c2, c3⟩ := h.below hbl (Nat.le_refl _) i l[i] (List.getElem?_eq_getElem hy)
      subst ha
      have hsz := hbl.size
      obtain ⟨x1, x2, x3, y1, y2, y3⟩ := vRect_iff.1 (HOK.out l[i] (List.getElem_mem hy))
      obtain ⟨p0, hp0⟩ : ∃ p0 : Nat, l[i].y0 = (p0 : Int) - 40 := ⟨(l[i].y0 + 40).toNat, by omega⟩
      obtain ⟨q0, hq0⟩ : ∃ q0 : Nat, l[i].x0 = (q0 : Int) - 40 := ⟨(l[i].x0 + 40).toNat, by omega⟩
      have HP := hide hp0
      have HQ := hide hq0
      clear hp0 hq0
      obtain ⟨wo, rfl⟩ : ∃ wo : World, wo = wr := ⟨_, rfl⟩
      go_wp2_with fail
      go_loopw [7] (fun s wz => ∃ p : Nat, p0 ≤ p ∧ p ≤ 80 ∧ s = .int .i64 ((p : Int) - 40) ∧ (∀ u v, u < p → v < 80 → l[i].has u v = true → g u v = true) ∧ wz.cell? ⟨wo.heap.size, 0, none⟩ = some (.int .i64 l[i].x0) ∧ wz.cell? ⟨wo.heap.size, 1, none⟩ = some (.int .i64 l[i].y0) ∧
          wz.cell? ⟨wo.heap.size, 2, none⟩ = some (.int .i64 l[i].x1) ∧ wz.cell? ⟨wo.heap.size, 3, none⟩ = some (.int .i64 l[i].y1) ∧ wo.heap.size < wz.heap.size ∧ Below w.heap.size w wz) (fun s _ => (40 - intOf s).toNat)
      case atStart =>
        refine ⟨p0, Nat.le_refl _, by have := HP.out; omega, by rw [HP.out], fun u v hu _ hh => ?_, by simp [go_sem], by simp [go_sem], by simp [go_sem], by simp [go_sem], by simp, (by repeat (first | with_reducible exact Below.refl _ _ | with_reducible assumption | with_reducible refine bel_alloc ?_ _ | with_reducible refine bel_drew ?_ | with_reducible refine bel_drewN ?_ _ | with_reducible refine bel_set ?_ (by (try simp) <;> omega) _ | with_reducible refine bel_trans ?_ (by assumption)))⟩
        have := HP.out
        rw [Rc.has_iff] at hh
        omega
      case round =>
        obtain ⟨p, hp, hp80, rfl, hall2, d0, d1, d2, d3, hz2, hbl2⟩ := hrel
        have HA2 := hide hall2
        clear hall2 c0 c1 c2 c3
        by_cases hy1 : (p : Int) - 40 < l[i].y1
        · have hp79 : p < 80 := by omega
          obtain ⟨wo2, rfl⟩ : ∃ wo2 : World, wo2 = wr := ⟨_, rfl⟩
          go_wp2_with fail
          go_loopw [8] (fun s wz => ∃ q : Nat, q0 ≤ q ∧ q ≤ 80 ∧ s = .int .i64 ((q : Int) - 40) ∧ (∀ v, v < q → l[i].has p v = true → g p v = true) ∧ wz.cell? ⟨wo.heap.size, 0, none⟩ = some (.int .i64 l[i].x0) ∧ wz.cell? ⟨wo.heap.size, 1, none⟩ = some (.int .i64 l[i].y0) ∧
              wz.cell? ⟨wo.heap.size, 2, none⟩ = some (.int .i64 l[i].x1) ∧ wz.cell? ⟨wo.heap.size, 3, none⟩ = some (.int .i64 l[i].y1) ∧ wo.heap.size < wz.heap.size ∧ Below w.heap.size w wz) (fun s _ => (40 - intOf s).toNat)
          case atStart =>
            refine ⟨q0, Nat.le_refl _, by have := HQ.out; omega, by rw [HQ.out], fun v hv hh => ?_, d0, d1, d2, d3, hz2, hbl2⟩
            have := HQ.out
            rw [Rc.has_iff] at hh
            omega
          case round =>
            obtain ⟨q, hq, hq80, rfl, hall3, e0, e1, e2, e3, hz3, hbl3⟩ := hrel
            have HA3 := hide hall3
            clear hall3 d0 d1 d2 d3
            by_cases hx1 : (q : Int) - 40 < l[i].x1
            · have hq79 : q < 80 := by omega
              have hrow3 : _root_.Go.World.rowIs _ b t 6400 (gv g) := hrow.of_block (hbl3.block b hb0)
              have hhas : hasI g ((q : Int) - 40) ((p : Int) - 40) = g p q := by rw [hasI_at hp79]; simp [atR, hq79]
              have hin : l[i].has p q = true := by
                have := HP.out
                have := HQ.out
                rw [Rc.has_iff]
                omega
              have HIN := hide hin
              have HH := hide hhas
              clear hin hhas
              cases hgq : g p q
              · have HG := hide hgq
                clear hgq
                go_wp2_with (go_at_call 142; refine (impl_has g _ _ _ _ _ hrow3).mono ?_; rintro e w2 ⟨he, hb2⟩; rw [HH.out, HG.out] at he; subst he)
                go_ret
                refine ⟨?_, (by repeat (first | with_reducible exact Below.refl _ _ | with_reducible assumption | with_reducible refine bel_alloc ?_ _ | with_reducible refine bel_drew ?_ | with_reducible refine bel_drewN ?_ _ | with_reducible refine bel_set ?_ (by (try simp) <;> omega) _ | with_reducible refine bel_trans ?_ (by assumption)))⟩
                have : covG g l = false := by
                  rw [Bool.eq_false_iff]
                  intro hc
                  have := covG_iff.1 hc l[i] (List.getElem_mem hy) p q hp79 hq79 HIN.out
                  rw [HG.out] at this
                  cases this
                rw [this]; rfl
              · have HG := hide hgq
                clear hgq
                go_wp2_with (go_at_call 142; refine (impl_has g _ _ _ _ _ hrow3).mono ?_; rintro e w2 ⟨he, hb2⟩; rw [HH.out, HG.out] at he; subst he)
                go_roundw
                case rel =>
                  refine ⟨q + 1, by omega, by omega, by go_num, fun v hv hh => ?_, keep_cell hb2 e0, keep_cell hb2 e1, keep_cell hb2 e2, keep_cell hb2 e3, by have := hb2.size; omega, (by repeat (first | with_reducible exact Below.refl _ _ | with_reducible assumption | with_reducible refine bel_alloc ?_ _ | with_reducible refine bel_drew ?_ | with_reducible refine bel_drewN ?_ _ | with_reducible refine bel_set ?_ (by (try simp) <;> omega) _ | with_reducible refine bel_trans ?_ (by assumption)))⟩
                  by_cases ev : v = q
                  · rw [ev]; exact HG.out
                  · exact HA3.out v (by omega) hh
                case measure => simp [intOf]; omega
            · go_wp2_with fail
              go_roundw
              case rel =>
                refine ⟨p + 1, by omega, by omega, by go_num, fun u v hu hv hh => ?_, e0, e1, e2, e3, hz3, hbl3⟩
                by_cases eu : u = p
                · subst eu
                  refine HA3.out v ?_ hh
                  rw [Rc.has_iff] at hh
                  omega
                · exact HA2.out u v (by omega) hv hh
              case measure => simp [intOf]; omega
        · go_wp2_with fail
          go_roundw
          case rel =>
            refine ⟨i + 1, hy, by go_num, ?_, hbl2⟩
            rw [covG_iff]
            intro r hr u v hu hv hh
            rw [List.take_succ_eq_append_getElem hy, List.mem_append] at hr
            rcases hr with hr | hr
            · exact covG_iff.1 HA.out r hr u v hu hv hh
            · simp only [List.mem_singleton] at hr
              subst hr
              refine HA2.out u v ?_ hv hh
              rw [Rc.has_iff] at hh
              omega
          case measure => simp [intOf]; omega
    · go_wp2_with fail
      go_ret
      have := HA.out
      rw [List.take_of_length_le (by omega)] at this
      exact ⟨by rw [this]; rfl, hbl⟩
set_option maxRecDepth 100000 in
set_option maxHeartbeats 800000 in
theorem impl_Covers (l m : List Rc) (a a' : Option Addr) (cap cap' : Nat) (w : World) (h : RectsAt w.heap.size w a l) (h' : RectsAt w.heap.size w a' m) (hn : l.length ≤ 2000000) (hn' : m.length ≤ 2000000) :
    Calls Try.prog 49 #[.slice a l.length cap, .slice a' m.length cap'] w fun e w' => e = .returned (.bool (covR l m)) ∧ Below w.heap.size w w' := by
  cases hv : isReg l
  · have hr : covR l m = false := by rw [covR, hv]; rfl
    rw [hr]
    go_enter Try.func49, Try.ntmps49
    go_wp2_with (go_at_call 30; refine (impl_IsRegion l _ _ _ h hn).mono ?_; rintro e w1 ⟨rfl, hb1⟩)
    go_ret
    exact ⟨rfl, hb1⟩
  cases hv2 : isReg m
  · have hr : covR l m = false := by rw [covR, hv, hv2]; rfl
    rw [hr]
    go_enter Try.func49, Try.ntmps49
    go_wp2_with fail
    go_at_call 30
    refine (impl_IsRegion l _ _ _ h hn).mono ?_
    rintro e w1 ⟨rfl, hb1⟩
    go_wp2_with fail
    go_at_call 30
    refine (impl_IsRegion m _ _ _ (h'.kept hb1) hn').mono ?_
    rintro e w2 ⟨rfl, hb2⟩
    go_wp2_with fail
    go_ret
    exact ⟨rfl, bel_trans hb1 hb2⟩
  · have hr : covR l m = covG (bitsOf l) m := by rw [covR, hv, hv2]; rfl
    rw [hr]
    have k1 := isReg_iff.1 hv
    have k2 := isReg_iff.1 hv2
    have K1 := hide k1
    have K2 := hide k2
    clear hr k1 k2
    go_enter Try.func49, Try.ntmps49
    go_wp2_with fail
    go_at_call 30
    refine (impl_IsRegion l _ _ _ h hn).mono ?_
    rintro e w1 ⟨rfl, hb1⟩
    go_wp2_with fail
    go_at_call 30
    refine (impl_IsRegion m _ _ _ (h'.kept hb1) hn').mono ?_
    rintro e w2 ⟨rfl, hb2⟩
    go_wp2_with fail
    go_at_call 88
    refine (impl_cellsOf l _ _ _ ((h.kept hb1).kept hb2) (by have := K1.out.1; omega)).mono ?_
    rintro e w3 ⟨b, rfl, _, hrow, hb3⟩
    go_wp2_with fail
    go_at_call 105
    refine (impl_covers _ _ _ m _ _ _ hrow (((h'.kept hb1).kept hb2).kept hb3) hn' K2.out.2.1).mono ?_
    rintro e w4 ⟨rfl, hb4⟩
    go_wp2_with fail
    go_ret
    exact ⟨rfl, bel_trans (bel3 hb1 hb2 hb3) hb4⟩
end Go.Proofs.Ytldgjocjcbhkmaa
