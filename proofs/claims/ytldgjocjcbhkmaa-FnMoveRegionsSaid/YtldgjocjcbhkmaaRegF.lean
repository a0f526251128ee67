/- Contracts: the region of a list of rectangles; the area of a region. -/
import Derived.Test.YtldgjocjcbhkmaaLawS
namespace Go.Proofs.Ytldgjocjcbhkmaa
open Go.RowKit
attribute [local go_sem low] cell_alloc_ite frozen_alloc_ite

def regionOfR (l : List Rc) : List Rc := if validL l then regionL (bitsOf l) else []
theorem regionOfR_len (l : List Rc) : (regionOfR l).length ≤ 2000000 := by
  unfold regionOfR
  split
  · have := region_length (bitsOf l); omega
  · simp
theorem regionOfR_no {l : List Rc} (h : validL l = false) : regionOfR l = [] := by simp [regionOfR, h]
theorem regionOfR_ok {l : List Rc} (h : validL l = true) : regionOfR l = regionL (bitsOf l) := by simp [regionOfR, h]
theorem bel3 {w w1 w2 w3 : World} (h1 : Below w.heap.size w w1) (h2 : Below w1.heap.size w1 w2) (h3 : Below w2.heap.size w2 w3) : Below w.heap.size w w3 :=
  bel_trans (bel_trans h1 h2) h3
set_option maxRecDepth 100000 in
set_option maxHeartbeats 800000 in
theorem spec_RegionOf (l : List Rc) (a : Option Addr) (cap : Nat) (w : World) (h : RectsAt w.heap.size w a l) (hn : l.length ≤ 2000000) : Calls Try.prog 26 #[.slice a l.length cap] w (RetSB w (regionOfR l) (validL l)) := by
  cases hv : validL l
  · rw [regionOfR_no hv]
    go_enter Try.func26, Try.ntmps26
    go_wp2_with (go_at_call 84; refine (spec_l03Valid l _ _ _ h hn).mono ?_; rintro e w1 ⟨rfl, hb⟩)
    go_ret2
    exact retSB_nil rfl hb
  · rw [regionOfR_ok hv]
    have hok := validL_iff.1 hv
    have HOK := hide hok
    clear hok
    go_enter Try.func26, Try.ntmps26
    go_wp2_with (first
      | (go_at_call 84; refine (spec_l03Valid l _ _ _ h hn).mono ?_; rintro e w1 ⟨rfl, hb1⟩; have h1 := h.kept hb1)
      | (go_at_call 77; refine (spec_l03Bits l _ _ _ h1 (by have := HOK.out.1; omega) HOK.out.2).mono ?_; rintro e w2 ⟨b, rfl, _, hrow, hb2⟩)
      | (go_at_call 78; refine ((spec_l03Canon _ _ _ _ hrow).mono fun _ _ => retS_of).mono ?_; rintro e w3 ⟨a3, c3, rfl, ho3, hb3⟩))
    go_ret2
    exact ⟨a3, c3, rfl, own_base ho3 (bel_trans hb1 hb2).size, bel3 hb1 hb2 hb3⟩
set_option maxRecDepth 100000 in
set_option maxHeartbeats 800000 in
theorem impl_RegionOf (l : List Rc) (a : Option Addr) (cap : Nat) (w : World) (h : RectsAt w.heap.size w a l) (hn : l.length ≤ 2000000) : Calls Try.prog 28 #[.slice a l.length cap] w (RetSB w (regionOfR l) (validL l)) := by
  cases hv : validL l
  · rw [regionOfR_no hv]
    go_enter Try.func28, Try.ntmps28
    go_wp2_with (go_at_call 87; refine (impl_validRects l _ _ _ h hn).mono ?_; rintro e w1 ⟨rfl, hb⟩)
    go_ret2
    exact retSB_nil rfl hb
  · rw [regionOfR_ok hv]
    have hok := validL_iff.1 hv
    have HOK := hide hok
    clear hok
    go_enter Try.func28, Try.ntmps28
    go_wp2_with (first
      | (go_at_call 87; refine (impl_validRects l _ _ _ h hn).mono ?_; rintro e w1 ⟨rfl, hb1⟩; have h1 := h.kept hb1)
      | (go_at_call 88; refine (impl_cellsOf l _ _ _ h1 (by have := HOK.out.1; omega)).mono ?_; rintro e w2 ⟨b, rfl, _, hrow, hb2⟩)
      | (go_at_call 89; refine ((impl_region _ _ _ _ hrow).mono fun _ _ => retS_of).mono ?_; rintro e w3 ⟨a3, c3, rfl, ho3, hb3⟩))
    go_ret2
    exact ⟨a3, c3, rfl, own_base ho3 (bel_trans hb1 hb2).size, bel3 hb1 hb2 hb3⟩
def areaRg (l : List Rc) : Int := if isReg l then areaL l else -1
set_option maxRecDepth 100000 in
set_option maxHeartbeats 800000 in
theorem spec_l03Count (g : Grid) (b t : Nat) (w : World) (hrow : w.rowIs b t 6400 (gv g)) : Calls Try.prog 95 #[.slice (some ⟨b, 0, none⟩) 6400 6400] w fun e w' => e = .returned (.int .i64 (cntG g)) ∧ w = w' := by
  rw [← cntFlat_all g]
  go_enter Try.func95, Try.ntmps95
  go_wp2_with fail
  go_loopw [3, 4] (fun s3 s4 wr => ∃ i c : Nat, i ≤ 6400 ∧ s4 = .int .i64 i ∧ s3 = .int .i64 c ∧ c = cntFlat g i ∧ c ≤ i ∧ wr = w) (fun _ s4 _ => 6400 - (intOf s4).toNat)
  case atStart => exact ⟨0, 0, Nat.zero_le _, rfl, rfl, rfl, Nat.le_refl _, rfl⟩
  case round =>
    obtain ⟨i, c, hi, rfl, rfl, hce, hle, rfl⟩ := hrel
    have HC := hide hce
    clear hce
    by_cases hy : i < 6400
    · have hc := hrow.cell (i := i) hy
      have hs : cntFlat g (i + 1) = cntFlat g i + (if g (i / 80) (i % 80) then 1 else 0) := rfl
      have hq : gv g i = .bool (g (i / 80) (i % 80)) := rfl
      rw [hq] at hc
      generalize g (i / 80) (i % 80) = q at hc hs
      rw [← HC.out] at hs
      have HS := hide hs
      clear hs hq
      have hx0 : (0 : Int) ≤ (i : Int) := Int.natCast_nonneg _
      have hx1 : (i : Int) < 6400 := by omega
      clear hy
      cases q
      · go_wp2_with fail
        go_roundw
        case rel => exact ⟨i + 1, c, by omega, by go_num, rfl, by rw [HS.out]; simp, by omega, by first | trivial | rfl⟩
        case measure => simp [intOf]; omega
      · go_wp2_with fail
        go_roundw
        case rel => exact ⟨i + 1, c + 1, by omega, by go_num, by go_num, by rw [HS.out]; simp, by omega, by first | trivial | rfl⟩
        case measure => simp [intOf]; omega
    · obtain rfl : i = 6400 := by omega
      go_wp2_with fail
      go_ret
      rw [← HC.out]
      exact ⟨rfl, rfl⟩
set_option maxRecDepth 100000 in
set_option maxHeartbeats 800000 in
theorem spec_RegionArea (l : List Rc) (a : Option Addr) (cap : Nat) (w : World) (h : RectsAt w.heap.size w a l) (hn : l.length ≤ 2000000) : Calls Try.prog 36 #[.slice a l.length cap] w fun e w' => e = .returned (.int .i64 (areaRg l)) ∧ Below w.heap.size w w' := by
  cases hv : isReg l
  · have hr : areaRg l = -1 := by simp [areaRg, hv]
    rw [hr]
    go_enter Try.func36, Try.ntmps36
    go_wp2_with (go_at_call 75; refine (spec_l03Ok l _ _ _ h hn).mono ?_; rintro e w1 ⟨rfl, hb⟩)
    go_ret
    exact ⟨rfl, hb⟩
  · have hr : areaRg l = (cntG (bitsOf l) : Int) := by simp [areaRg, hv, areaL_reg hv]
    have hok := isReg_iff.1 hv
    have HOK := hide hok
    rw [hr]
    clear hok hr
    go_enter Try.func36, Try.ntmps36
    go_wp2_with (first
      | (go_at_call 75; refine (spec_l03Ok l _ _ _ h hn).mono ?_; rintro e w1 ⟨rfl, hb1⟩; have h1 := h.kept hb1)
      | (go_at_call 77; refine (spec_l03Bits l _ _ _ h1 (by have := HOK.out.1; omega) HOK.out.2.1).mono ?_; rintro e w2 ⟨b, rfl, _, hrow, hb2⟩)
      | (go_at_call 95; refine (spec_l03Count _ _ _ _ hrow).mono ?_; rintro e w3 ⟨rfl, rfl⟩))
    go_ret
    exact ⟨rfl, bel_trans hb1 hb2⟩
set_option maxRecDepth 100000 in
set_option maxHeartbeats 800000 in
theorem impl_regionArea (l : List Rc) (a : Option Addr) (cap : Nat) (w : World) (h : RectsAt w.heap.size w a l) (hn : l.length ≤ 2000000) (hok : ∀ r ∈ l, r.ok = true) : Calls Try.prog 93 #[.slice a l.length cap] w fun e w' => e = .returned (.int .i64 (areaL l)) ∧ Below w.heap.size w w' := by
  have HOK := hide hok
  clear hok
  go_enter Try.func93, Try.ntmps93
  go_wp2_with fail
  go_loopw [3, 8] (fun s3 s8 wr => ∃ i : Nat, i ≤ l.length ∧ s8 = .int .i64 i ∧ s3 = .int .i64 (areaL (l.take i)) ∧ 0 ≤ areaL (l.take i) ∧ areaL (l.take i) ≤ 6400 * (i : Int) ∧ Below w.heap.size w wr) (fun _ s8 _ => l.length - (intOf s8).toNat)
  case atStart => exact ⟨0, Nat.zero_le _, rfl, rfl, Int.le_refl _, Int.le_refl _, Below.refl _ _⟩
  case round =>
    obtain ⟨i, hi, rfl, rfl, hs0, hs1, hbl⟩ := hrel
    by_cases hy : i < l.length
    · obtain ⟨g, ha, hg, c0, c1, c2, c3⟩ := h.below hbl (Nat.le_refl _) i l[i] (List.getElem?_eq_getElem hy)
      subst ha
      have hr := HOK.out l[i] (List.getElem_mem hy)
      have hab := areaV_bounds (show vRect l[i].x0 l[i].y0 l[i].x1 l[i].y1 = true from hr)
      have HR := hide (show vRect l[i].x0 l[i].y0 l[i].x1 l[i].y1 = true from hr)
      have hab2 := hab
      rw [areaV_eq] at hab2
      have HT := hide (areaL_take hy)
      clear hr
      go_wp2_with (go_at_call 138; refine (impl_area _ _ _ _ HR.out _).mono ?_; rintro e w2 ⟨he, hb2⟩; rw [areaV_eq] at he; subst he)
      go_roundw
      case rel => exact ⟨i + 1, hy, by go_num, by rw [HT.out], by rw [HT.out]; omega, by rw [HT.out]; omega, (by repeat (first | with_reducible exact Below.refl _ _ | with_reducible assumption | with_reducible refine bel_alloc ?_ _ | with_reducible refine bel_drew ?_ | with_reducible refine bel_drewN ?_ _ | with_reducible refine bel_set ?_ (by (try simp) <;> omega) _ | with_reducible refine bel_trans ?_ (by assumption)))⟩
      case measure => simp [intOf]; omega
    · go_wp2_with fail
      go_ret
      rw [List.take_of_length_le (by omega)]
      exact ⟨rfl, hbl⟩
set_option maxRecDepth 100000 in
set_option maxHeartbeats 800000 in
theorem impl_RegionArea (l : List Rc) (a : Option Addr) (cap : Nat) (w : World) (h : RectsAt w.heap.size w a l) (hn : l.length ≤ 2000000) : Calls Try.prog 33 #[.slice a l.length cap] w fun e w' => e = .returned (.int .i64 (areaRg l)) ∧ Below w.heap.size w w' := by
  cases hv : isReg l
  · have hr : areaRg l = -1 := by simp [areaRg, hv]
    rw [hr]
    go_enter Try.func33, Try.ntmps33
    go_wp2_with (go_at_call 30; refine (impl_IsRegion l _ _ _ h hn).mono ?_; rintro e w1 ⟨rfl, hb⟩)
    go_ret
    exact ⟨rfl, hb⟩
  · have hr : areaRg l = areaL l := by simp [areaRg, hv]
    have hok := isReg_iff.1 hv
    have HOK := hide hok
    rw [hr]
    clear hok hr
    go_enter Try.func33, Try.ntmps33
    go_wp2_with (first
      | (go_at_call 30; refine (impl_IsRegion l _ _ _ h hn).mono ?_; rintro e w1 ⟨rfl, hb1⟩; have h1 := h.kept hb1)
      | (go_at_call 93; refine (impl_regionArea l _ _ _ h1 hn HOK.out.2.1).mono ?_; rintro e w2 ⟨rfl, hb2⟩))
    go_ret
    exact ⟨rfl, bel_trans hb1 hb2⟩
end Go.Proofs.Ytldgjocjcbhkmaa
