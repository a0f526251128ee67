/- Is a list a region? The reference's test and the program's. -/
import Derived.Test.YtldgjocjcbhkmaaWlk8
import Derived.Test.YtldgjocjcbhkmaaRegA
import Derived.Test.YtldgjocjcbhkmaaGeo2
namespace Go.Proofs.Ytldgjocjcbhkmaa
open Go.RowKit
attribute [local go_sem low] cell_alloc_ite frozen_alloc_ite

theorem rowL_length : ∀ l : List Rc, (rowL l).length = l.length * 4
  | [] => rfl
  | r :: l => by
    have := rowL_length l
    simp only [rowL, rcV, List.flatMap_cons, List.length_append, List.length_cons, List.length_nil] at this ⊢
    omega
theorem rowL_get : ∀ (l : List Rc) (i : Nat) (h : i < l.length), (rowL l)[i * 4]? = some (.int .i64 l[i].x0) ∧ (rowL l)[i * 4 + 1]? = some (.int .i64 l[i].y0) ∧ (rowL l)[i * 4 + 2]? = some (.int .i64 l[i].x1) ∧ (rowL l)[i * 4 + 3]? = some (.int .i64 l[i].y1)
  | [], i, h => by simp at h
  | r :: l, 0, _ => ⟨rfl, rfl, rfl, rfl⟩
  | r :: l, i + 1, h => by
    have h2 : i < l.length := by simpa using h
    have := rowL_get l i h2
    rw [show (i + 1) * 4 = i * 4 + 1 + 1 + 1 + 1 from by omega]
    simpa [rowL, rcV] using this
theorem rects_of_own {w : World} {base : Nat} {v : Value} {l : List Rc} (h : OwnRects w base v l) : ∃ a cap, v = .slice a l.length cap ∧ RectsAt w.heap.size w a l ∧ ∀ k, a = some ⟨k, 0, none⟩ → base ≤ k := by
  have hx := h
  unfold OwnRects at hx
  rcases h.2 with ⟨rfl, hl⟩ | ⟨g, cap, cur, rfl, hb, hg, _⟩
  · have : l = [] := List.eq_nil_of_length_eq_zero hl
    subst this
    exact ⟨none, 0, rfl, fun j k hj => by simp at hj, fun k hk => by simp at hk⟩
  · refine ⟨some ⟨g, 0, none⟩, cap, rfl, fun i r hi => ?_, fun k hk => by simp at hk; omega⟩
    have hi2 : i < l.length := (List.getElem?_eq_some_iff.1 hi).1
    have hr : l[i] = r := (List.getElem?_eq_some_iff.1 hi).2
    obtain ⟨g0, g1, g2, g3⟩ := rowL_get l i hi2
    have hc : ∀ j, j < 4 → w.cell? ⟨g, i * 4 + j, none⟩ = (rowL l)[i * 4 + j]? := fun j hj => hx.cellAt (i * 4 + j) (by omega)
    rw [hr] at g0 g1 g2 g3
    exact ⟨g, rfl, (Array.getElem?_eq_some_iff.1 hg).1, (hc 0 (by omega)).trans g0, (hc 1 (by omega)).trans g1, (hc 2 (by omega)).trans g2, (hc 3 (by omega)).trans g3⟩
theorem RectsAt.mono {B C : Nat} {w : World} {a : Option Addr} {l : List Rc} (h : RectsAt B w a l) (hc : B ≤ C) : RectsAt C w a l := fun j k hj => by
  obtain ⟨g, ha, hg, c⟩ := h j k hj
  exact ⟨g, ha, Nat.lt_of_lt_of_le hg hc, c⟩
/-- Behind a call that leaves all that was there as it was. -/
theorem RectsAt.kept {w w' : World} {a : Option Addr} {l : List Rc} (h : RectsAt w.heap.size w a l) (hb : Below w.heap.size w w') : RectsAt w'.heap.size w' a l := (h.below hb (Nat.le_refl _)).mono hb.size
theorem rowIs_kept {w w' : World} {b t n : Nat} {f : Nat → Value} (h : w.rowIs b t n f) (hb : Below w.heap.size w w') : w'.rowIs b t n f := h.of_block (hb.block b h.lt)
theorem isReg_valid (l : List Rc) : isReg l = (validL l && decide (regionL (bitsOf l) = l)) := rfl
theorem validL_iff {l : List Rc} : validL l = true ↔ l.length ≤ 3200 ∧ ∀ r ∈ l, r.ok = true := by simp [validL]
theorem areaV_eq (r : Rc) : areaV r.x0 r.y0 r.x1 r.y1 = areaR r := rfl
theorem areaL_take {l : List Rc} {i : Nat} (hy : i < l.length) : areaL (l.take (i + 1)) = areaL (l.take i) + areaR l[i] := by
  rw [List.take_succ_eq_append_getElem hy, areaL_append]
  simp [areaL]
theorem spec_l03Canon_at (g : Grid) (b t : Nat) (w : World) (hrow : w.rowIs b t 6400 (gv g)) : Calls Try.prog 78 #[.slice (some ⟨b, 0, none⟩) 6400 6400] w
    fun e w' => ∃ a cap, e = .returned (.slice a (regionL g).length cap) ∧ RectsAt w'.heap.size w' a (regionL g) ∧ (∀ k, a = some ⟨k, 0, none⟩ → w.heap.size ≤ k) ∧ Below w.heap.size w w' :=
  (spec_l03Canon g b t w hrow).mono fun e w' ⟨v, he, ho, hb⟩ => by
    obtain ⟨a, cap, rfl, hi, hge⟩ := rects_of_own ho
    exact ⟨a, cap, he, hi, hge, hb⟩
theorem impl_region_at (g : Grid) (b t : Nat) (w : World) (hrow : w.rowIs b t 6400 (gv g)) : Calls Try.prog 89 #[.pointer (some ⟨b, 0, none⟩)] w
    fun e w' => ∃ a cap, e = .returned (.slice a (regionL g).length cap) ∧ RectsAt w'.heap.size w' a (regionL g) ∧ (∀ k, a = some ⟨k, 0, none⟩ → w.heap.size ≤ k) ∧ Below w.heap.size w w' :=
  (impl_region g b t w hrow).mono fun e w' ⟨v, he, ho, hb⟩ => by
    obtain ⟨a, cap, rfl, hi, hge⟩ := rects_of_own ho
    exact ⟨a, cap, he, hi, hge, hb⟩
set_option maxRecDepth 100000 in
set_option maxHeartbeats 1600000 in
theorem spec_l03Ok (l : List Rc) (a : Option Addr) (cap : Nat) (w : World) (h : RectsAt w.heap.size w a l) (hn : l.length ≤ 2000000) : Calls Try.prog 75 #[.slice a l.length cap] w fun e w' => e = .returned (.bool (isReg l)) ∧ Below w.heap.size w w' := by
  cases hv : validL l
  · have HV := hide hv
    go_enter Try.func75, Try.ntmps75
    go_wp2_with (go_at_call 84; refine (spec_l03Valid l _ _ _ h hn).mono ?_; rintro e w1 ⟨rfl, hb⟩)
    go_ret
    exact ⟨by rw [isReg_valid, HV.out]; rfl, hb⟩
  · have hok := (validL_iff.1 hv).2
    have HV := hide hv
    have HOK := hide hok
    clear hok
    go_enter Try.func75, Try.ntmps75
    go_wp2_with (go_at_call 84; refine (spec_l03Valid l _ _ _ h hn).mono ?_; rintro e w1 ⟨rfl, hb1⟩)
    clear hv
    go_loopw [3, 4] (fun s3 s4 wr => ∃ i : Nat, i ≤ l.length ∧ s4 = .int .i64 i ∧ s3 = .int .i64 (areaL (l.take i)) ∧ 0 ≤ areaL (l.take i) ∧ areaL (l.take i) ≤ 6400 * (i : Int) ∧ Below w.heap.size w wr) (fun _ i _ => l.length - (intOf i).toNat)
    case atStart => exact ⟨0, Nat.zero_le _, rfl, rfl, Int.le_refl _, Int.le_refl _, hb1⟩
    case round =>
      obtain ⟨i, hi, rfl, rfl, hs0, hs1, hbl⟩ := hrel
      have hh := (h.below hbl (Nat.le_refl _)).mono hbl.size
      by_cases hy : i < l.length
      · obtain ⟨g, ha, hg, c0, c1, c2, c3⟩ := hh i l[i] (List.getElem?_eq_getElem hy)
        subst ha
        have hr := HOK.out l[i] (List.getElem_mem hy)
        have hab := areaV_bounds (show vRect l[i].x0 l[i].y0 l[i].x1 l[i].y1 = true from hr)
        have har : areaF l[i].x0 l[i].y0 l[i].x1 l[i].y1 = areaR l[i] := by rw [areaF, if_pos (show vRect l[i].x0 l[i].y0 l[i].x1 l[i].y1 = true from hr)]; rfl
        rw [areaV_eq] at hab
        have HAR := hide har
        have HT := hide (areaL_take hy)
        clear hr har
        go_wp2_with (go_at_call 133; refine (spec_RectArea _ _ _ _ _).mono ?_; rintro e w2 ⟨he, hb2⟩; rw [HAR.out] at he; subst he)
        go_roundw
        case rel => exact ⟨i + 1, hy, by go_num, by rw [HT.out], by rw [HT.out]; omega, by rw [HT.out]; omega, hbl.trans (hb2.mono (by have := hbl.size; omega))⟩
        case measure => simp [intOf]; omega
      · have hti : l.take i = l := List.take_of_length_le (by omega)
        rw [hti] at hs0 hs1 ⊢
        by_cases ha : areaL l ≤ 6400
        · have hl3 := (validL_iff.1 HV.out).1
          go_wp2_with (first
            | (go_at_call 77; refine (spec_l03Bits l _ _ _ hh (by omega) HOK.out).mono ?_; rintro e w2 ⟨b, rfl, _, hrow, hb2⟩; have hh2 := hh.kept hb2)
            | (go_at_call 78; refine (spec_l03Canon_at _ _ _ _ hrow).mono ?_; rintro e w3 ⟨a3, c3, rfl, hr3, _, hb3⟩; have hh3 := hh2.kept hb3)
            | (go_at_call 134; refine (spec_l03Same _ l _ _ _ _ _ hr3 hh3 (by have := region_length (bitsOf l); omega) (by omega)).mono ?_; rintro e w4 ⟨rfl, hb4⟩))
          go_ret
          exact ⟨by rw [isReg_valid, HV.out, Bool.true_and]; rfl, ((hbl.trans (hb2.mono hbl.size)).trans (hb3.mono (by have := hbl.size; have := hb2.size; omega))).trans (hb4.mono (by have := hbl.size; have := hb2.size; have := hb3.size; omega))⟩
        · have hno : isReg l = false := by
            rw [Bool.eq_false_iff]
            exact fun hh => ha (areaL_le hh)
          have HNO := hide hno
          clear hno
          go_wp2_with fail
          go_ret
          exact ⟨by rw [HNO.out]; rfl, hbl⟩
set_option maxRecDepth 100000 in
set_option maxHeartbeats 400000 in
theorem spec_IsRegion (l : List Rc) (a : Option Addr) (cap : Nat) (w : World) (h : RectsAt w.heap.size w a l) (hn : l.length ≤ 2000000) : Calls Try.prog 32 #[.slice a l.length cap] w fun e w' => e = .returned (.bool (isReg l)) ∧ Below w.heap.size w w' := by
  go_enter Try.func32, Try.ntmps32
  go_wp2_with (go_at_call 75; refine (spec_l03Ok l _ _ _ h hn).mono ?_; rintro e w1 ⟨rfl, hb⟩)
  go_ret
  exact ⟨rfl, hb⟩
set_option maxRecDepth 100000 in
set_option maxHeartbeats 1600000 in
theorem slices_Equal (l m : List Rc) (a a' : Option Addr) (cap cap' : Nat) (w : World) (h : RectsAt w.heap.size w a l) (h' : RectsAt w.heap.size w a' m) (hn : l.length ≤ 2000000) (_hn' : m.length ≤ 2000000) :
    Calls Try.prog 90 #[.slice a l.length cap, .slice a' m.length cap'] w fun e w' => e = .returned (.bool (decide (l = m))) ∧ Below w.heap.size w w' := by
  by_cases hlen : l.length = m.length
  · go_enter Try.func90, Try.ntmps90
    go_wp2_with fail
    go_loopw [13] (fun sk wr => ∃ i : Nat, i ≤ l.length ∧ sk = .int .i64 i ∧ l.take i = m.take i ∧ Below w.heap.size w wr) (fun k _ => l.length - (intOf k).toNat)
    case atStart => exact ⟨0, Nat.zero_le _, rfl, rfl, (by repeat (first | with_reducible exact Below.refl _ _ | with_reducible assumption | with_reducible refine bel_alloc ?_ _ | with_reducible refine bel_drew ?_ | with_reducible refine bel_drewN ?_ _ | with_reducible refine bel_set ?_ (by (try simp) <;> omega) _ | with_reducible refine bel_trans ?_ (by assumption)))⟩
    case round =>
      obtain ⟨i, hi, rfl, hall, hbl⟩ := hrel
      have HA := hide hall
      clear hall
      by_cases hy : i < l.length
      · have hy' : i < m.length := by omega
        obtain ⟨g, ha, hg, c0, c1, c2, c3⟩ := h.below hbl (Nat.le_refl _) i l[i] (List.getElem?_eq_getElem hy)
        obtain ⟨g', ha', hg', c0', c1', c2', c3'⟩ := h'.below hbl (Nat.le_refl _) i m[i] (List.getElem?_eq_getElem hy')
        subst ha
        subst ha'
        obtain ⟨q0, hq0⟩ : ∃ q, q = (l[i].x0 == m[i].x0) := ⟨_, rfl⟩
        obtain ⟨q1, hq1⟩ : ∃ q, q = (l[i].y0 == m[i].y0) := ⟨_, rfl⟩
        obtain ⟨q2, hq2⟩ : ∃ q, q = (l[i].x1 == m[i].x1) := ⟨_, rfl⟩
        obtain ⟨q3, hq3⟩ : ∃ q, q = (l[i].y1 == m[i].y1) := ⟨_, rfl⟩
        have hq : l[i] = m[i] ↔ (q0 && q1 && q2 && q3) = true := by
          rw [hq0, hq1, hq2, hq3]
          simp only [Bool.and_eq_true, beq_iff_eq]
          exact ⟨fun e => by rw [e]; exact ⟨⟨⟨rfl, rfl⟩, rfl⟩, rfl⟩, fun e => Rc.ext' e.1.1.1 e.1.1.2 e.1.2 e.2⟩
        have HQ := hide hq
        clear hq
        replace hq0 := hq0.symm
        replace hq1 := hq1.symm
        replace hq2 := hq2.symm
        replace hq3 := hq3.symm
        go_wp2_with fail
        cases q0 <;> cases q1 <;> cases q2 <;> cases q3 <;> (go_quiet (fail)) <;> go_wp2
        case roundEnd =>
          go_roundw
          case rel => exact ⟨i + 1, hy, by go_num, take_eq_succ hy hy' HA.out (HQ.out.2 rfl), (by repeat (first | with_reducible exact Below.refl _ _ | with_reducible assumption | with_reducible refine bel_alloc ?_ _ | with_reducible refine bel_drew ?_ | with_reducible refine bel_drewN ?_ _ | with_reducible refine bel_set ?_ (by (try simp) <;> omega) _ | with_reducible refine bel_trans ?_ (by assumption)))⟩
          case measure => simp [intOf]; omega
        all_goals
          go_ret
          exact ⟨by rw [decide_eq_false (ne_of_at hy hy' fun e => absurd (HQ.out.1 e) (by simp))]; rfl, (by repeat (first | with_reducible exact Below.refl _ _ | with_reducible assumption | with_reducible refine bel_alloc ?_ _ | with_reducible refine bel_drew ?_ | with_reducible refine bel_drewN ?_ _ | with_reducible refine bel_set ?_ (by (try simp) <;> omega) _ | with_reducible refine bel_trans ?_ (by assumption)))⟩
      · go_wp2
        go_ret
        have := HA.out
        rw [List.take_of_length_le (by omega), List.take_of_length_le (by omega)] at this
        exact ⟨by simp [this], hbl⟩
  · have hne : ¬ l = m := fun e => hlen (by rw [e])
    go_enter Try.func90, Try.ntmps90
    go_wp2
    go_ret
    exact ⟨by simp [hne], (by repeat (first | with_reducible exact Below.refl _ _ | with_reducible assumption | with_reducible refine bel_alloc ?_ _ | with_reducible refine bel_drew ?_ | with_reducible refine bel_drewN ?_ _ | with_reducible refine bel_set ?_ (by (try simp) <;> omega) _ | with_reducible refine bel_trans ?_ (by assumption)))⟩
set_option maxRecDepth 100000 in
set_option maxHeartbeats 1600000 in
theorem impl_IsRegion (l : List Rc) (a : Option Addr) (cap : Nat) (w : World) (h : RectsAt w.heap.size w a l) (hn : l.length ≤ 2000000) : Calls Try.prog 30 #[.slice a l.length cap] w fun e w' => e = .returned (.bool (isReg l)) ∧ Below w.heap.size w w' := by
  cases hv : validL l
  · have HV := hide hv
    go_enter Try.func30, Try.ntmps30
    go_wp2_with (go_at_call 87; refine (impl_validRects l _ _ _ h hn).mono ?_; rintro e w1 ⟨rfl, hb⟩)
    go_ret
    exact ⟨by rw [isReg_valid, HV.out]; rfl, hb⟩
  · have HV := hide hv
    go_enter Try.func30, Try.ntmps30
    go_wp2_with (first
      | (go_at_call 87; refine (impl_validRects l _ _ _ h hn).mono ?_; rintro e w1 ⟨rfl, hb1⟩; have hh1 := h.kept hb1)
      | (go_at_call 88; refine (impl_cellsOf l _ _ _ hh1 (by have := (validL_iff.1 HV.out).1; omega)).mono ?_; rintro e w2 ⟨b, rfl, _, hrow, hb2⟩; have hh2 := hh1.kept hb2)
      | (go_at_call 89; refine (impl_region_at _ _ _ _ hrow).mono ?_; rintro e w3 ⟨a3, c3, rfl, hr3, _, hb3⟩; have hh3 := hh2.kept hb3)
      | (go_at_call 90; refine (slices_Equal _ l _ _ _ _ _ hr3 hh3 (by have := region_length (bitsOf l); omega) (by omega)).mono ?_; rintro e w4 ⟨rfl, hb4⟩))
    go_ret
    exact ⟨by rw [isReg_valid, HV.out, Bool.true_and]; rfl, ((hb1.trans (hb2.mono hb1.size)).trans (hb3.mono (by have := hb1.size; have := hb2.size; omega))).trans (hb4.mono (by have := hb1.size; have := hb2.size; have := hb3.size; omega))⟩
end Go.Proofs.Ytldgjocjcbhkmaa
