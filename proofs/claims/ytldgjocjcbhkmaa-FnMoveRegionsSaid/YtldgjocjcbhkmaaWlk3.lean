/- Contracts: flags read, lists checked and compared. -/
import Derived.Test.YtldgjocjcbhkmaaWlk2
import Derived.BigQuiet
namespace Go.Proofs.Ytldgjocjcbhkmaa
open Go.RowKit
attribute [local go_sem high] run_max2 run_min2
attribute [local go_sem low] cell_alloc_ite frozen_alloc_ite

def hasI (g : Grid) (x y : Int) : Bool := inR x (-40) 39 && inR y (-40) 39 && g (y + 40).toNat (x + 40).toNat
set_option maxRecDepth 100000 in
set_option maxHeartbeats 800000 in
theorem spec_l03Has (g : Grid) (b t : Nat) (x y : Int) (w : World) (hrow : w.rowIs b t 6400 (gv g)) : Calls Try.prog 147 #[.slice (some ⟨b, 0, none⟩) 6400 6400, .int .i64 x, .int .i64 y] w fun e w' => e = .returned (.bool (hasI g x y)) ∧ w = w' := by
  by_cases h1 : inR x (-40) 39 = true
  · by_cases h2 : inR y (-40) 39 = true
    · have b1 := inR_iff.1 h1
      have b2 := inR_iff.1 h2
      obtain ⟨k, hk⟩ : ∃ k : Nat, x = (k : Int) - 40 := ⟨(x + 40).toNat, by omega⟩
      obtain ⟨i, hi⟩ : ∃ i : Nat, y = (i : Int) - 40 := ⟨(y + 40).toNat, by omega⟩
      subst hk
      subst hi
      have hi : i < 80 := by omega
      have hk : k < 80 := by omega
      have hcell := hrow.cell (i := i * 80 + k) (by omega)
      rw [gv_at g hk] at hcell
      go_enter Try.func147, Try.ntmps147
      go_wp2_with (first
        | (go_at_call 143; refine (spec_l01In _ _ _ _).mono ?_; rintro e w1 ⟨rfl, rfl⟩)
        | (go_at_call 135; refine (spec_l03At i k hi hk _).mono ?_; rintro e w1 ⟨rfl, rfl⟩))
      go_ret
      refine ⟨?_, rfl⟩
      unfold hasI
      rw [h1, h2, show ((i : Int) - 40 + 40).toNat = i from by omega, show ((k : Int) - 40 + 40).toNat = k from by omega]
      simp
    · go_enter Try.func147, Try.ntmps147
      go_wp2_with (first
        | (go_at_call 143; refine (spec_l01In _ _ _ _).mono ?_; rintro e w1 ⟨rfl, rfl⟩))
      go_ret
      exact ⟨by simp [hasI, h2], rfl⟩
  · go_enter Try.func147, Try.ntmps147
    go_wp2_with (first
      | (go_at_call 143; refine (spec_l01In _ _ _ _).mono ?_; rintro e w1 ⟨rfl, rfl⟩))
    go_ret
    exact ⟨by simp [hasI, h1], rfl⟩

def validL (l : List Rc) : Bool := decide (l.length ≤ 3200) && l.all Rc.ok
theorem all_take {l : List Rc} {i : Nat} (hy : i < l.length) : (l.take (i + 1)).all Rc.ok = ((l.take i).all Rc.ok && l[i].ok) := by
  rw [List.take_succ_eq_append_getElem hy, List.all_append]
  simp only [List.all_cons, List.all_nil, Bool.and_true]
theorem not_all {l : List Rc} {i : Nat} (hy : i < l.length) (h : ¬ l[i].ok = true) : l.all Rc.ok = false := by
  rw [Bool.eq_false_iff]
  exact fun hh => h (List.all_eq_true.1 hh _ (List.getElem_mem hy))
set_option maxRecDepth 100000 in
set_option maxHeartbeats 800000 in
theorem spec_l03Valid (l : List Rc) (a : Option Addr) (cap : Nat) (w : World) (h : RectsAt w.heap.size w a l) (hn : l.length ≤ 2000000) : Calls Try.prog 84 #[.slice a l.length cap] w fun e w' => e = .returned (.bool (validL l)) ∧ Below w.heap.size w w' := by
  by_cases hlen : l.length ≤ 3200
  · go_enter Try.func84, Try.ntmps84
    go_wp2_with fail
    go_loopw [3] (fun sk wr => ∃ i : Nat, i ≤ l.length ∧ sk = .int .i64 i ∧ (l.take i).all Rc.ok = true ∧ Below w.heap.size w wr) (fun k _ => l.length - (intOf k).toNat)
    case atStart => exact ⟨0, Nat.zero_le _, rfl, rfl, (by repeat (first | with_reducible exact Below.refl _ _ | with_reducible assumption | with_reducible refine bel_alloc ?_ _ | with_reducible refine bel_drew ?_ | with_reducible refine bel_drewN ?_ _ | with_reducible refine bel_set ?_ (by (try simp) <;> omega) _ | with_reducible refine bel_trans ?_ (by assumption)))⟩
    case round =>
      obtain ⟨i, hi, rfl, hall, hbl⟩ := hrel
      have HA := hide hall
      clear hall
      by_cases hy : i < l.length
      · obtain ⟨g, ha, hg, c0, c1, c2, c3⟩ := h.below hbl (Nat.le_refl _) i l[i] (List.getElem?_eq_getElem hy)
        subst ha
        by_cases hr : l[i].ok = true
        · have hv : vRect l[i].x0 l[i].y0 l[i].x1 l[i].y1 = true := hr
          go_wp2_with (go_at_call 122; refine (spec_IsValidRect _ _ _ _ _).mono ?_; rintro e w1 ⟨rfl, hb1⟩)
          go_roundw
          case rel => exact ⟨i + 1, hy, by go_num, by rw [all_take hy, HA.out, hr]; rfl, (by repeat (first | with_reducible exact Below.refl _ _ | with_reducible assumption | with_reducible refine bel_alloc ?_ _ | with_reducible refine bel_drew ?_ | with_reducible refine bel_drewN ?_ _ | with_reducible refine bel_set ?_ (by (try simp) <;> omega) _ | with_reducible refine bel_trans ?_ (by assumption)))⟩
          case measure => simp [intOf]; omega
        · have hv : vRect l[i].x0 l[i].y0 l[i].x1 l[i].y1 = false := by simpa [Rc.ok] using hr
          go_wp2_with (go_at_call 122; refine (spec_IsValidRect _ _ _ _ _).mono ?_; rintro e w1 ⟨rfl, hb1⟩)
          go_ret
          exact ⟨by rw [validL, not_all hy hr, Bool.and_false]; rfl, (by repeat (first | with_reducible exact Below.refl _ _ | with_reducible assumption | with_reducible refine bel_alloc ?_ _ | with_reducible refine bel_drew ?_ | with_reducible refine bel_drewN ?_ _ | with_reducible refine bel_set ?_ (by (try simp) <;> omega) _ | with_reducible refine bel_trans ?_ (by assumption)))⟩
      · go_wp2
        go_ret
        have := HA.out
        rw [List.take_of_length_le (by omega)] at this
        exact ⟨by simp [validL, this, hlen], hbl⟩
  · go_enter Try.func84, Try.ntmps84
    go_wp2
    go_ret
    exact ⟨by simp [validL, hlen], (by repeat (first | with_reducible exact Below.refl _ _ | with_reducible assumption | with_reducible refine bel_alloc ?_ _ | with_reducible refine bel_drew ?_ | with_reducible refine bel_drewN ?_ _ | with_reducible refine bel_set ?_ (by (try simp) <;> omega) _ | with_reducible refine bel_trans ?_ (by assumption)))⟩
set_option maxRecDepth 100000 in
set_option maxHeartbeats 800000 in
theorem impl_validRects (l : List Rc) (a : Option Addr) (cap : Nat) (w : World) (h : RectsAt w.heap.size w a l) (hn : l.length ≤ 2000000) : Calls Try.prog 87 #[.slice a l.length cap] w fun e w' => e = .returned (.bool (validL l)) ∧ Below w.heap.size w w' := by
  by_cases hlen : l.length ≤ 3200
  · go_enter Try.func87, Try.ntmps87
    go_wp2_with fail
    go_loopw [10] (fun sk wr => ∃ i : Nat, i ≤ l.length ∧ sk = .int .i64 i ∧ (l.take i).all Rc.ok = true ∧ Below w.heap.size w wr) (fun k _ => l.length - (intOf k).toNat)
    case atStart => exact ⟨0, Nat.zero_le _, rfl, rfl, (by repeat (first | with_reducible exact Below.refl _ _ | with_reducible assumption | with_reducible refine bel_alloc ?_ _ | with_reducible refine bel_drew ?_ | with_reducible refine bel_drewN ?_ _ | with_reducible refine bel_set ?_ (by (try simp) <;> omega) _ | with_reducible refine bel_trans ?_ (by assumption)))⟩
    case round =>
      obtain ⟨i, hi, rfl, hall, hbl⟩ := hrel
      have HA := hide hall
      clear hall
      by_cases hy : i < l.length
      · obtain ⟨g, ha, hg, c0, c1, c2, c3⟩ := h.below hbl (Nat.le_refl _) i l[i] (List.getElem?_eq_getElem hy)
        subst ha
        by_cases hr : l[i].ok = true
        · have hv : vRect l[i].x0 l[i].y0 l[i].x1 l[i].y1 = true := hr
          go_wp2_with (go_at_call 120; refine (impl_IsValidRect _ _ _ _ _).mono ?_; rintro e w1 ⟨rfl, hb1⟩)
          go_roundw
          case rel => exact ⟨i + 1, hy, by go_num, by rw [all_take hy, HA.out, hr]; rfl, (by repeat (first | with_reducible exact Below.refl _ _ | with_reducible assumption | with_reducible refine bel_alloc ?_ _ | with_reducible refine bel_drew ?_ | with_reducible refine bel_drewN ?_ _ | with_reducible refine bel_set ?_ (by (try simp) <;> omega) _ | with_reducible refine bel_trans ?_ (by assumption)))⟩
          case measure => simp [intOf]; omega
        · have hv : vRect l[i].x0 l[i].y0 l[i].x1 l[i].y1 = false := by simpa [Rc.ok] using hr
          go_wp2_with (go_at_call 120; refine (impl_IsValidRect _ _ _ _ _).mono ?_; rintro e w1 ⟨rfl, hb1⟩)
          go_ret
          exact ⟨by rw [validL, not_all hy hr, Bool.and_false]; rfl, (by repeat (first | with_reducible exact Below.refl _ _ | with_reducible assumption | with_reducible refine bel_alloc ?_ _ | with_reducible refine bel_drew ?_ | with_reducible refine bel_drewN ?_ _ | with_reducible refine bel_set ?_ (by (try simp) <;> omega) _ | with_reducible refine bel_trans ?_ (by assumption)))⟩
      · go_wp2
        go_ret
        have := HA.out
        rw [List.take_of_length_le (by omega)] at this
        exact ⟨by simp [validL, this, hlen], hbl⟩
  · go_enter Try.func87, Try.ntmps87
    go_wp2
    go_ret
    exact ⟨by simp [validL, hlen], (by repeat (first | with_reducible exact Below.refl _ _ | with_reducible assumption | with_reducible refine bel_alloc ?_ _ | with_reducible refine bel_drew ?_ | with_reducible refine bel_drewN ?_ _ | with_reducible refine bel_set ?_ (by (try simp) <;> omega) _ | with_reducible refine bel_trans ?_ (by assumption)))⟩
theorem take_eq_succ {l m : List Rc} {i : Nat} (hl : i < l.length) (hm : i < m.length) (h : l.take i = m.take i) (e : l[i] = m[i]) : l.take (i + 1) = m.take (i + 1) := by
  rw [List.take_succ_eq_append_getElem hl, List.take_succ_eq_append_getElem hm, h, e]
theorem ne_of_at {l m : List Rc} {i : Nat} (hl : i < l.length) (hm : i < m.length) (e : ¬ l[i] = m[i]) : ¬ l = m := fun h => by subst h; exact e rfl
set_option maxRecDepth 100000 in
set_option maxHeartbeats 1600000 in
theorem spec_l03Same (l m : List Rc) (a a' : Option Addr) (cap cap' : Nat) (w : World) (h : RectsAt w.heap.size w a l) (h' : RectsAt w.heap.size w a' m) (hn : l.length ≤ 2000000) (_hn' : m.length ≤ 2000000) :
    Calls Try.prog 134 #[.slice a l.length cap, .slice a' m.length cap'] w fun e w' => e = .returned (.bool (decide (l = m))) ∧ Below w.heap.size w w' := by
  by_cases hlen : l.length = m.length
  · go_enter Try.func134, Try.ntmps134
    go_wp2_with fail
    go_loopw [5] (fun sk wr => ∃ i : Nat, i ≤ l.length ∧ sk = .int .i64 i ∧ l.take i = m.take i ∧ Below w.heap.size w wr) (fun k _ => l.length - (intOf k).toNat)
    case atStart => exact ⟨0, Nat.zero_le _, rfl, rfl, (by repeat (first | with_reducible exact Below.refl _ _ | with_reducible assumption | with_reducible refine bel_alloc ?_ _ | with_reducible refine bel_drew ?_ | with_reducible refine bel_drewN ?_ _ | with_reducible refine bel_set ?_ (by (try simp) <;> omega) _ | with_reducible refine bel_trans ?_ (by assumption)))⟩
    case round =>
      obtain ⟨i, hi, rfl, hall, hbl⟩ := hrel
      have HA := hide hall
      clear hall
      by_cases hy : i < l.length
      · have hy' : i < m.length := by omega
        obtain ⟨g, ha, hg, c0, c1, c2, c3⟩ := h.below hbl (Nat.le_refl _) i l[i] (List.getElem?_eq_getElem hy)
        obtain ⟨g', ha', hg', c0', c1', c2', c3'⟩ := h'.below hbl (Nat.le_refl _) i m[i] (List.getElem?_eq_getElem hy')
        subst ha
        subst ha'
        obtain ⟨q0, hq0⟩ : ∃ q, q = (l[i].x0 == m[i].x0) := ⟨_, rfl⟩
        obtain ⟨q1, hq1⟩ : ∃ q, q = (l[i].y0 == m[i].y0) := ⟨_, rfl⟩
        obtain ⟨q2, hq2⟩ : ∃ q, q = (l[i].x1 == m[i].x1) := ⟨_, rfl⟩
        obtain ⟨q3, hq3⟩ : ∃ q, q = (l[i].y1 == m[i].y1) := ⟨_, rfl⟩
        have hq : l[i] = m[i] ↔ (q0 && q1 && q2 && q3) = true := by
          rw [hq0, hq1, hq2, hq3]
          simp only [Bool.and_eq_true, beq_iff_eq]
          exact ⟨fun e => by rw [e]; exact ⟨⟨⟨rfl, rfl⟩, rfl⟩, rfl⟩, fun e => Rc.ext' e.1.1.1 e.1.1.2 e.1.2 e.2⟩
        have HQ := hide hq
        clear hq
        replace hq0 := hq0.symm
        replace hq1 := hq1.symm
        replace hq2 := hq2.symm
        replace hq3 := hq3.symm
        go_wp2_with fail
        cases q0 <;> cases q1 <;> cases q2 <;> cases q3 <;> (go_quiet (fail)) <;> go_wp2
        case roundEnd =>
          go_roundw
          case rel => exact ⟨i + 1, hy, by go_num, take_eq_succ hy hy' HA.out (HQ.out.2 rfl), (by repeat (first | with_reducible exact Below.refl _ _ | with_reducible assumption | with_reducible refine bel_alloc ?_ _ | with_reducible refine bel_drew ?_ | with_reducible refine bel_drewN ?_ _ | with_reducible refine bel_set ?_ (by (try simp) <;> omega) _ | with_reducible refine bel_trans ?_ (by assumption)))⟩
          case measure => simp [intOf]; omega
        all_goals
          go_ret
          exact ⟨by rw [decide_eq_false (ne_of_at hy hy' fun e => absurd (HQ.out.1 e) (by simp))]; rfl, (by repeat (first | with_reducible exact Below.refl _ _ | with_reducible assumption | with_reducible refine bel_alloc ?_ _ | with_reducible refine bel_drew ?_ | with_reducible refine bel_drewN ?_ _ | with_reducible refine bel_set ?_ (by (try simp) <;> omega) _ | with_reducible refine bel_trans ?_ (by assumption)))⟩
      · go_wp2
        go_ret
        have := HA.out
        rw [List.take_of_length_le (by omega), List.take_of_length_le (by omega)] at this
        exact ⟨by simp [this], hbl⟩
  · have hne : ¬ l = m := fun e => hlen (by rw [e])
    go_enter Try.func134, Try.ntmps134
    go_wp2
    go_ret
    exact ⟨by simp [hne], (by repeat (first | with_reducible exact Below.refl _ _ | with_reducible assumption | with_reducible refine bel_alloc ?_ _ | with_reducible refine bel_drew ?_ | with_reducible refine bel_drewN ?_ _ | with_reducible refine bel_set ?_ (by (try simp) <;> omega) _ | with_reducible refine bel_trans ?_ (by assumption)))⟩
end Go.Proofs.Ytldgjocjcbhkmaa
