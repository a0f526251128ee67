/- Contracts: the region from the edges (the program). -/
import Derived.Test.YtldgjocjcbhkmabEdg8
namespace Go.Proofs.Ytldgjocjcbhkmab
open Go.RowKit
attribute [local go_sem low] cell_alloc_ite frozen_alloc_ite

set_option maxRecDepth 100000 in
set_option maxHeartbeats 1600000 in
theorem slices_Equal_edges (l m : List Rc) (a a' : Option Addr) (cap cap' : Nat) (w : World) (h : RectsAt w.heap.size w a l) (h' : RectsAt w.heap.size w a' m) (hn : l.length ≤ 2000000) (hn' : m.length ≤ 2000000) :
    Calls Try.prog 34 #[.slice a l.length cap, .slice a' m.length cap'] w fun e w' => e = .returned (.bool (decide (l = m))) ∧ Below w.heap.size w w' := by
  by_cases hlen : l.length = m.length
  · go_enter Try.func34, Try.ntmps34
    go_wp2_with fail
    go_loopw [13] (fun sk wr => ∃ i : Nat, i ≤ l.length ∧ sk = .int .i64 i ∧ l.take i = m.take i ∧ Below w.heap.size w wr) (fun k _ => l.length - (intOf k).toNat)
    case atStart => exact ⟨0, Nat.zero_le _, rfl, rfl, (by repeat (first | with_reducible exact Below.refl _ _ | with_reducible assumption | with_reducible refine bel_alloc ?_ _ | with_reducible refine bel_drew ?_ | with_reducible refine bel_drewN ?_ _ | with_reducible refine bel_set ?_ (by (try simp) <;> omega) _ | with_reducible refine bel_trans ?_ (by assumption)))⟩
    case round =>
      obtain ⟨i, hi, rfl, hall, hbl⟩ := hrel
      have HA := hide hall
      clear hall
      by_cases hy : i < l.length
      · have hy' : i < m.length := by omega
        obtain ⟨g, ha, hg, c0, c1, c2, c3⟩ := h.below hbl (Nat.le_refl _) i l[i] (List.getElem?_eq_getElem hy)
        obtain ⟨g', ha', hg', c0', c1', c2', c3'⟩ := h'.below hbl (Nat.le_refl _) i m[i] (List.getElem?_eq_getElem hy')
        subst ha
        subst ha'
        obtain ⟨q0, hq0⟩ : ∃ q, q = (l[i].x0 == m[i].x0) := ⟨_, rfl⟩
        obtain ⟨q1, hq1⟩ : ∃ q, q = (l[i].y0 == m[i].y0) := ⟨_, rfl⟩
        obtain ⟨q2, hq2⟩ : ∃ q, q = (l[i].x1 == m[i].x1) := ⟨_, rfl⟩
        obtain ⟨q3, hq3⟩ : ∃ q, q = (l[i].y1 == m[i].y1) := ⟨_, rfl⟩
        have hq : l[i] = m[i] ↔ (q0 && q1 && q2 && q3) = true := by
          rw [hq0, hq1, hq2, hq3]
          simp only [Bool.and_eq_true, beq_iff_eq]
          exact ⟨fun e => by rw [e]; exact ⟨⟨⟨rfl, rfl⟩, rfl⟩, rfl⟩, fun e => Rc.ext' e.1.1.1 e.1.1.2 e.1.2 e.2⟩
        have HQ := hide hq
        clear hq
        replace hq0 := hq0.symm
        replace hq1 := hq1.symm
        replace hq2 := hq2.symm
        replace hq3 := hq3.symm
        go_wp2_with fail
        cases q0 <;> cases q1 <;> cases q2 <;> cases q3 <;> (go_quiet (fail)) <;> go_wp2
        case roundEnd =>
          go_roundw
          case rel => exact ⟨i + 1, hy, by go_num, take_eq_succ hy hy' HA.out (HQ.out.2 rfl), (by repeat (first | with_reducible exact Below.refl _ _ | with_reducible assumption | with_reducible refine bel_alloc ?_ _ | with_reducible refine bel_drew ?_ | with_reducible refine bel_drewN ?_ _ | with_reducible refine bel_set ?_ (by (try simp) <;> omega) _ | with_reducible refine bel_trans ?_ (by assumption)))⟩
          case measure => simp [intOf]; omega
        all_goals
          go_ret
          exact ⟨by rw [decide_eq_false (ne_of_at hy hy' fun e => absurd (HQ.out.1 e) (by simp))]; rfl, (by repeat (first | with_reducible exact Below.refl _ _ | with_reducible assumption | with_reducible refine bel_alloc ?_ _ | with_reducible refine bel_drew ?_ | with_reducible refine bel_drewN ?_ _ | with_reducible refine bel_set ?_ (by (try simp) <;> omega) _ | with_reducible refine bel_trans ?_ (by assumption)))⟩
      · go_wp2
        go_ret
        have := HA.out
        rw [List.take_of_length_le (by omega), List.take_of_length_le (by omega)] at this
        exact ⟨by simp [this], hbl⟩
  · have hne : ¬ l = m := fun e => hlen (by rw [e])
    go_enter Try.func34, Try.ntmps34
    go_wp2
    go_ret
    exact ⟨by simp [hne], (by repeat (first | with_reducible exact Below.refl _ _ | with_reducible assumption | with_reducible refine bel_alloc ?_ _ | with_reducible refine bel_drew ?_ | with_reducible refine bel_drewN ?_ _ | with_reducible refine bel_set ?_ (by (try simp) <;> omega) _ | with_reducible refine bel_trans ?_ (by assumption)))⟩

set_option maxRecDepth 100000 in
set_option maxHeartbeats 800000 in
theorem impl_rfe1 (r : Rc) (w : World) (hv : vEdge r.x0 r.y0 r.x1 r.y1 = true) :
    Calls Try.prog 32 #[.agg #[.int .i64 r.x0, .int .i64 r.y0, .int .i64 r.x1, .int .i64 r.y1]] w fun e w' => e = .returned (.bool false) ∧ Below w.heap.size w w' := by
  obtain ⟨z, hz⟩ : ∃ z, z = elenF r.x0 r.y0 r.x1 r.y1 := ⟨_, rfl⟩
  have hz0 : ¬ z < 0 := by
    rw [hz, elen_elenF hv]
    have := elen_bounds hv
    omega
  have HZ := hide hz
  clear hz
  go_enter Try.func32, Try.ntmps32
  go_wp2_with fail
  go_at_call 15
  refine (impl_EdgeLength _ _ _ _ _).mono ?_
  rintro e w1 ⟨he, hb1⟩
  rw [← HZ.out] at he
  subst he
  go_wp2_with fail
  go_ret
  exact ⟨by rw [show decide (z < 0) = false from decide_eq_false (by omega)]; rfl, (by repeat (first | with_reducible exact Below.refl _ _ | with_reducible assumption | with_reducible refine bel_alloc ?_ _ | with_reducible refine bel_drew ?_ | with_reducible refine bel_drewN ?_ _ | with_reducible refine bel_set ?_ (by (try simp) <;> omega) _ | with_reducible refine bel_trans ?_ (by assumption)))⟩
set_option maxRecDepth 100000 in
set_option maxHeartbeats 800000 in
theorem index_edges (l : List Rc) (a : Option Addr) (cap : Nat) (w : World) (h : RectsAt w.heap.size w a l) (hn : l.length ≤ 2000000) (hval : ∀ r ∈ l, vEdge r.x0 r.y0 r.x1 r.y1 = true) :
    Calls Try.prog 58 #[.slice a l.length cap, .func (Fn.func 32) #[] #[]] w fun e w' => e = .returned (.int .i64 (-1)) ∧ Below w.heap.size w w' := by
  have HVAL := hide hval
  clear hval
  go_enter Try.func58, Try.ntmps58
  go_wp2_with fail
  go_loopw [8] (fun s wr => ∃ i : Nat, i ≤ l.length ∧ s = .int .i64 i ∧ Below w.heap.size w wr) (fun s _ => l.length - (intOf s).toNat)
  case atStart => exact ⟨0, Nat.zero_le _, rfl, Below.refl _ _⟩
  case round =>
    obtain ⟨i, hi, rfl, hbl⟩ := hrel
    by_cases hy1 : i < l.length
    · obtain ⟨g, ha, hg, c0, c1, c2, c3⟩ := h.below hbl (Nat.le_refl _) i l[i] (List.getElem?_eq_getElem hy1)
      subst ha
      go_wp2_with (go_at_call 32; refine (impl_rfe1 l[i] _ (HVAL.out l[i] (List.getElem_mem hy1))).mono ?_; rintro e w1 ⟨rfl, hb1⟩)
      go_roundw
      case rel => exact ⟨i + 1, hy1, by go_num, bel_trans hbl hb1⟩
      case measure => simp [intOf]; omega
    · go_wp2_with fail
      go_ret
      exact ⟨rfl, hbl⟩
set_option maxRecDepth 100000 in
set_option maxHeartbeats 800000 in
theorem contains_edges (l : List Rc) (a : Option Addr) (cap : Nat) (w : World) (h : RectsAt w.heap.size w a l) (hn : l.length ≤ 2000000) (hval : ∀ r ∈ l, vEdge r.x0 r.y0 r.x1 r.y1 = true) :
    Calls Try.prog 31 #[.slice a l.length cap, .func (Fn.func 32) #[] #[]] w fun e w' => e = .returned (.bool false) ∧ Below w.heap.size w w' := by
  go_enter Try.func31, Try.ntmps31
  go_wp2_with fail
  go_at_call 58
  refine (index_edges l _ _ _ h hn hval).mono ?_
  rintro e w1 ⟨rfl, hb1⟩
  go_wp2_with fail
  go_ret
  exact ⟨rfl, hb1⟩
set_option maxRecDepth 100000 in
set_option maxHeartbeats 1600000 in
theorem impl_RegionFromEdges (g : Grid) (L : List Rc) (a : Option Addr) (cap : Nat) (w : World) (h : RectsAt w.heap.size w a L) (hL : L = bndL g) :
    Calls Try.prog 16 #[.slice a L.length cap] w fun e w' => ∃ v, e = .returned (.tuple #[v, .bool true]) ∧ OwnRects w' w.heap.size v (regionL g) ∧ Below w.heap.size w w' := by
  have HVAL : Hid (∀ r ∈ L, vEdge r.x0 r.y0 r.x1 r.y1 = true) := by rw [Hid, hL]; exact bndL_valid _
  have hlen : L.length ≤ 12800 := by rw [hL, bndL, (sortE_perm _).length_eq]; exact edgesL_max g
  have hlI : ¬ (12800 : Int) < (L.length : Int) := by omega
  have HL := hide hL
  have HLEN := hide hlen
  clear hL hlen
  go_enter Try.func16, Try.ntmps16
  go_wp2_with fail
  go_at_call 31
  refine (contains_edges L _ _ _ h (by have := HLEN.out; omega) HVAL.out).mono ?_
  rintro e w1 ⟨rfl, hb1⟩
  go_wp2_with fail
  go_at_call 33
  refine (impl_parity g L _ _ _ (h.kept hb1) (by have := HLEN.out; omega) HVAL.out (fun y x => by rw [HL.out, bndL]; exact hits_perm (sortE_perm _) y x)).mono ?_
  rintro e w2 ⟨b2, rfl, hlo2, hrow2, hb2⟩
  have hlt2 := hrow2.lt
  have hb12 := bel_trans hb1 hb2
  clear hb1 hb2
  go_wp2_with fail
  go_at_call 24
  refine (impl_boundary _ _ w2 hrow2).mono ?_
  rintro e w3 ⟨a3, c3, he3, ho3, hb3⟩
  rw [← HL.out] at he3 ho3
  subst he3
  have hat3 := edges_at ho3
  have hrow3 : _root_.Go.World.rowIs _ b2 69 6400 (gv g) := hrow2.of_block (hb3.block b2 hlt2)
  have hb13 := bel_trans hb12 hb3
  have hh3 := h.kept hb13
  clear ho3 hb3 hb12 hrow2
  go_wp2_with fail
  go_at_call 34
  refine (slices_Equal_edges L L _ _ _ _ _ hat3 hh3 (by have := HLEN.out; omega) (by have := HLEN.out; omega)).mono ?_
  rintro e w4 ⟨he, hb4⟩
  rw [decide_eq_true (rfl : L = L)] at he
  subst he
  have hrow4 : _root_.Go.World.rowIs _ b2 69 6400 (gv g) := hrow3.of_block (hb4.block b2 hrow3.lt)
  have hb14 := bel_trans hb13 hb4
  clear hrow3 hb13 hb4 hat3 hh3
  go_wp2_with fail
  go_at_call 35
  refine (impl_region g _ _ _ hrow4).mono ?_
  rintro e w5 ⟨v, rfl, ho5, hb5⟩
  go_wp2_with fail
  exact bodyPost_ret (v := .tuple #[v, .bool true]) (by first | (simp [results, Try.results16, go_sem, *]; done) | simp [results, Try.results16, go_sem, *, ↓IntWalk.iteOmega]) rfl ⟨v, rfl, own_base ho5 hb14.size, bel_trans hb14 hb5⟩
end Go.Proofs.Ytldgjocjcbhkmab
