/- Contracts: does a region contain a unit cell? -/
import Derived.Test.YthpfjhijkgmglabRegF
namespace Go.Proofs.Ythpfjhijkgmglab
open Go.RowKit
attribute [local go_sem low] cell_alloc_ite frozen_alloc_ite

def anyAt (l : List Rc) (x y : Int) : Bool := l.any fun r => contB r.x0 r.y0 r.x1 r.y1 x y
def contR (l : List Rc) (x y : Int) : Bool := isReg l && anyAt l x y
theorem hasI_any {l : List Rc} (h : ∀ r ∈ l, r.ok = true) (x y : Int) : hasI (bitsOf l) x y = anyAt l x y := by
  rw [Bool.eq_iff_iff]
  simp only [hasI, anyAt, bitsOf, Bool.and_eq_true, inR_iff, List.any_eq_true]
  constructor
  · rintro ⟨⟨hx, hy⟩, r, hr, hh⟩
    refine ⟨r, hr, ?_⟩
    have := vRect_iff.1 (h r hr)
    have hv : vRect r.x0 r.y0 r.x1 r.y1 = true := h r hr
    rw [Rc.has_iff] at hh
    simp only [contB, hv, Bool.true_and, Bool.and_eq_true, decide_eq_true_eq]
    omega
  · rintro ⟨r, hr, hh⟩
    have hv := vRect_iff.1 (h r hr)
    simp only [contB, Bool.and_eq_true, decide_eq_true_eq] at hh
    refine ⟨⟨by omega, by omega⟩, r, hr, ?_⟩
    rw [Rc.has_iff]
    omega
set_option maxHeartbeats 800000 in
theorem spec_RegionContains (l : List Rc) (x y : Int) (a : Option Addr) (cap : Nat) (w : World) (h : RectsAt w.heap.size w a l) (hn : l.length ≤ 2000000) : Calls Try.prog 20 #[.slice a l.length cap, .int .i64 x, .int .i64 y] w fun e w' => e = .returned (.bool (contR l x y)) ∧ Below w.heap.size w w' := by
  cases hv : isReg l
  · have hr : contR l x y = false := by rw [contR, hv]; rfl
    rw [hr]
    clear hr
    go_enter Try.func20, Try.ntmps20
    go_wp2_with fail
    go_at_call 33
    refine (spec_l03Ok l _ _ _ h hn).mono ?_
    rintro e w1 ⟨rfl, hb1⟩
    go_wp2_with fail
    go_ret
    exact ⟨rfl, hb1⟩
  · have hok := isReg_iff.1 hv
    have hr : contR l x y = hasI (bitsOf l) x y := by rw [contR, hv, hasI_any hok.2.1]; rfl
    rw [hr]
    have HOK := hide hok
    clear hr hok
    go_enter Try.func20, Try.ntmps20
    go_wp2_with fail
    go_at_call 33
    refine (spec_l03Ok l _ _ _ h hn).mono ?_
    rintro e w1 ⟨rfl, hb1⟩
    go_wp2_with fail
    go_at_call 41
    refine (spec_l03Bits l _ _ _ (h.kept hb1) (by have := HOK.out.1; omega) HOK.out.2.1).mono ?_
    rintro e w2 ⟨b, rfl, _, hrow, hb2⟩
    go_wp2_with fail
    go_at_call 42
    refine (spec_l03Has _ _ _ _ _ _ hrow).mono ?_
    rintro e w3 ⟨rfl, rfl⟩
    go_wp2_with fail
    go_ret
    exact ⟨rfl, bel_trans hb1 hb2⟩
set_option maxHeartbeats 800000 in
theorem impl_cont1 (r : Rc) (x y : Int) (p q : Nat) (w : World) (hx : w.cell? ⟨p, 0, none⟩ = some (.int .i64 x)) (hy : w.cell? ⟨q, 0, none⟩ = some (.int .i64 y)) :
    Calls Try.prog 44 #[.agg #[.int .i64 r.x0, .int .i64 r.y0, .int .i64 r.x1, .int .i64 r.y1], .pointer (some ⟨p, 0, none⟩), .pointer (some ⟨q, 0, none⟩)] w fun e w' => e = .returned (.bool (contB r.x0 r.y0 r.x1 r.y1 x y)) ∧ Below w.heap.size w w' := by
  have lp := World.block_lt_of_cell? _ _ hx
  have lq := World.block_lt_of_cell? _ _ hy
  simp only at lp lq
  go_enter Try.func44, Try.ntmps44
  go_wp2_with (go_at_call 45; refine (impl_RectContains _ _ _ _ _ _ _).mono ?_; rintro e w1 ⟨rfl, hb1⟩)
  go_ret
  exact ⟨rfl, (by repeat (first | with_reducible exact Below.refl _ _ | with_reducible assumption | with_reducible refine bel_alloc ?_ _ | with_reducible refine bel_drew ?_ | with_reducible refine bel_drewN ?_ _ | with_reducible refine bel_set ?_ (by (try simp) <;> omega) _ | with_reducible refine bel_trans ?_ (by assumption)))⟩
def idxPost (w : World) (b : Bool) (e : Ending) (w' : World) : Prop := ∃ n : Int, e = .returned (.int .i64 n) ∧ decide (0 ≤ n) = b ∧ Below w.heap.size w w'
theorem any_take {l : List Rc} {x y : Int} {i : Nat} (h : i < l.length) : anyAt (l.take (i + 1)) x y = (anyAt (l.take i) x y || contB l[i].x0 l[i].y0 l[i].x1 l[i].y1 x y) := by
  unfold anyAt
  rw [List.take_succ_eq_append_getElem h, List.any_append]
  simp only [List.any_cons, List.any_nil, Bool.or_false]
set_option maxHeartbeats 800000 in
theorem impl_IndexFunc (l : List Rc) (x y : Int) (p q : Nat) (a : Option Addr) (cap : Nat) (w : World) (h : RectsAt w.heap.size w a l) (hn : l.length ≤ 2000000)
    (hx : w.cell? ⟨p, 0, none⟩ = some (.int .i64 x)) (hy : w.cell? ⟨q, 0, none⟩ = some (.int .i64 y)) :
    Calls Try.prog 65 #[.slice a l.length cap, .func (Fn.func 44) #[] #[.pointer (some ⟨p, 0, none⟩), .pointer (some ⟨q, 0, none⟩)]] w (idxPost w (anyAt l x y)) := by
  have lp := World.block_lt_of_cell? _ _ hx
  have lq := World.block_lt_of_cell? _ _ hy
  simp only at lp lq
  go_enter Try.func65, Try.ntmps65
  go_wp2_with fail
  go_loopw [8] (fun s wr => ∃ i : Nat, i ≤ l.length ∧ s = .int .i64 i ∧ anyAt (l.take i) x y = false ∧ Below w.heap.size w wr) (fun s _ => l.length - (intOf s).toNat)
  case atStart => exact ⟨0, Nat.zero_le _, rfl, rfl, Below.refl _ _⟩
  case round =>
    obtain ⟨i, hi, rfl, hall, hbl⟩ := hrel
    have HA := hide hall
    clear hall
    by_cases hy1 : i < l.length
    · obtain ⟨g, ha, hg, c0, c1, c2, c3⟩ := h.below hbl (Nat.le_refl _) i l[i] (List.getElem?_eq_getElem hy1)
      subst ha
      have ex : _root_.Go.World.cell? _ ⟨p, 0, none⟩ = some (.int .i64 x) := keep_cell hbl hx
      have ey : _root_.Go.World.cell? _ ⟨q, 0, none⟩ = some (.int .i64 y) := keep_cell hbl hy
      cases hc : contB l[i].x0 l[i].y0 l[i].x1 l[i].y1 x y
      · have HC := hide hc
        clear hc
        go_wp2_with (go_at_call 44; refine (impl_cont1 l[i] x y p q _ ex ey).mono ?_; rintro e w1 ⟨he, hb1⟩; rw [HC.out] at he; subst he)
        go_roundw
        case rel => exact ⟨i + 1, hy1, by go_num, by rw [any_take hy1, HA.out, HC.out]; rfl, bel_trans hbl hb1⟩
        case measure => simp [intOf]; omega
      · have HC := hide hc
        clear hc
        go_wp2_with (go_at_call 44; refine (impl_cont1 l[i] x y p q _ ex ey).mono ?_; rintro e w1 ⟨he, hb1⟩; rw [HC.out] at he; subst he)
        go_ret
        refine ⟨i, rfl, ?_, bel_trans hbl hb1⟩
        have : anyAt l x y = true := List.any_eq_true.2 ⟨l[i], List.getElem_mem hy1, HC.out⟩
        rw [this]
        simp
    · go_wp2_with fail
      go_ret
      refine ⟨-1, rfl, ?_, hbl⟩
      have := HA.out
      rw [List.take_of_length_le (by omega)] at this
      rw [this]
      rfl
set_option maxHeartbeats 800000 in
theorem impl_ContainsFunc (l : List Rc) (x y : Int) (p q : Nat) (a : Option Addr) (cap : Nat) (w : World) (h : RectsAt w.heap.size w a l) (hn : l.length ≤ 2000000)
    (hx : w.cell? ⟨p, 0, none⟩ = some (.int .i64 x)) (hy : w.cell? ⟨q, 0, none⟩ = some (.int .i64 y)) :
    Calls Try.prog 43 #[.slice a l.length cap, .func (Fn.func 44) #[] #[.pointer (some ⟨p, 0, none⟩), .pointer (some ⟨q, 0, none⟩)]] w fun e w' => e = .returned (.bool (anyAt l x y)) ∧ Below w.heap.size w w' := by
  go_enter Try.func43, Try.ntmps43
  go_wp2_with fail
  go_at_call 65
  refine (impl_IndexFunc l x y p q _ _ _ h hn hx hy).mono ?_
  rintro e w1 ⟨n, rfl, hd, hb1⟩
  have HD := hide hd
  clear hd
  go_wp2_with fail
  go_ret
  exact ⟨by rw [← HD.out]; rfl, hb1⟩
set_option maxHeartbeats 800000 in
theorem impl_RegionContains (l : List Rc) (x y : Int) (a : Option Addr) (cap : Nat) (w : World) (h : RectsAt w.heap.size w a l) (hn : l.length ≤ 2000000) : Calls Try.prog 21 #[.slice a l.length cap, .int .i64 x, .int .i64 y] w fun e w' => e = .returned (.bool (contR l x y)) ∧ Below w.heap.size w w' := by
  cases hv : isReg l
  · have hr : contR l x y = false := by rw [contR, hv]; rfl
    rw [hr]
    clear hr
    go_enter Try.func21, Try.ntmps21
    go_wp2_with fail
    go_at_call 14
    refine (impl_IsRegion l _ _ _ ((h.below (w' := (w.alloc _).alloc _) (by repeat (first | with_reducible exact Below.refl _ _ | with_reducible assumption | with_reducible refine bel_alloc ?_ _ | with_reducible refine bel_drew ?_ | with_reducible refine bel_drewN ?_ _ | with_reducible refine bel_set ?_ (by (try simp) <;> omega) _ | with_reducible refine bel_trans ?_ (by assumption))) (Nat.le_refl _)).mono (by simp; omega)) hn).mono ?_
    rintro e w1 ⟨rfl, hb1⟩
    go_wp2_with fail
    go_ret
    exact ⟨rfl, (by repeat (first | with_reducible exact Below.refl _ _ | with_reducible assumption | with_reducible refine bel_alloc ?_ _ | with_reducible refine bel_drew ?_ | with_reducible refine bel_drewN ?_ _ | with_reducible refine bel_set ?_ (by (try simp) <;> omega) _ | with_reducible refine bel_trans ?_ (by assumption)))⟩
  · have hr : contR l x y = anyAt l x y := by rw [contR, hv]; rfl
    rw [hr]
    clear hr
    go_enter Try.func21, Try.ntmps21
    go_wp2_with fail
    go_at_call 14
    refine (impl_IsRegion l _ _ _ ((h.below (w' := (w.alloc _).alloc _) (by repeat (first | with_reducible exact Below.refl _ _ | with_reducible assumption | with_reducible refine bel_alloc ?_ _ | with_reducible refine bel_drew ?_ | with_reducible refine bel_drewN ?_ _ | with_reducible refine bel_set ?_ (by (try simp) <;> omega) _ | with_reducible refine bel_trans ?_ (by assumption))) (Nat.le_refl _)).mono (by simp; omega)) hn).mono ?_
    rintro e w1 ⟨rfl, hb1⟩
    have hs1 := hb1.size
    simp at hs1
    go_wp2_with fail
    go_at_call 43
    refine (impl_ContainsFunc l x y w.heap.size (w.heap.size + 1) _ _ _ (((h.below (w' := (w.alloc _).alloc _) (by repeat (first | with_reducible exact Below.refl _ _ | with_reducible assumption | with_reducible refine bel_alloc ?_ _ | with_reducible refine bel_drew ?_ | with_reducible refine bel_drewN ?_ _ | with_reducible refine bel_set ?_ (by (try simp) <;> omega) _ | with_reducible refine bel_trans ?_ (by assumption))) (Nat.le_refl _)).mono (by simp; omega)).kept hb1) hn ((hb1.cell (p := ⟨w.heap.size, 0, none⟩) (by simp; omega)).trans (by simp [go_sem])) ((hb1.cell (p := ⟨w.heap.size + 1, 0, none⟩) (by simp)).trans (by simp [go_sem]))).mono ?_
    rintro e w2 ⟨rfl, hb2⟩
    go_wp2_with fail
    go_ret
    exact ⟨rfl, (by repeat (first | with_reducible exact Below.refl _ _ | with_reducible assumption | with_reducible refine bel_alloc ?_ _ | with_reducible refine bel_drew ?_ | with_reducible refine bel_drewN ?_ _ | with_reducible refine bel_set ?_ (by (try simp) <;> omega) _ | with_reducible refine bel_trans ?_ (by assumption)))⟩
end Go.Proofs.Ythpfjhijkgmglab
