/- Contracts: the box of a list of rectangles. -/
import Derived.Test.YtldgjocjcbhkmaaLawS
namespace Go.Proofs.Ytldgjocjcbhkmaa
open Go.RowKit
attribute [local go_sem high] run_max2 run_min2
attribute [local go_sem low] cell_alloc_ite frozen_alloc_ite

def bx (r s : Rc) : Rc := ⟨min r.x0 s.x0, min r.y0 s.y0, max r.x1 s.x1, max r.y1 s.y1⟩
def boxL : List Rc → Rc
  | [] => ⟨0, 0, 0, 0⟩
  | r :: l => (r :: l).foldl bx r
theorem bx_self (r : Rc) : bx r r = r := by cases r; simp [bx]
theorem fold_take {l : List Rc} {r : Rc} {i : Nat} (h : i < l.length) : (l.take (i + 1)).foldl bx r = bx ((l.take i).foldl bx r) l[i] := by
  rw [List.take_succ_eq_append_getElem h, List.foldl_append]; rfl
theorem boxL_all {l : List Rc} (h : 0 < l.length) : boxL l = l.foldl bx l[0] := by
  cases l with
  | nil => simp at h
  | cons r l => rfl
theorem fold_one {l : List Rc} (h : 0 < l.length) : (l.take 1).foldl bx l[0] = l[0] := by
  cases l with
  | nil => simp at h
  | cons r l => simp [bx_self]
def rcA (r : Rc) : Value := .agg #[.int .i64 r.x0, .int .i64 r.y0, .int .i64 r.x1, .int .i64 r.y1]
set_option maxRecDepth 100000 in
set_option maxHeartbeats 1600000 in
theorem impl_boxOf (l : List Rc) (a : Option Addr) (cap : Nat) (w : World) (h : RectsAt w.heap.size w a l) (hn : l.length ≤ 2000000) (hp : 0 < l.length) : Calls Try.prog 124 #[.slice a l.length cap] w fun e w' => e = .returned (rcA (boxL l)) ∧ Below w.heap.size w w' := by
  obtain ⟨g0, ha0, hg0, b0, b1, b2, b3⟩ := h 0 l[0] (List.getElem?_eq_getElem hp)
  subst ha0
  simp only [Nat.zero_mul, Nat.zero_add] at b0 b1 b2 b3
  go_enter Try.func124, Try.ntmps124
  go_wp2_with fail
  go_loopw [11] (fun s wr => ∃ (i : Nat) (o : Rc), i ≤ l.length ∧ s = .int .i64 i ∧ o = (l.take i).foldl bx l[0] ∧ wr.cell? ⟨w.heap.size + 1, 0, none⟩ = some (.int .i64 o.x0) ∧ wr.cell? ⟨w.heap.size + 1, 1, none⟩ = some (.int .i64 o.y0) ∧
      wr.cell? ⟨w.heap.size + 1, 2, none⟩ = some (.int .i64 o.x1) ∧ wr.cell? ⟨w.heap.size + 1, 3, none⟩ = some (.int .i64 o.y1) ∧ (∀ j, wr.frozen? ⟨w.heap.size + 1, j, none⟩ = false) ∧ w.heap.size + 1 < wr.heap.size ∧
      Below (w.alloc (.cells #[.int .i64 0, .int .i64 0, .int .i64 0, .int .i64 0] 39)).heap.size (w.alloc (.cells #[.int .i64 0, .int .i64 0, .int .i64 0, .int .i64 0] 39)) wr) (fun s _ => l.length - (intOf s).toNat)
  case atStart =>
    exact ⟨0, l[0], Nat.zero_le _, rfl, rfl, by simp [go_sem], by simp [go_sem], by simp [go_sem], by simp [go_sem], fun j => by simp [go_sem], by simp, (by repeat (first | with_reducible exact Below.refl _ _ | with_reducible assumption | with_reducible refine bel_alloc ?_ _ | with_reducible refine bel_drew ?_ | with_reducible refine bel_drewN ?_ _ | with_reducible refine bel_set ?_ (by (try simp) <;> omega) _ | with_reducible refine bel_trans ?_ (by assumption)))⟩
  case round =>
    obtain ⟨i, o, hi, rfl, ho, d0, d1, d2, d3, hfr, hz, hbl⟩ := hrel
    have HO := hide ho
    clear ho
    have hbl0 : Below w.heap.size w _ := ((Below.refl w.heap.size w).alloc (Nat.le_refl _) _).trans (hbl.mono (by simp))
    by_cases hy : i < l.length
    · obtain ⟨g, ha, hg, c0, c1, c2, c3⟩ := h.below hbl0 (Nat.le_refl _) i l[i] (List.getElem?_eq_getElem hy)
      simp only [Option.some.injEq, Addr.mk.injEq, and_true] at ha
      subst ha
      have f0 := hfr 0
      have f1 := hfr 1
      have f2 := hfr 2
      have f3 := hfr 3
      have HF := hide hfr
      clear b0 b1 b2 b3 hfr
      go_wp2_with fail
      go_roundw
      case rel =>
        refine ⟨i + 1, bx o l[i], hy, by go_num, by rw [fold_take hy, HO.out], ?_, ?_, ?_, ?_, ?_, ?_, ?_⟩
        · simp [go_sem, *, bx]
        · simp [go_sem, *, bx]
        · simp [go_sem, *, bx]
        · simp [go_sem, *, bx]
        · intro j
          have := HF.out j
          simp [go_sem, *]
        · simp; omega
        · exact (by repeat (first | with_reducible exact Below.refl _ _ | with_reducible assumption | with_reducible refine bel_alloc ?_ _ | with_reducible refine bel_drew ?_ | with_reducible refine bel_drewN ?_ _ | with_reducible refine bel_set ?_ (by (try simp) <;> omega) _ | with_reducible refine bel_trans ?_ (by assumption)))
      case measure => simp [intOf]; omega
    · have k0 := hbl.cell (p := ⟨w.heap.size, 0, none⟩) (by simp)
      have k1 := hbl.cell (p := ⟨w.heap.size, 1, none⟩) (by simp)
      have k2 := hbl.cell (p := ⟨w.heap.size, 2, none⟩) (by simp)
      have k3 := hbl.cell (p := ⟨w.heap.size, 3, none⟩) (by simp)
      have q0 := hbl.frozen (p := ⟨w.heap.size, 0, none⟩) (by simp)
      have q1 := hbl.frozen (p := ⟨w.heap.size, 1, none⟩) (by simp)
      have q2 := hbl.frozen (p := ⟨w.heap.size, 2, none⟩) (by simp)
      have q3 := hbl.frozen (p := ⟨w.heap.size, 3, none⟩) (by simp)
      simp [go_sem] at k0 k1 k2 k3 q0 q1 q2 q3
      rw [List.take_of_length_le (by omega), ← boxL_all hp] at HO
      clear b0 b1 b2 b3 hfr
      go_wp2_with fail
      refine bodyPost_ret (v := rcA o) (by simp [results, Try.results124, go_sem, rcA, *]) rfl ⟨by rw [HO.out], (by repeat (first | with_reducible exact Below.refl _ _ | with_reducible assumption | with_reducible refine bel_alloc ?_ _ | with_reducible refine bel_drew ?_ | with_reducible refine bel_drewN ?_ _ | with_reducible refine bel_set ?_ (by (try simp) <;> omega) _ | with_reducible refine bel_trans ?_ (by assumption)))⟩
set_option maxRecDepth 100000 in
set_option maxHeartbeats 1600000 in
theorem spec_l02Box (l : List Rc) (a : Option Addr) (cap : Nat) (w : World) (h : RectsAt w.heap.size w a l) (hn : l.length ≤ 2000000) (hp : 0 < l.length) : Calls Try.prog 113 #[.slice a l.length cap] w fun e w' => e = .returned (rcA (boxL l)) ∧ Below w.heap.size w w' := by
  obtain ⟨g0, ha0, hg0, b0, b1, b2, b3⟩ := h 0 l[0] (List.getElem?_eq_getElem hp)
  subst ha0
  simp only [Nat.zero_mul, Nat.zero_add] at b0 b1 b2 b3
  go_enter Try.func113, Try.ntmps113
  go_wp2_with fail
  go_loopw [4] (fun s wr => ∃ (i : Nat) (o : Rc), 1 ≤ i ∧ i ≤ l.length ∧ s = .int .i64 i ∧ o = (l.take i).foldl bx l[0] ∧ wr.cell? ⟨w.heap.size + 1, 0, none⟩ = some (.int .i64 o.x0) ∧ wr.cell? ⟨w.heap.size + 1, 1, none⟩ = some (.int .i64 o.y0) ∧
      wr.cell? ⟨w.heap.size + 1, 2, none⟩ = some (.int .i64 o.x1) ∧ wr.cell? ⟨w.heap.size + 1, 3, none⟩ = some (.int .i64 o.y1) ∧ (∀ j, wr.frozen? ⟨w.heap.size + 1, j, none⟩ = false) ∧ w.heap.size + 1 < wr.heap.size ∧
      Below (w.alloc (.cells #[.int .i64 0, .int .i64 0, .int .i64 0, .int .i64 0] 39)).heap.size (w.alloc (.cells #[.int .i64 0, .int .i64 0, .int .i64 0, .int .i64 0] 39)) wr) (fun s _ => l.length - (intOf s).toNat)
  case atStart =>
    exact ⟨1, l[0], Nat.le_refl _, hp, rfl, (fold_one hp).symm, by simp [go_sem], by simp [go_sem], by simp [go_sem], by simp [go_sem], fun j => by simp [go_sem], by simp, (by repeat (first | with_reducible exact Below.refl _ _ | with_reducible assumption | with_reducible refine bel_alloc ?_ _ | with_reducible refine bel_drew ?_ | with_reducible refine bel_drewN ?_ _ | with_reducible refine bel_set ?_ (by (try simp) <;> omega) _ | with_reducible refine bel_trans ?_ (by assumption)))⟩
  case round =>
    obtain ⟨i, o, hi1, hi, rfl, ho, d0, d1, d2, d3, hfr, hz, hbl⟩ := hrel
    have HO := hide ho
    clear ho
    have hbl0 : Below w.heap.size w _ := ((Below.refl w.heap.size w).alloc (Nat.le_refl _) _).trans (hbl.mono (by simp))
    by_cases hy : i < l.length
    · obtain ⟨g, ha, hg, c0, c1, c2, c3⟩ := h.below hbl0 (Nat.le_refl _) i l[i] (List.getElem?_eq_getElem hy)
      simp only [Option.some.injEq, Addr.mk.injEq, and_true] at ha
      subst ha
      have f0 := hfr 0
      have f1 := hfr 1
      have f2 := hfr 2
      have f3 := hfr 3
      have HF := hide hfr
      clear b0 b1 b2 b3 hfr
      go_wp2_with fail
      go_roundw
      case rel =>
        refine ⟨i + 1, bx o l[i], by omega, hy, by go_num, by rw [fold_take hy, HO.out], ?_, ?_, ?_, ?_, ?_, ?_, ?_⟩
        · simp [go_sem, *, bx]
        · simp [go_sem, *, bx]
        · simp [go_sem, *, bx]
        · simp [go_sem, *, bx]
        · intro j
          have := HF.out j
          simp [go_sem, *]
        · simp; omega
        · exact (by repeat (first | with_reducible exact Below.refl _ _ | with_reducible assumption | with_reducible refine bel_alloc ?_ _ | with_reducible refine bel_drew ?_ | with_reducible refine bel_drewN ?_ _ | with_reducible refine bel_set ?_ (by (try simp) <;> omega) _ | with_reducible refine bel_trans ?_ (by assumption)))
      case measure => simp [intOf]; omega
    · have k0 := hbl.cell (p := ⟨w.heap.size, 0, none⟩) (by simp)
      have k1 := hbl.cell (p := ⟨w.heap.size, 1, none⟩) (by simp)
      have k2 := hbl.cell (p := ⟨w.heap.size, 2, none⟩) (by simp)
      have k3 := hbl.cell (p := ⟨w.heap.size, 3, none⟩) (by simp)
      have q0 := hbl.frozen (p := ⟨w.heap.size, 0, none⟩) (by simp)
      have q1 := hbl.frozen (p := ⟨w.heap.size, 1, none⟩) (by simp)
      have q2 := hbl.frozen (p := ⟨w.heap.size, 2, none⟩) (by simp)
      have q3 := hbl.frozen (p := ⟨w.heap.size, 3, none⟩) (by simp)
      simp [go_sem] at k0 k1 k2 k3 q0 q1 q2 q3
      rw [List.take_of_length_le (by omega), ← boxL_all hp] at HO
      clear b0 b1 b2 b3 hfr
      go_wp2_with fail
      refine bodyPost_ret (v := rcA o) (by simp [results, Try.results113, go_sem, rcA, *]) rfl ⟨by rw [HO.out], (by repeat (first | with_reducible exact Below.refl _ _ | with_reducible assumption | with_reducible refine bel_alloc ?_ _ | with_reducible refine bel_drew ?_ | with_reducible refine bel_drewN ?_ _ | with_reducible refine bel_set ?_ (by (try simp) <;> omega) _ | with_reducible refine bel_trans ?_ (by assumption)))⟩
def boxB (l : List Rc) : Bool := isReg l && decide (0 < l.length)
def rbR (b : Bool) (l : List Rc) : Rc := if b then boxL l else ⟨0, 0, 0, 0⟩
set_option maxRecDepth 100000 in
set_option maxHeartbeats 1600000 in
theorem spec_RegionBox (l : List Rc) (a : Option Addr) (cap : Nat) (w : World) (h : RectsAt w.heap.size w a l) (hn : l.length ≤ 2000000) : Calls Try.prog 59 #[.slice a l.length cap] w fun e w' => e = .returned (.tuple #[rcA (rbR (boxB l) l), .bool (boxB l)]) ∧ Below w.heap.size w w' := by
  cases hv : isReg l
  · have hb : boxB l = false := by simp [boxB, hv]
    rw [hb]
    clear hb
    go_enter Try.func59, Try.ntmps59
    go_wp2_with (go_at_call 75; refine (spec_l03Ok l _ _ _ ((h.below (w' := w.alloc _) (by repeat (first | with_reducible exact Below.refl _ _ | with_reducible assumption | with_reducible refine bel_alloc ?_ _ | with_reducible refine bel_drew ?_ | with_reducible refine bel_drewN ?_ _ | with_reducible refine bel_set ?_ (by (try simp) <;> omega) _ | with_reducible refine bel_trans ?_ (by assumption))) (Nat.le_refl _)).mono (by simp)) hn).mono ?_; rintro e w1 ⟨rfl, hb⟩; obtain ⟨_, _, hc, hf⟩ := bcellI hb; have hs := hb.size; (try simp at hs))
    refine bodyPost_ret (v := .tuple #[rcA (rbR false l), .bool false]) (by simp [results, Try.results59, go_sem, rcA, rbR, *]) rfl ⟨rfl, (by repeat (first | with_reducible exact Below.refl _ _ | with_reducible assumption | with_reducible refine bel_alloc ?_ _ | with_reducible refine bel_drew ?_ | with_reducible refine bel_drewN ?_ _ | with_reducible refine bel_set ?_ (by (try simp) <;> omega) _ | with_reducible refine bel_trans ?_ (by assumption)))⟩
  by_cases hl : l = []
  · subst hl
    have hb : boxB [] = false := by simp [boxB]
    rw [hb]
    clear hb
    go_enter Try.func59, Try.ntmps59
    go_wp2_with (go_at_call 75; refine (spec_l03Ok [] _ _ _ ((h.below (w' := w.alloc _) (by repeat (first | with_reducible exact Below.refl _ _ | with_reducible assumption | with_reducible refine bel_alloc ?_ _ | with_reducible refine bel_drew ?_ | with_reducible refine bel_drewN ?_ _ | with_reducible refine bel_set ?_ (by (try simp) <;> omega) _ | with_reducible refine bel_trans ?_ (by assumption))) (Nat.le_refl _)).mono (by simp)) hn).mono ?_; rintro e w1 ⟨rfl, hb⟩; obtain ⟨_, _, hc, hf⟩ := bcellI hb; have hs := hb.size; (try simp at hs))
    refine bodyPost_ret (v := .tuple #[rcA (rbR false []), .bool false]) (by simp [results, Try.results59, go_sem, rcA, rbR, *]) rfl ⟨rfl, (by repeat (first | with_reducible exact Below.refl _ _ | with_reducible assumption | with_reducible refine bel_alloc ?_ _ | with_reducible refine bel_drew ?_ | with_reducible refine bel_drewN ?_ _ | with_reducible refine bel_set ?_ (by (try simp) <;> omega) _ | with_reducible refine bel_trans ?_ (by assumption)))⟩
  · have hl2 : ((l.length : Int) == 0) = false := by simp; exact hl
    have hlp : 0 < l.length := List.length_pos_iff.2 hl
    have hb : boxB l = true := by simp [boxB, hv, hlp]
    rw [hb]
    have HL := hide hlp
    clear hb hl hlp
    go_enter Try.func59, Try.ntmps59
    go_wp2_with fail
    go_at_call 75
    refine (spec_l03Ok l _ _ _ ((h.below (w' := w.alloc _) (by repeat (first | with_reducible exact Below.refl _ _ | with_reducible assumption | with_reducible refine bel_alloc ?_ _ | with_reducible refine bel_drew ?_ | with_reducible refine bel_drewN ?_ _ | with_reducible refine bel_set ?_ (by (try simp) <;> omega) _ | with_reducible refine bel_trans ?_ (by assumption))) (Nat.le_refl _)).mono (by simp)) hn).mono ?_
    rintro e w1 ⟨rfl, hb1⟩
    have hs1 := hb1.size
    simp at hs1
    go_wp2_with fail
    go_at_call 113
    refine (spec_l02Box l _ _ _ (((h.below (w' := w.alloc _) (by repeat (first | with_reducible exact Below.refl _ _ | with_reducible assumption | with_reducible refine bel_alloc ?_ _ | with_reducible refine bel_drew ?_ | with_reducible refine bel_drewN ?_ _ | with_reducible refine bel_set ?_ (by (try simp) <;> omega) _ | with_reducible refine bel_trans ?_ (by assumption))) (Nat.le_refl _)).mono (by simp)).kept hb1) hn HL.out).mono ?_
    rintro e w2 ⟨rfl, hb2⟩
    have hs2 := hb2.size
    have hb12 := bel_trans hb1 hb2
    obtain ⟨_, _, hc, hf⟩ := bcellI hb12
    have hbl : Below w.heap.size w w2 := ((Below.refl w.heap.size w).alloc (Nat.le_refl _) _).trans (hb12.mono (by simp))
    clear hb12 hb1 hb2
    simp only [World.size_alloc] at hc hf
    unfold rcA
    go_wp2_with fail
    refine bodyPost_ret (v := .tuple #[rcA (rbR true l), .bool true]) (by simp [results, Try.results59, go_sem, rcA, rbR, *]) rfl ⟨rfl, (by repeat (first | with_reducible exact Below.refl _ _ | with_reducible assumption | with_reducible refine bel_alloc ?_ _ | with_reducible refine bel_drew ?_ | with_reducible refine bel_drewN ?_ _ | with_reducible refine bel_set ?_ (by (try simp) <;> omega) _ | with_reducible refine bel_trans ?_ (by assumption)))⟩
end Go.Proofs.Ytldgjocjcbhkmaa
