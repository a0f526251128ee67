/- Contracts: the bounding box of a list. -/
import Derived.Test.YtldgjocjcbhkmaaRegB
namespace Go.Proofs.Ytldgjocjcbhkmaa
open Go.RowKit
attribute [local go_sem high] run_max2 run_min2
attribute [local go_sem low] cell_alloc_ite frozen_alloc_ite

def bbB (l : List Rc) : Bool := decide (0 < l.length) && validL l
set_option maxRecDepth 100000 in
set_option maxHeartbeats 1600000 in
theorem impl_BoundingBox (l : List Rc) (a : Option Addr) (cap : Nat) (w : World) (h : RectsAt w.heap.size w a l) (hn : l.length ≤ 2000000) : Calls Try.prog 67 #[.slice a l.length cap] w fun e w' => e = .returned (.tuple #[rcA (rbR (bbB l) l), .bool (bbB l)]) ∧ Below w.heap.size w w' := by
  by_cases hl : l = []
  · subst hl
    have hb : bbB [] = false := by simp [bbB]
    rw [hb]
    clear hb
    go_enter Try.func67, Try.ntmps67
    go_wp2_with fail
    refine bodyPost_ret (v := .tuple #[rcA (rbR false []), .bool false]) (by simp [results, Try.results67, go_sem, rcA, rbR, *]) rfl ⟨rfl, (by repeat (first | with_reducible exact Below.refl _ _ | with_reducible assumption | with_reducible refine bel_alloc ?_ _ | with_reducible refine bel_drew ?_ | with_reducible refine bel_drewN ?_ _ | with_reducible refine bel_set ?_ (by (try simp) <;> omega) _ | with_reducible refine bel_trans ?_ (by assumption)))⟩
  have hl2 : ((l.length : Int) == 0) = false := by simp; exact hl
  have hlp : 0 < l.length := List.length_pos_iff.2 hl
  have HL := hide hlp
  cases hv : validL l
  · have hb : bbB l = false := by simp [bbB, hv]
    rw [hb]
    have HV := hide hv
    clear hb hv hl hlp
    go_enter Try.func67, Try.ntmps67
    go_wp2_with (go_at_call 87; refine (impl_validRects l _ _ _ ((h.below (w' := w.alloc _) (by repeat (first | with_reducible exact Below.refl _ _ | with_reducible assumption | with_reducible refine bel_alloc ?_ _ | with_reducible refine bel_drew ?_ | with_reducible refine bel_drewN ?_ _ | with_reducible refine bel_set ?_ (by (try simp) <;> omega) _ | with_reducible refine bel_trans ?_ (by assumption))) (Nat.le_refl _)).mono (by simp)) hn).mono ?_; rintro e w1 ⟨he, hb⟩; rw [HV.out] at he; subst he; obtain ⟨_, _, hc, hf⟩ := bcellI hb; have hs := hb.size; (try simp at hs))
    refine bodyPost_ret (v := .tuple #[rcA (rbR false l), .bool false]) (by simp [results, Try.results67, go_sem, rcA, rbR, *]) rfl ⟨rfl, (by repeat (first | with_reducible exact Below.refl _ _ | with_reducible assumption | with_reducible refine bel_alloc ?_ _ | with_reducible refine bel_drew ?_ | with_reducible refine bel_drewN ?_ _ | with_reducible refine bel_set ?_ (by (try simp) <;> omega) _ | with_reducible refine bel_trans ?_ (by assumption)))⟩
  · have hb : bbB l = true := by simp [bbB, hv, hlp]
    rw [hb]
    have HV := hide hv
    clear hb hv hl hlp
    go_enter Try.func67, Try.ntmps67
    go_wp2_with fail
    go_at_call 87
    refine (impl_validRects l _ _ _ ((h.below (w' := w.alloc _) (by repeat (first | with_reducible exact Below.refl _ _ | with_reducible assumption | with_reducible refine bel_alloc ?_ _ | with_reducible refine bel_drew ?_ | with_reducible refine bel_drewN ?_ _ | with_reducible refine bel_set ?_ (by (try simp) <;> omega) _ | with_reducible refine bel_trans ?_ (by assumption))) (Nat.le_refl _)).mono (by simp)) hn).mono ?_
    rintro e w1 ⟨he, hb1⟩
    rw [HV.out] at he
    subst he
    have hs1 := hb1.size
    simp at hs1
    go_wp2_with fail
    go_at_call 124
    refine (impl_boxOf l _ _ _ (((h.below (w' := w.alloc _) (by repeat (first | with_reducible exact Below.refl _ _ | with_reducible assumption | with_reducible refine bel_alloc ?_ _ | with_reducible refine bel_drew ?_ | with_reducible refine bel_drewN ?_ _ | with_reducible refine bel_set ?_ (by (try simp) <;> omega) _ | with_reducible refine bel_trans ?_ (by assumption))) (Nat.le_refl _)).mono (by simp)).kept hb1) hn HL.out).mono ?_
    rintro e w2 ⟨rfl, hb2⟩
    have hs2 := hb2.size
    have hb12 := bel_trans hb1 hb2
    obtain ⟨_, _, hc, hf⟩ := bcellI hb12
    have hbl : Below w.heap.size w w2 := ((Below.refl w.heap.size w).alloc (Nat.le_refl _) _).trans (hb12.mono (by simp))
    clear hb12 hb1 hb2
    simp only [World.size_alloc] at hc hf
    unfold rcA
    go_wp2_with fail
    refine bodyPost_ret (v := .tuple #[rcA (rbR true l), .bool true]) (by simp [results, Try.results67, go_sem, rcA, rbR, *]) rfl ⟨rfl, (by repeat (first | with_reducible exact Below.refl _ _ | with_reducible assumption | with_reducible refine bel_alloc ?_ _ | with_reducible refine bel_drew ?_ | with_reducible refine bel_drewN ?_ _ | with_reducible refine bel_set ?_ (by (try simp) <;> omega) _ | with_reducible refine bel_trans ?_ (by assumption)))⟩
set_option maxRecDepth 100000 in
set_option maxHeartbeats 1600000 in
theorem spec_BoundingBox (l : List Rc) (a : Option Addr) (cap : Nat) (w : World) (h : RectsAt w.heap.size w a l) (hn : l.length ≤ 2000000) : Calls Try.prog 65 #[.slice a l.length cap] w fun e w' => e = .returned (.tuple #[rcA (rbR (bbB l) l), .bool (bbB l)]) ∧ Below w.heap.size w w' := by
  by_cases hl : l = []
  · subst hl
    have hb : bbB [] = false := by simp [bbB]
    rw [hb]
    clear hb
    go_enter Try.func65, Try.ntmps65
    go_wp2_with fail
    refine bodyPost_ret (v := .tuple #[rcA (rbR false []), .bool false]) (by simp [results, Try.results65, go_sem, rcA, rbR, *]) rfl ⟨rfl, (by repeat (first | with_reducible exact Below.refl _ _ | with_reducible assumption | with_reducible refine bel_alloc ?_ _ | with_reducible refine bel_drew ?_ | with_reducible refine bel_drewN ?_ _ | with_reducible refine bel_set ?_ (by (try simp) <;> omega) _ | with_reducible refine bel_trans ?_ (by assumption)))⟩
  have hl2 : ((l.length : Int) == 0) = false := by simp; exact hl
  have hlp : 0 < l.length := List.length_pos_iff.2 hl
  have HL := hide hlp
  clear hl
  by_cases h32 : (l.length : Int) > 3200
  · have hb : bbB l = false := by
      have : ¬ l.length ≤ 3200 := by omega
      simp [bbB, validL, this]
    rw [hb]
    clear hb hlp
    go_enter Try.func65, Try.ntmps65
    go_wp2_with fail
    refine bodyPost_ret (v := .tuple #[rcA (rbR false l), .bool false]) (by simp [results, Try.results65, go_sem, rcA, rbR, *]) rfl ⟨rfl, (by repeat (first | with_reducible exact Below.refl _ _ | with_reducible assumption | with_reducible refine bel_alloc ?_ _ | with_reducible refine bel_drew ?_ | with_reducible refine bel_drewN ?_ _ | with_reducible refine bel_set ?_ (by (try simp) <;> omega) _ | with_reducible refine bel_trans ?_ (by assumption)))⟩
  have hw0 : RectsAt (w.alloc (.cells #[.int .i64 0, .int .i64 0, .int .i64 0, .int .i64 0] 39)).heap.size (w.alloc (.cells #[.int .i64 0, .int .i64 0, .int .i64 0, .int .i64 0] 39)) a l := h.kept (bel_alloc (Below.refl _ _) _)
  have hb0 : Below w.heap.size w (w.alloc (.cells #[.int .i64 0, .int .i64 0, .int .i64 0, .int .i64 0] 39)) := bel_alloc (Below.refl _ _) _
  have hrc : (w.alloc (.cells #[.int .i64 0, .int .i64 0, .int .i64 0, .int .i64 0] 39)).rowIs w.heap.size 39 4 (fun _ => .int .i64 0) := World.rowIs_alloc w #[.int .i64 0, .int .i64 0, .int .i64 0, .int .i64 0] 39 _ fun i hi => by
    have : i = 0 ∨ i = 1 ∨ i = 2 ∨ i = 3 := by simp at hi; omega
    rcases this with rfl | rfl | rfl | rfl <;> rfl
  clear hlp h
  go_enter Try.func65, Try.ntmps65
  go_wp2_with fail
  generalize (w.alloc (.cells #[.int .i64 0, .int .i64 0, .int .i64 0, .int .i64 0] 39)) = wb at *
  go_loopw [4] (fun sk wr => ∃ i : Nat, i ≤ l.length ∧ sk = .int .i64 i ∧ Hid ((l.take i).all Rc.ok = true) ∧ Below wb.heap.size wb wr) (fun k _ => l.length - (intOf k).toNat)
  case atStart => exact ⟨0, Nat.zero_le _, rfl, rfl, Below.refl _ _⟩
  case round =>
    obtain ⟨i, hi, rfl, HA, hbl⟩ := hrel
    have hrow := rowIs_kept hrc hbl
    have r0 := hrow.cell (i := 0) (by omega)
    have r1 := hrow.cell (i := 1) (by omega)
    have r2 := hrow.cell (i := 2) (by omega)
    have r3 := hrow.cell (i := 3) (by omega)
    have q0 := hrow.frozen 0
    have q1 := hrow.frozen 1
    have q2 := hrow.frozen 2
    have q3 := hrow.frozen 3
    have hbw : Below w.heap.size w _ := bel_trans hb0 hbl
    have hsz := hbw.size
    by_cases hy : i < l.length
    · obtain ⟨g, ha, hg, c0, c1, c2, c3⟩ := hw0.below hbl (Nat.le_refl _) i l[i] (List.getElem?_eq_getElem hy)
      subst ha
      have hx1 : (i : Int) < (l.length : Int) := by omega
      by_cases hr : l[i].ok = true
      · have hv : vRect l[i].x0 l[i].y0 l[i].x1 l[i].y1 = true := hr
        have HR := hide hr
        clear hr
        go_wp2_with (go_at_call 122; refine (spec_IsValidRect _ _ _ _ _).mono ?_; rintro e w1 ⟨rfl, hb1⟩)
        go_roundw
        case rel => exact ⟨i + 1, hy, by go_num, by rw [Hid, all_take hy, HA.out, HR.out]; rfl, bel_trans hbl hb1⟩
        case measure => simp [intOf]; omega
      · have hv : vRect l[i].x0 l[i].y0 l[i].x1 l[i].y1 = false := by simpa [Rc.ok] using hr
        have hb : bbB l = false := by rw [bbB, validL, not_all hy hr]; simp
        have HB := hide hb
        clear hr hb
        go_wp2_with (go_at_call 122; refine (spec_IsValidRect _ _ _ _ _).mono ?_; rintro e w1 ⟨rfl, hb1⟩; have hrow1 := rowIs_kept hrow hb1; have p0 := hrow1.cell (i := 0) (by omega); have p1 := hrow1.cell (i := 1) (by omega); have p2 := hrow1.cell (i := 2) (by omega); have p3 := hrow1.cell (i := 3) (by omega); have s0 := hrow1.frozen 0; have s1 := hrow1.frozen 1; have s2 := hrow1.frozen 2; have s3 := hrow1.frozen 3)
        rw [HB.out]
        have hbw1 := bel_trans hbw hb1
        refine bodyPost_ret (v := .tuple #[rcA (rbR false l), .bool false]) (by simp [results, Try.results65, go_sem, rcA, rbR, *]) rfl ⟨rfl, (by repeat (first | with_reducible exact Below.refl _ _ | with_reducible assumption | with_reducible refine bel_alloc ?_ _ | with_reducible refine bel_drew ?_ | with_reducible refine bel_drewN ?_ _ | with_reducible refine bel_set ?_ (by (try simp) <;> omega) _ | with_reducible refine bel_trans ?_ (by assumption)))⟩
    · obtain rfl : i = l.length := by omega
      have hx1 : ¬ (l.length : Int) < (l.length : Int) := by omega
      have hb : bbB l = true := by
        have h1 := HA.out
        rw [List.take_length] at h1
        have h2 : l.length ≤ 3200 := by omega
        simp [bbB, validL, h1, h2, HL.out]
      have HB := hide hb
      clear hb HA
      go_wp2_with fail
      go_at_call 113
      refine (spec_l02Box l _ _ _ (hw0.kept hbl) hn HL.out).mono ?_
      rintro e w2 ⟨rfl, hb2⟩
      have hrow1 := rowIs_kept hrow hb2
      have p0 := hrow1.cell (i := 0) (by omega)
      have p1 := hrow1.cell (i := 1) (by omega)
      have p2 := hrow1.cell (i := 2) (by omega)
      have p3 := hrow1.cell (i := 3) (by omega)
      have s0 := hrow1.frozen 0
      have s1 := hrow1.frozen 1
      have s2 := hrow1.frozen 2
      have s3 := hrow1.frozen 3
      have hbw1 := bel_trans hbw hb2
      have hsz1 := hbw1.size
      clear r0 r1 r2 r3 q0 q1 q2 q3
      unfold rcA
      go_wp2_with fail
      rw [HB.out]
      refine bodyPost_ret (v := .tuple #[rcA (rbR true l), .bool true]) (by simp [results, Try.results65, go_sem, rcA, rbR, *]) rfl ⟨rfl, (by repeat (first | with_reducible exact Below.refl _ _ | with_reducible assumption | with_reducible refine bel_alloc ?_ _ | with_reducible refine bel_drew ?_ | with_reducible refine bel_drewN ?_ _ | with_reducible refine bel_set ?_ (by (try simp) <;> omega) _ | with_reducible refine bel_trans ?_ (by assumption)))⟩
end Go.Proofs.Ytldgjocjcbhkmaa
