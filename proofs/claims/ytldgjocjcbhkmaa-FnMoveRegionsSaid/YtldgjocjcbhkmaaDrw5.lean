/- Contracts: drawn transforms. -/
import Derived.Test.YtldgjocjcbhkmaaDrw4
namespace Go.Proofs.Ytldgjocjcbhkmaa
open Go.RowKit
attribute [local go_sem high] run_max2 run_min2
attribute [local go_sem low] cell_alloc_ite frozen_alloc_ite

theorem row_far {w1 w2 : World} {b g t n : Nat} {f : Nat → Value} (hr : w1.rowIs b t n f) (hg : w1.grownBy w2 (some g)) (hn : b ≠ g) : w2.rowIs b t n f := hr.of_block (hg.block _ hr.lt (by simpa using hn))
set_option maxRecDepth 100000 in
set_option maxHeartbeats 3200000 in
theorem spec_l01DrawTransform (B g : Nat) (w : World) (h : IsSrc B w g) : Calls Try.prog 115 #[.pointer (some ⟨g, 0, none⟩)] w
    fun e w' => ∃ o x y : Int, e = .returned (.agg #[.int .i64 o, .int .i64 x, .int .i64 y]) ∧ Drawn B g w w' := by
  have hd0 := (Drawn.refl h).alloc (.cells #[.int .i64 0, .int .i64 0, .int .i64 0] 54)
  have hlt := h.lt
  have hne : w.heap.size ≠ g := by omega
  have hr0 : (w.alloc (.cells #[.int .i64 0, .int .i64 0, .int .i64 0] 54)).rowIs w.heap.size 54 3 (fun _ => .int .i64 0) := World.rowIs_alloc w #[.int .i64 0, .int .i64 0, .int .i64 0] 54 _ fun i hi => by
    have : i = 0 ∨ i = 1 ∨ i = 2 := by simp at hi; omega
    rcases this with rfl | rfl | rfl <;> rfl
  go_enter Try.func115, Try.ntmps115
  go_wp2_with fail
  go_at_call 81
  refine (draw_next (by omega) hd0).mono ?_
  rintro e w1 ⟨v1, rfl, a1, b1, hd1, hg1⟩
  have hr1 := row_far hr0 hg1 hne
  clear hr0 hg1
  go_wp2_with fail
  go_at_call 81
  refine (draw_next (by omega) hd1).mono ?_
  rintro e w2 ⟨v2, rfl, a2, b2, hd2, hg2⟩
  have hr2 := row_far hr1 hg2 hne
  clear hr1 hg2
  go_wp2_with fail
  go_at_call 81
  refine (draw_next (by omega) hd2).mono ?_
  rintro e w3 ⟨v3, rfl, a3, b3, hd3, hg3⟩
  have hr3 := row_far hr2 hg3 hne
  clear hr2 hg3
  have hw3 := hd3.2.size
  have hd3a := hd3.alloc (.cells #[.int .i64 v1, .int .i64 (v2 - 12), .int .i64 (v3 - 12)] 54)
  have hr3a := hr3.alloc (.cells #[.int .i64 v1, .int .i64 (v2 - 12), .int .i64 (v3 - 12)] 54)
  have ht3 : (w3.alloc (.cells #[.int .i64 v1, .int .i64 (v2 - 12), .int .i64 (v3 - 12)] 54)).rowIs w3.heap.size 54 3 (fun i => if i = 0 then .int .i64 v1 else if i = 1 then .int .i64 (v2 - 12) else .int .i64 (v3 - 12)) := World.rowIs_alloc w3 #[.int .i64 v1, .int .i64 (v2 - 12), .int .i64 (v3 - 12)] 54 _ fun i hi => by
    have : i = 0 ∨ i = 1 ∨ i = 2 := by simp at hi; omega
    rcases this with rfl | rfl | rfl <;> rfl
  have hne3 : w3.heap.size ≠ g := by omega
  go_wp2_with fail
  go_at_call 81
  refine (draw_next (by omega) hd3a).mono ?_
  rintro e w4 ⟨v4, rfl, a4, b4, hd4, hg4⟩
  have hr4 := row_far hr3a hg4 hne
  have ht4 := row_far ht3 hg4 hne3
  clear hr3a ht3 hg4
  have c0 := ht4.cell (i := 0) (by omega)
  have c1 := ht4.cell (i := 1) (by omega)
  have c2 := ht4.cell (i := 2) (by omega)
  have d0 := hr4.cell (i := 0) (by omega)
  have d1 := hr4.cell (i := 1) (by omega)
  have d2 := hr4.cell (i := 2) (by omega)
  have e0 := hr4.frozen 0
  have e1 := hr4.frozen 1
  have e2 := hr4.frozen 2
  have HD4 := hide (And.intro hr4 ht4)
  clear hr4 ht4
  simp only [if_true, if_false, reduceCtorEq, Nat.one_ne_zero, Nat.reduceEqDiff] at c0 c1 c2
  by_cases z4 : v4 = 0
  · subst z4
    clear c0 c1 c2 d0 d1 d2 e0 e1 e2
    go_wp2_with fail
    go_at_call 81
    refine (draw_next (by omega) hd4).mono ?_
    rintro e w5 ⟨v5, rfl, a5, b5, hd5, hg5⟩
    have hr5 := row_far HD4.out.1 hg5 hne
    have ht5 := row_far HD4.out.2 hg5 hne3
    have c0 := ht5.cell (i := 0) (by omega)
    have c1 := ht5.cell (i := 1) (by omega)
    have c2 := ht5.cell (i := 2) (by omega)
    have f1 := ht5.frozen 1
    have d0 := hr5.cell (i := 0) (by omega)
    have d1 := hr5.cell (i := 1) (by omega)
    have d2 := hr5.cell (i := 2) (by omega)
    have e0 := hr5.frozen 0
    have e1 := hr5.frozen 1
    have e2 := hr5.frozen 2
    simp only [if_true, if_false, reduceCtorEq, Nat.one_ne_zero, Nat.reduceEqDiff] at c0 c1 c2
    have hnn : w.heap.size ≠ w3.heap.size := by have := HD4.out.1.lt; have := hr3.lt; omega
    clear hr5 ht5
    go_wp2_with fail
    refine bodyPost_ret (v := .agg #[.int .i64 (v1), .int .i64 (v5 - 80 - 1), .int .i64 (v3 - 12)]) (by first | (simp [results, Try.results115, go_sem, *]; done) | simp [results, Try.results115, go_sem, *, ↓IntWalk.iteOmega]) rfl ⟨_, _, _, rfl, ?_⟩
    repeat (refine Drawn.set h ?_ (by omega) _ _)
    exact hd5
  · go_wp2_with fail
    refine bodyPost_ret (v := .agg #[.int .i64 (v1), .int .i64 (v2 - 12), .int .i64 (v3 - 12)]) (by first | (simp [results, Try.results115, go_sem, *]; done) | simp [results, Try.results115, go_sem, *, ↓IntWalk.iteOmega]) rfl ⟨_, _, _, rfl, ?_⟩
    repeat (refine Drawn.set h ?_ (by omega) _ _)
    exact hd4
structure DrwS (B g : Nat) (w w' : World) : Prop where
  out : Drawn B g w w'
theorem src_of {B g : Nat} {w w' : World} (h : DrwS B g w w') : IsSrc B w' g := h.out.1
theorem DrwS.trans {B g : Nat} {a b c : World} (h : DrwS B g a b) (k : Drawn B g b c) : DrwS B g a c := ⟨h.out.trans k⟩
theorem DrwS.drew {B g : Nat} {a b : World} (h : DrwS B g a b) : DrwS B g a b.drew := ⟨h.out.drew⟩
theorem far_block {w1 w2 : World} {b g j : Nat} (hg : w1.grownBy w2 (some g)) (hn : b ≠ g) (h : (w1.cell? ⟨b, j, none⟩).isSome = true) : w2.heap[b]? = w1.heap[b]? := by
  obtain ⟨v, hv⟩ := Option.isSome_iff_exists.1 h
  exact hg.block b (World.block_lt_of_cell? _ _ hv) (by simpa using hn)
theorem far_some {w1 w2 : World} {b g j : Nat} (hg : w1.grownBy w2 (some g)) (hn : b ≠ g) (h : (w1.cell? ⟨b, j, none⟩).isSome = true) : (w2.cell? ⟨b, j, none⟩).isSome = true := by
  rw [World.cell?_of_block (w := w1) (far_block hg hn h)]; exact h
theorem far_frozen {w1 w2 : World} {b g j : Nat} (hg : w1.grownBy w2 (some g)) (hn : b ≠ g) (h : (w1.cell? ⟨b, j, none⟩).isSome = true) (hf : w1.frozen? ⟨b, j, none⟩ = false) : w2.frozen? ⟨b, j, none⟩ = false := by
  rw [World.frozen?_of_block (w := w1) (far_block hg hn h)]; exact hf
theorem set_far {w : World} {b b' j j' : Nat} {v u : Value} (hn : b ≠ b') (h : w.cell? ⟨b, j, none⟩ = some v) : (w.setCell ⟨b', j', none⟩ u).cell? ⟨b, j, none⟩ = some v :=
  (World.cell?_of_block (w := w) (Below.heap_setCell w ⟨b', j', none⟩ u b hn)).trans h
/-- A drawn transform and a drawn list. -/
def RetDT (w : World) (e : Ending) (w' : World) : Prop := ∃ (o x y : Int) (la : List Rc) (a : Option Addr) (ca : Nat), e = .returned (.tuple #[.agg #[.int .i64 o, .int .i64 x, .int .i64 y], .slice a la.length ca]) ∧
  RectsAt w'.heap.size w' a la ∧ la.length ≤ 2000000 ∧ Below w.heap.size w w'
set_option maxRecDepth 100000 in
set_option maxHeartbeats 3200000 in
theorem spec_DrawMoveRegion (n cap : Nat) (a : Option Addr) (w : World) (h : InBytes w.heap.size w a n) (hn : n ≤ 5000) : Calls Try.prog 61 #[.slice a n cap] w (RetDT w) := by
  have hr0 : (w.alloc (.cells #[.int .i64 0, .int .i64 0, .int .i64 0] 54)).rowIs w.heap.size 54 3 (fun _ => .int .i64 0) := World.rowIs_alloc w #[.int .i64 0, .int .i64 0, .int .i64 0] 54 _ fun i hi => by
    have : i = 0 ∨ i = 1 ∨ i = 2 := by simp at hi; omega
    rcases this with rfl | rfl | rfl <;> rfl
  have hb0 := bel_alloc (Below.refl w.heap.size w) (.cells #[.int .i64 0, .int .i64 0, .int .i64 0] 54)
  have h0 := bytes_at h hb0
  go_enter Try.func61, Try.ntmps61
  go_wp2_with fail
  generalize (w.alloc (.cells #[.int .i64 0, .int .i64 0, .int .i64 0] 54)) = w0 at *
  go_at_call 80
  refine (spec_l01From n cap a w0 h0 hn).mono ?_
  rintro e w1 ⟨g, rfl, hs, hb1⟩
  have hlo := hs.lo
  have hlt := hs.lt
  have hlt0 := hr0.lt
  have hw1 := hb1.size
  have hr1 := rowIs_kept hr0 hb1
  have hne : w.heap.size ≠ g := by omega
  go_wp2_with fail
  go_at_call 115
  refine (spec_l01DrawTransform w0.heap.size g w1 hs).mono ?_
  rintro e w2 ⟨o, x, y, rfl, hd2⟩
  have hr2 := row_far hr1 hd2.2 hne
  have hw2 := hd2.2.size
  have hd3 := hd2.alloc (.cells #[.int .i64 o, .int .i64 x, .int .i64 y] 54)
  have hr3 := hr2.alloc (.cells #[.int .i64 o, .int .i64 x, .int .i64 y] 54)
  have c0 : (w2.alloc (.cells #[.int .i64 o, .int .i64 x, .int .i64 y] 54)).cell? ⟨w2.heap.size, 0, none⟩ = some (.int .i64 o) := by simp [go_sem]
  have c1 : (w2.alloc (.cells #[.int .i64 o, .int .i64 x, .int .i64 y] 54)).cell? ⟨w2.heap.size, 1, none⟩ = some (.int .i64 x) := by simp [go_sem]
  have c2 : (w2.alloc (.cells #[.int .i64 o, .int .i64 x, .int .i64 y] 54)).cell? ⟨w2.heap.size, 2, none⟩ = some (.int .i64 y) := by simp [go_sem]
  have e0 := hr3.frozen 0
  have e1 := hr3.frozen 1
  have e2 := hr3.frozen 2
  have i0 : ((w2.alloc (.cells #[.int .i64 o, .int .i64 x, .int .i64 y] 54)).cell? ⟨w.heap.size, 0, none⟩).isSome = true := by rw [hr3.cell (by omega)]; rfl
  have i1 : ((w2.alloc (.cells #[.int .i64 o, .int .i64 x, .int .i64 y] 54)).cell? ⟨w.heap.size, 1, none⟩).isSome = true := by rw [hr3.cell (by omega)]; rfl
  have i2 : ((w2.alloc (.cells #[.int .i64 o, .int .i64 x, .int .i64 y] 54)).cell? ⟨w.heap.size, 2, none⟩).isSome = true := by rw [hr3.cell (by omega)]; rfl
  have hne5 : w2.heap.size ≠ g := by omega
  have hds : DrwS w0.heap.size g w1 _ := ⟨hd3⟩
  have hbel : Below w.heap.size w (w2.alloc (.cells #[.int .i64 o, .int .i64 x, .int .i64 y] 54)) := below_src (hb0.trans (hb1.mono hb0.size)) (by omega) hd3.2 (by omega)
  have hnn : w2.heap.size ≠ w.heap.size := by omega
  have hsrc := hd3.1
  have hwg : w.heap.size ≤ g := by omega
  clear hr0 hr1 hr2 hr3
  go_wp2_with fail
  go_region_held3 (fun w' => w'.cell? ⟨w2.heap.size, 0, none⟩ = some (.int .i64 o) ∧ w'.cell? ⟨w2.heap.size, 1, none⟩ = some (.int .i64 x) ∧ w'.cell? ⟨w2.heap.size, 2, none⟩ = some (.int .i64 y) ∧ Below w.heap.size w w')
    ((first | (go_split_ands; ((repeat' apply And.intro) <;> first | assumption | exact grown_cell hg hne5 (by assumption) | exact below_src (by assumption) (by have := Below.size (by assumption); omega) hg hwg | exact set_far hnn (set_far hnn (set_far hnn (by assumption))) | exact (by repeat (first | with_reducible exact Below.refl _ _ | with_reducible assumption | with_reducible refine bel_alloc ?_ _ | with_reducible refine bel_drew ?_ | with_reducible refine bel_drewN ?_ _ | with_reducible refine bel_set ?_ (by (try simp) <;> omega) _ | with_reducible refine bel_trans ?_ (by assumption))))) | ((repeat' apply And.intro) <;> first | (simp [go_sem, *]; done) | exact (by repeat (first | with_reducible exact Below.refl _ _ | with_reducible assumption | with_reducible refine bel_alloc ?_ _ | with_reducible refine bel_drew ?_ | with_reducible refine bel_drewN ?_ _ | with_reducible refine bel_set ?_ (by (try simp) <;> omega) _ | with_reducible refine bel_trans ?_ (by assumption))))))
    ((first
      | (go_at_call 92; refine (spec_l03DrawRegion w0.heap.size g _ (hsrc.kept (by repeat (first | with_reducible exact Below.refl _ _ | with_reducible assumption | with_reducible refine bel_alloc ?_ _ | with_reducible refine bel_drew ?_ | with_reducible refine bel_drewN ?_ _ | with_reducible refine bel_set ?_ (by (try simp) <;> omega) _ | with_reducible refine bel_trans ?_ (by assumption))))).mono ?_; rintro e wA ⟨l1, a1, c1, rfl, ho1, hl1, hok1, hdA⟩; have hg := hdA.2; have hsA := hdA.1; have iA0 := far_some (j := 0) hg hne i0; have iA1 := far_some (j := 1) hg hne i1; have iA2 := far_some (j := 2) hg hne i2; have fA0 := far_frozen hg hne i0 e0; have fA1 := far_frozen hg hne i1 e1; have fA2 := far_frozen hg hne i2 e2; have hgA := hg)
      | (go_at_call 91; refine (spoil_any (n := 12) (by omega) (hsA.kept (by repeat (first | with_reducible exact Below.refl _ _ | with_reducible assumption | with_reducible refine bel_alloc ?_ _ | with_reducible refine bel_drew ?_ | with_reducible refine bel_drewN ?_ _ | with_reducible refine bel_set ?_ (by (try simp) <;> omega) _ | with_reducible refine bel_trans ?_ (by assumption)))) (own_next ho1 (by repeat (first | with_reducible exact Below.refl _ _ | with_reducible assumption | with_reducible refine bel_alloc ?_ _ | with_reducible refine bel_drew ?_ | with_reducible refine bel_drewN ?_ _ | with_reducible refine bel_set ?_ (by (try simp) <;> omega) _ | with_reducible refine bel_trans ?_ (by assumption)))) (by first | omega | (simp; omega)) (by first | omega | (simp; omega)) hl1 hok1).mono ?_; rintro e wB ⟨m1, b1, d1, rfl, hp1, hf1, hm1, hdA⟩; have hg := hdA.2; obtain ⟨z0, hz0⟩ := Option.isSome_iff_exists.1 (far_some (j := 0) hg hne iA0); obtain ⟨z1, hz1⟩ := Option.isSome_iff_exists.1 (far_some (j := 1) hg hne iA1); obtain ⟨z2, hz2⟩ := Option.isSome_iff_exists.1 (far_some (j := 2) hg hne iA2); have fB0 := far_frozen hg hne iA0 fA0; have fB1 := far_frozen hg hne iA1 fA1; have fB2 := far_frozen hg hne iA2 fA2)))
  all_goals
    have hq := own_far hp1 hlt0
    have hbA := below_src (bel_drew hbel) (bel_drew hbel).size hgA hwg
    have hbB := below_src hbA hbA.size hg hwg
    have hp2 := own_marked hp1 (grown_set wB w.heap.size 0 (.int .i64 o)) hq
    have hp3 := own_marked hp2 (grown_set _ w.heap.size 1 (.int .i64 x)) hq
    have hp4 := own_marked hp3 (grown_set _ w.heap.size 2 (.int .i64 y)) hq
    go_wp2_with fail
    refine bodyPost_ret (v := .tuple #[.agg #[.int .i64 (o), .int .i64 (x), .int .i64 (y)], .slice b1 m1.length d1]) (by first | (simp [results, Try.results61, go_sem, *]; done) | simp [results, Try.results61, go_sem, *, ↓IntWalk.iteOmega]) rfl ⟨o, x, y, m1, b1, d1, rfl, rects_at hp4, by omega, (by repeat (first | with_reducible exact Below.refl _ _ | with_reducible assumption | with_reducible refine bel_alloc ?_ _ | with_reducible refine bel_drew ?_ | with_reducible refine bel_drewN ?_ _ | with_reducible refine bel_set ?_ (by (try simp) <;> omega) _ | with_reducible refine bel_trans ?_ (by assumption)))⟩
end Go.Proofs.Ytldgjocjcbhkmaa
