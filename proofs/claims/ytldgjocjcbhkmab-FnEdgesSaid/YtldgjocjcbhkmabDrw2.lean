/- Contracts: drawn rectangles and regions. -/
import Derived.Test.YtldgjocjcbhkmabDrw
import Derived.Deep.RegionHeld3
namespace Go.Proofs.Ytldgjocjcbhkmab
open Go.RowKit
attribute [local go_sem high] run_max2 run_min2
attribute [local go_sem low] cell_alloc_ite frozen_alloc_ite

/-- What a draw from a source leaves: the source goes on, nothing else has turned. -/
def Drawn (B g : Nat) (w w' : World) : Prop := IsSrc B w' g ∧ w.grownBy w' (some g)
theorem Drawn.trans {B g : Nat} {a b c : World} (h : Drawn B g a b) (k : Drawn B g b c) : Drawn B g a c := ⟨k.1, h.2.trans k.2⟩
theorem Drawn.refl {B g : Nat} {w : World} (h : IsSrc B w g) : Drawn B g w w := ⟨h, grown_of_below (Below.refl _ _) _⟩
theorem Drawn.more {B g : Nat} {a b c : World} (h : Drawn B g a b) (k : Below b.heap.size b c) : Drawn B g a c := ⟨h.1.kept k, h.2.trans (grown_of_below k _)⟩
theorem Drawn.alloc {B g : Nat} {a b : World} (h : Drawn B g a b) (o : Obj) : Drawn B g a (b.alloc o) := h.more (bel_alloc (Below.refl _ _) _)
theorem Drawn.drew {B g : Nat} {a b : World} (h : Drawn B g a b) : Drawn B g a b.drew := h.more (bel_drew (Below.refl _ _))
theorem Drawn.below {B g : Nat} {w0 w w' : World} (h : Drawn B g w w') (hb : Below B w0 w) (hB : B ≤ w.heap.size) : Below B w0 w' := below_src hb hB h.2 h.1.lo
theorem Drawn.set {B g b : Nat} {w w' : World} (h0 : IsSrc B w g) (h : Drawn B g w w') (hb : w.heap.size ≤ b) (j : Nat) (u : Value) : Drawn B g w (w'.setCell ⟨b, j, none⟩ u) := by
  obtain ⟨⟨ca, n, cc, q, seed, hs⟩, hg⟩ := h
  have hlt := h0.lt
  have hlo := h0.lo
  have hBb : B ≤ b := by omega
  have hbel : Below B w' (w'.setCell ⟨b, j, none⟩ u) := (Below.refl _ _).setCell hBb u
  refine ⟨⟨ca, n, cc, q, seed, hs.lo, hs.row.setOther (by simp; omega) u, hs.len, hs.at1, hs.s0, hs.s1, hs.bytes.below hbel (Nat.le_refl _)⟩, hg.os, hg.tape, hg.output, by have := hg.size; simpa [World.setCell] using this, fun k hk hne => ?_⟩
  rw [Below.heap_setCell _ _ _ _ (by simp; omega)]
  exact hg.block k hk hne
theorem grown_cell {g b j : Nat} {w w' : World} {v : Value} (hg : w.grownBy w' (some g)) (hne : b ≠ g) (h : w.cell? ⟨b, j, none⟩ = some v) : w'.cell? ⟨b, j, none⟩ = some v := hg.cell h (by simpa using hne)
theorem grown_frozen {g b j : Nat} {w w' : World} {v : Value} (hg : w.grownBy w' (some g)) (hne : b ≠ g) (h : w.cell? ⟨b, j, none⟩ = some v) (hf : w.frozen? ⟨b, j, none⟩ = false) : w'.frozen? ⟨b, j, none⟩ = false :=
  (World.frozen?_of_block (hg.block b (World.block_lt_of_cell? _ _ h) (by simpa using hne))).trans hf
/-- Four cells of block b, to be written. -/
structure Cells4 (w : World) (b : Nat) (x0 x1 x2 x3 : Value) : Prop where
  c0 : w.cell? ⟨b, 0, none⟩ = some x0
  c1 : w.cell? ⟨b, 1, none⟩ = some x1
  c2 : w.cell? ⟨b, 2, none⟩ = some x2
  c3 : w.cell? ⟨b, 3, none⟩ = some x3
  f0 : w.frozen? ⟨b, 0, none⟩ = false
  f1 : w.frozen? ⟨b, 1, none⟩ = false
  f2 : w.frozen? ⟨b, 2, none⟩ = false
  f3 : w.frozen? ⟨b, 3, none⟩ = false
theorem Cells4.kept {w w' : World} {b g : Nat} {x0 x1 x2 x3 : Value} (h : Cells4 w b x0 x1 x2 x3) (hg : w.grownBy w' (some g)) (hne : b ≠ g) : Cells4 w' b x0 x1 x2 x3 :=
  ⟨grown_cell hg hne h.c0, grown_cell hg hne h.c1, grown_cell hg hne h.c2, grown_cell hg hne h.c3, grown_frozen hg hne h.c0 h.f0, grown_frozen hg hne h.c1 h.f1, grown_frozen hg hne h.c2 h.f2, grown_frozen hg hne h.c3 h.f3⟩
theorem Cells4.bel {w w' : World} {b : Nat} {x0 x1 x2 x3 : Value} (h : Cells4 w b x0 x1 x2 x3) (hb : Below w.heap.size w w') : Cells4 w' b x0 x1 x2 x3 := by
  have hne : b ≠ w.heap.size := Nat.ne_of_lt (World.block_lt_of_cell? _ _ h.c0)
  exact h.kept (g := w.heap.size) ⟨hb.os, hb.tape, hb.output, hb.size, fun k hk _ => hb.block k hk⟩ hne
theorem pick_vals {p : Nat → Value → Prop} : ∀ n, (∀ i, i < n → ∃ x, p i x) → ∃ xs : List Value, xs.length = n ∧ ∀ i x, xs[i]? = some x → p i x
  | 0, _ => ⟨[], rfl, fun i x h => by simp at h⟩
  | n + 1, h => by
    obtain ⟨xs, hl, hp⟩ := pick_vals n fun i hi => h i (by omega)
    obtain ⟨y, hy⟩ := h n (by omega)
    refine ⟨xs ++ [y], by simp [hl], fun i x hx => ?_⟩
    by_cases hi : i < n
    · rw [List.getElem?_append_left (by omega)] at hx
      exact hp i x hx
    · rw [List.getElem?_append_right (by omega)] at hx
      by_cases e : i = n
      · subst e
        simp only [hl, Nat.sub_self, List.getElem?_cons_zero, Option.some.injEq] at hx
        exact hx ▸ hy
      · rw [List.getElem?_eq_none (by simp; omega)] at hx
        exact absurd hx (by simp)
/-- Draws one number; four cells of another block stay. -/
theorem draw_next {B g : Nat} {n : Int} (hn : 1 ≤ n ∧ n ≤ 1000000) {w0 w : World} (h : Drawn B g w0 w) : Calls Try.prog 54 #[.pointer (some ⟨g, 0, none⟩), .int .i64 n] w
    fun e w' => ∃ v : Int, e = .returned (.int .i64 v) ∧ 0 ≤ v ∧ v < n ∧ Drawn B g w0 w' ∧ w.grownBy w' (some g) :=
  (spec_l01Next B g n hn w h.1).mono fun _ _ ⟨v, he, h0, h1, h2, h3⟩ => ⟨v, he, h0, h1, h.trans ⟨h2, h3⟩, h3⟩
theorem draw_next4 {B g b : Nat} {n : Int} {x0 x1 x2 x3 : Value} (hn : 1 ≤ n ∧ n ≤ 1000000) {w0 w : World} (h : Drawn B g w0 w) (hne : b ≠ g) (hc : Cells4 w b x0 x1 x2 x3) : Calls Try.prog 54 #[.pointer (some ⟨g, 0, none⟩), .int .i64 n] w
    fun e w' => ∃ v : Int, e = .returned (.int .i64 v) ∧ 0 ≤ v ∧ v < n ∧ Drawn B g w0 w' ∧ Cells4 w' b x0 x1 x2 x3 ∧
      w'.cell? ⟨b, 0, none⟩ = some x0 ∧ w'.cell? ⟨b, 1, none⟩ = some x1 ∧ w'.cell? ⟨b, 2, none⟩ = some x2 ∧ w'.cell? ⟨b, 3, none⟩ = some x3 ∧
      w'.frozen? ⟨b, 0, none⟩ = false ∧ w'.frozen? ⟨b, 1, none⟩ = false ∧ w'.frozen? ⟨b, 2, none⟩ = false ∧ w'.frozen? ⟨b, 3, none⟩ = false :=
  (spec_l01Next B g n hn w h.1).mono fun _ _ ⟨v, he, h0, h1, h2, h3⟩ => by
    have hk := hc.kept h3 hne
    exact ⟨v, he, h0, h1, h.trans ⟨h2, h3⟩, hk, hk.c0, hk.c1, hk.c2, hk.c3, hk.f0, hk.f1, hk.f2, hk.f3⟩
theorem ok_drawn {x y a b : Int} (h0 : -40 ≤ x) (h1 : x ≤ 39) (h2 : -40 ≤ y) (h3 : y ≤ 39) (ha : 1 ≤ a) (hb : 1 ≤ b) : (Rc.mk x y (min 40 (x + a)) (min 40 (y + b))).ok = true := by
  refine vRect_iff.2 ⟨h0, ?_, ?_, h2, ?_, ?_⟩ <;> (simp only; omega)
set_option maxRecDepth 100000 in
set_option maxHeartbeats 3200000 in
theorem spec_l02DrawRect (B g : Nat) (w : World) (h : IsSrc B w g) : Calls Try.prog 56 #[.pointer (some ⟨g, 0, none⟩)] w
    fun e w' => ∃ r : Rc, r.ok = true ∧ e = .returned (.agg #[.int .i64 r.x0, .int .i64 r.y0, .int .i64 r.x1, .int .i64 r.y1]) ∧ Drawn B g w w' := by
  have hd0 := (Drawn.refl h).alloc (.cells #[.int .i64 0, .int .i64 0, .int .i64 0, .int .i64 0] 44)
  have hne : w.heap.size ≠ g := Nat.ne_of_gt h.lt
  have hc0 : Cells4 (w.alloc (.cells #[.int .i64 0, .int .i64 0, .int .i64 0, .int .i64 0] 44)) w.heap.size (.int .i64 0) (.int .i64 0) (.int .i64 0) (.int .i64 0) :=
    ⟨by simp [go_sem], by simp [go_sem], by simp [go_sem], by simp [go_sem], by simp [go_sem], by simp [go_sem], by simp [go_sem], by simp [go_sem]⟩
  go_enter Try.func56, Try.ntmps56
  go_wp2_with fail
  go_at_call 54
  refine (draw_next4 (by omega) hd0 hne hc0).mono ?_
  rintro e w1 ⟨v1, rfl, a1, b1, hd1, hc1, _, _, _, _, _, _, _, _⟩
  go_wp2_with fail
  go_at_call 54
  refine (draw_next4 (by omega) hd1 hne hc1).mono ?_
  rintro e w2 ⟨v2, rfl, a2, b2, hd2, hc2, _, _, _, _, _, _, _, _⟩
  go_wp2_with fail
  go_at_call 54
  refine (draw_next4 (by omega) hd2 hne hc2).mono ?_
  rintro e w3 ⟨v3, rfl, a3, b3, hd3, hc3, _, _, _, _, _, _, _, _⟩
  by_cases z3 : v3 = 0
  · subst z3
    go_wp2_with fail
    go_at_call 54
    refine (draw_next4 (by omega) hd3 hne hc3).mono ?_
    rintro e w4 ⟨v4, rfl, a4, b4, hd4, hc4, _, _, _, _, _, _, _, _⟩
    go_wp2_with fail
    go_at_call 54
    refine (draw_next4 (by omega) hd4 hne hc4).mono ?_
    rintro e w5 ⟨v5, rfl, a5, b5, hd5, hc5, _, _, _, _, _, _, _, _⟩
    by_cases z5 : v5 = 0
    · subst z5
      go_wp2_with fail
      go_at_call 54
      refine (draw_next4 (by omega) hd5 hne hc5).mono ?_
      rintro e w7 ⟨v7, rfl, a7, b7, hd7, hc7, _, _, _, _, _, _, _, _⟩
      go_wp2_with fail
      go_at_call 54
      refine (draw_next4 (by omega) hd7 hne hc7).mono ?_
      rintro e w8 ⟨v8, rfl, a8, b8, hd8, hc8, c0, c1, c2, c3, f0, f1, f2, f3⟩
      go_wp2_with fail
      refine bodyPost_ret (v := .agg #[.int .i64 ((39 - v4)), .int .i64 ((-40)), .int .i64 (min 40 ((39 - v4) + (v7 + 1))), .int .i64 (min 40 ((-40) + (v8 + 1)))]) (by first | (simp [results, Try.results56, go_sem, *]; done) | simp [results, Try.results56, go_sem, *, ↓IntWalk.iteOmega]) rfl ⟨⟨(39 - v4), (-40), min 40 ((39 - v4) + (v7 + 1)), min 40 ((-40) + (v8 + 1))⟩, ok_drawn (by omega) (by omega) (by omega) (by omega) (by omega) (by omega), rfl, ?_⟩
      exact Drawn.set h (Drawn.set h (Drawn.set h (Drawn.set h hd8 (Nat.le_refl _) _ _) (Nat.le_refl _) _ _) (Nat.le_refl _) _ _) (Nat.le_refl _) _ _
    · skip
      go_wp2_with fail
      go_at_call 54
      refine (draw_next4 (by omega) hd5 hne hc5).mono ?_
      rintro e w7 ⟨v7, rfl, a7, b7, hd7, hc7, _, _, _, _, _, _, _, _⟩
      go_wp2_with fail
      go_at_call 54
      refine (draw_next4 (by omega) hd7 hne hc7).mono ?_
      rintro e w8 ⟨v8, rfl, a8, b8, hd8, hc8, c0, c1, c2, c3, f0, f1, f2, f3⟩
      go_wp2_with fail
      refine bodyPost_ret (v := .agg #[.int .i64 ((39 - v4)), .int .i64 ((v2 - 12)), .int .i64 (min 40 ((39 - v4) + (v7 + 1))), .int .i64 (min 40 ((v2 - 12) + (v8 + 1)))]) (by first | (simp [results, Try.results56, go_sem, *]; done) | simp [results, Try.results56, go_sem, *, ↓IntWalk.iteOmega]) rfl ⟨⟨(39 - v4), (v2 - 12), min 40 ((39 - v4) + (v7 + 1)), min 40 ((v2 - 12) + (v8 + 1))⟩, ok_drawn (by omega) (by omega) (by omega) (by omega) (by omega) (by omega), rfl, ?_⟩
      exact Drawn.set h (Drawn.set h (Drawn.set h (Drawn.set h hd8 (Nat.le_refl _) _ _) (Nat.le_refl _) _ _) (Nat.le_refl _) _ _) (Nat.le_refl _) _ _
  · skip
    go_wp2_with fail
    go_at_call 54
    refine (draw_next4 (by omega) hd3 hne hc3).mono ?_
    rintro e w5 ⟨v5, rfl, a5, b5, hd5, hc5, _, _, _, _, _, _, _, _⟩
    by_cases z5 : v5 = 0
    · subst z5
      go_wp2_with fail
      go_at_call 54
      refine (draw_next4 (by omega) hd5 hne hc5).mono ?_
      rintro e w7 ⟨v7, rfl, a7, b7, hd7, hc7, _, _, _, _, _, _, _, _⟩
      go_wp2_with fail
      go_at_call 54
      refine (draw_next4 (by omega) hd7 hne hc7).mono ?_
      rintro e w8 ⟨v8, rfl, a8, b8, hd8, hc8, c0, c1, c2, c3, f0, f1, f2, f3⟩
      go_wp2_with fail
      refine bodyPost_ret (v := .agg #[.int .i64 ((v1 - 12)), .int .i64 ((-40)), .int .i64 (min 40 ((v1 - 12) + (v7 + 1))), .int .i64 (min 40 ((-40) + (v8 + 1)))]) (by first | (simp [results, Try.results56, go_sem, *]; done) | simp [results, Try.results56, go_sem, *, ↓IntWalk.iteOmega]) rfl ⟨⟨(v1 - 12), (-40), min 40 ((v1 - 12) + (v7 + 1)), min 40 ((-40) + (v8 + 1))⟩, ok_drawn (by omega) (by omega) (by omega) (by omega) (by omega) (by omega), rfl, ?_⟩
      exact Drawn.set h (Drawn.set h (Drawn.set h (Drawn.set h hd8 (Nat.le_refl _) _ _) (Nat.le_refl _) _ _) (Nat.le_refl _) _ _) (Nat.le_refl _) _ _
    · skip
      go_wp2_with fail
      go_at_call 54
      refine (draw_next4 (by omega) hd5 hne hc5).mono ?_
      rintro e w7 ⟨v7, rfl, a7, b7, hd7, hc7, _, _, _, _, _, _, _, _⟩
      go_wp2_with fail
      go_at_call 54
      refine (draw_next4 (by omega) hd7 hne hc7).mono ?_
      rintro e w8 ⟨v8, rfl, a8, b8, hd8, hc8, c0, c1, c2, c3, f0, f1, f2, f3⟩
      go_wp2_with fail
      refine bodyPost_ret (v := .agg #[.int .i64 ((v1 - 12)), .int .i64 ((v2 - 12)), .int .i64 (min 40 ((v1 - 12) + (v7 + 1))), .int .i64 (min 40 ((v2 - 12) + (v8 + 1)))]) (by first | (simp [results, Try.results56, go_sem, *]; done) | simp [results, Try.results56, go_sem, *, ↓IntWalk.iteOmega]) rfl ⟨⟨(v1 - 12), (v2 - 12), min 40 ((v1 - 12) + (v7 + 1)), min 40 ((v2 - 12) + (v8 + 1))⟩, ok_drawn (by omega) (by omega) (by omega) (by omega) (by omega) (by omega), rfl, ?_⟩
      exact Drawn.set h (Drawn.set h (Drawn.set h (Drawn.set h hd8 (Nat.le_refl _) _ _) (Nat.le_refl _) _ _) (Nat.le_refl _) _ _) (Nat.le_refl _) _ _
end Go.Proofs.Ytldgjocjcbhkmab
