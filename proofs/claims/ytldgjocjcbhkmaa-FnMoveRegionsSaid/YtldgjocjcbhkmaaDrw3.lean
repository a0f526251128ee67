/- Contracts: drawn regions, spoilt ones, drawn sizes and transforms. -/
import Derived.Test.YtldgjocjcbhkmaaDrw2
namespace Go.Proofs.Ytldgjocjcbhkmaa
open Go.RowKit
attribute [local go_sem high] run_max2 run_min2
attribute [local go_sem low] cell_alloc_ite frozen_alloc_ite

theorem own_far {w : World} {base g : Nat} {v : Value} {l : List Rc} (h : OwnRects w base v l) (hg : g < base) : v.ownBlock = none ∨ v.ownBlock ≠ some g := by
  cases hq : v.ownBlock with
  | none => exact .inl rfl
  | some k =>
    refine .inr fun e => ?_
    have h1 := (World.ownsRow.lt (show w.ownsRow base 39 4 v l.length (rowL l) from h) k hq).1
    simp only [Option.some.injEq] at e
    omega
theorem Drawn.grow {B g : Nat} {w a c : World} {row : Option Nat} (h0 : IsSrc B w g) (h : Drawn B g w a) (hg : a.grownBy c row) (hr : ∀ k, row = some k → w.heap.size ≤ k) : Drawn B g w c := by
  obtain ⟨⟨ca, n, cc, q, seed, hs⟩, hw⟩ := h
  have hlt := h0.lt
  have hlo := h0.lo
  have hsz := hw.size
  have hne : ∀ k, k < w.heap.size → some k ≠ row := fun k hk e => by have := hr k e.symm; omega
  refine ⟨⟨ca, n, cc, q, seed, hs.lo, hs.row.of_block (hg.block g (by omega) (hne g hlt)), hs.len, hs.at1, hs.s0, hs.s1, fun i hi => ?_⟩, hg.os.trans hw.os, hg.tape.trans hw.tape, hg.output.trans hw.output, Nat.le_trans hsz hg.size, fun k hk hk' => ?_⟩
  · obtain ⟨b, off, x, ha, hb, x0, x1, hc⟩ := hs.bytes i hi
    exact ⟨b, off, x, ha, hb, x0, x1, hg.cell hc (hne b (by omega))⟩
  · exact (hg.block k (by omega) (hne k hk)).trans (hw.block k hk hk')
theorem own_lo {w : World} {base : Nat} {v : Value} {l : List Rc} (h : OwnRects w base v l) : ∀ k, v.ownBlock = some k → base ≤ k := fun k hk =>
  (World.ownsRow.lt (show w.ownsRow base 39 4 v l.length (rowL l) from h) k hk).1
theorem cells4_ints (w : World) (r0 r1 r2 r3 : Int) (t : TypeId) : Cells4 (w.alloc (.cells #[.int .i64 r0, .int .i64 r1, .int .i64 r2, .int .i64 r3] t)) w.heap.size (.int .i64 r0) (.int .i64 r1) (.int .i64 r2) (.int .i64 r3) :=
  ⟨by simp [go_sem], by simp [go_sem], by simp [go_sem], by simp [go_sem], by simp [go_sem], by simp [go_sem], by simp [go_sem], by simp [go_sem]⟩
set_option maxRecDepth 100000 in
set_option maxHeartbeats 3200000 in
theorem spec_l02Spoil (B g : Nat) (r0 r1 r2 r3 n : Int) (hn : 1 ≤ n ∧ n ≤ 1000000) (hr : -1000 ≤ r1 ∧ r1 ≤ 1000) (w : World) (h : IsSrc B w g) : Calls Try.prog 82 #[.pointer (some ⟨g, 0, none⟩), .agg #[.int .i64 r0, .int .i64 r1, .int .i64 r2, .int .i64 r3], .int .i64 n] w
    fun e w' => ∃ r : Rc, e = .returned (.agg #[.int .i64 r.x0, .int .i64 r.y0, .int .i64 r.x1, .int .i64 r.y1]) ∧ Drawn B g w w' := by
  obtain ⟨hr0, hr1⟩ := hr
  have hd0 := ((Drawn.refl h).alloc (.cells #[.int .i64 r0, .int .i64 r1, .int .i64 r2, .int .i64 r3] 39)).alloc (.cells #[.int .i64 0, .int .i64 0, .int .i64 0, .int .i64 0] 39)
  have hlt := h.lt
  have hne1 : w.heap.size ≠ g := by omega
  have hne2 : w.heap.size + 1 ≠ g := by omega
  have hp0 := (cells4_ints w r0 r1 r2 r3 39).bel (bel_alloc (Below.refl _ _) (.cells #[.int .i64 0, .int .i64 0, .int .i64 0, .int .i64 0] 39))
  have hq0 := cells4_ints (w.alloc (.cells #[.int .i64 r0, .int .i64 r1, .int .i64 r2, .int .i64 r3] 39)) 0 0 0 0 39
  rw [World.size_alloc] at hq0
  go_enter Try.func82, Try.ntmps82
  go_wp2_with fail
  go_at_call 81
  refine (draw_next hn hd0).mono ?_
  rintro e w1 ⟨v1, rfl, a1, b1, hd1, hg1⟩
  have hp1 := hp0.kept hg1 hne1
  have hq1 := hq0.kept hg1 hne2
  have hs1 := h
  clear hp0 hq0 hg1
  by_cases z1 : v1 = 0
  · subst z1
    go_wp2_with fail
    go_at_call 81
    refine (draw_next (by omega) hd1).mono ?_
    rintro e w2 ⟨v2, rfl, a2, b2, hd2, hg2⟩
    obtain ⟨c0, c1, c2, c3, f0, f1, f2, f3⟩ := hp1.kept hg2 hne1
    obtain ⟨d0, d1, d2, d3, e0, e1, e2, e3⟩ := hq1.kept hg2 hne2
    clear hp1 hq1 hg2
    have hv : v2 = 0 ∨ v2 = 1 ∨ v2 = 2 ∨ v2 = 3 := by omega
    rcases hv with rfl | rfl | rfl | rfl
    · go_wp2_with fail
      refine bodyPost_ret (v := .agg #[.int .i64 (r0), .int .i64 (r1), .int .i64 (r0), .int .i64 (r3)]) (by first | (simp [results, Try.results82, go_sem, *]; done) | simp [results, Try.results82, go_sem, *, ↓IntWalk.iteOmega]) rfl ⟨⟨r0, r1, r0, r3⟩, rfl, ?_⟩
      repeat (refine Drawn.set h ?_ (by omega) _ _)
      exact hd2
    · go_wp2_with fail
      refine bodyPost_ret (v := .agg #[.int .i64 (r0), .int .i64 (r1), .int .i64 (r2), .int .i64 (r1 - 1)]) (by first | (simp [results, Try.results82, go_sem, *]; done) | simp [results, Try.results82, go_sem, *, ↓IntWalk.iteOmega]) rfl ⟨⟨r0, r1, r2, r1 - 1⟩, rfl, ?_⟩
      repeat (refine Drawn.set h ?_ (by omega) _ _)
      exact hd2
    · go_wp2_with fail
      refine bodyPost_ret (v := .agg #[.int .i64 (-41), .int .i64 (r1), .int .i64 (r2), .int .i64 (r3)]) (by first | (simp [results, Try.results82, go_sem, *]; done) | simp [results, Try.results82, go_sem, *, ↓IntWalk.iteOmega]) rfl ⟨⟨-41, r1, r2, r3⟩, rfl, ?_⟩
      repeat (refine Drawn.set h ?_ (by omega) _ _)
      exact hd2
    · go_wp2_with fail
      refine bodyPost_ret (v := .agg #[.int .i64 (r0), .int .i64 (r1), .int .i64 (r2), .int .i64 (41)]) (by first | (simp [results, Try.results82, go_sem, *]; done) | simp [results, Try.results82, go_sem, *, ↓IntWalk.iteOmega]) rfl ⟨⟨r0, r1, r2, 41⟩, rfl, ?_⟩
      repeat (refine Drawn.set h ?_ (by omega) _ _)
      exact hd2
  · obtain ⟨c0, c1, c2, c3, f0, f1, f2, f3⟩ := hp1
    obtain ⟨d0, d1, d2, d3, e0, e1, e2, e3⟩ := hq1
    go_wp2_with fail
    refine bodyPost_ret (v := .agg #[.int .i64 r0, .int .i64 r1, .int .i64 r2, .int .i64 r3]) (by first | (simp [results, Try.results82, go_sem, *]; done) | simp [results, Try.results82, go_sem, *, ↓IntWalk.iteOmega]) rfl ⟨⟨r0, r1, r2, r3⟩, rfl, ?_⟩
    repeat (refine Drawn.set h ?_ (by omega) _ _)
    exact hd1
set_option maxRecDepth 100000 in
set_option maxHeartbeats 1600000 in
theorem spec_l05DrawSize (B g : Nat) (w : World) (h : IsSrc B w g) : Calls Try.prog 103 #[.pointer (some ⟨g, 0, none⟩)] w
    fun e w' => ∃ v : Int, e = .returned (.int .i64 v) ∧ -1 ≤ v ∧ v ≤ 20 ∧ Drawn B g w w' := by
  have hd0 := Drawn.refl h
  go_enter Try.func103, Try.ntmps103
  go_wp2_with fail
  go_at_call 81
  refine (draw_next (by omega) hd0).mono ?_
  rintro e w1 ⟨v1, rfl, a1, b1, hd1, hg1⟩
  by_cases z1 : v1 = 0
  · subst z1
    go_wp2_with fail
    go_at_call 81
    refine (draw_next (by omega) hd1).mono ?_
    rintro e w2 ⟨v2, rfl, a2, b2, hd2, hg2⟩
    go_wp2_with fail
    go_ret
    exact ⟨_, rfl, by omega, by omega, hd2⟩
  · go_wp2_with fail
    go_at_call 81
    refine (draw_next (by omega) hd1).mono ?_
    rintro e w2 ⟨v2, rfl, a2, b2, hd2, hg2⟩
    go_wp2_with fail
    go_ret
    exact ⟨_, rfl, by omega, by omega, hd2⟩
theorem rects_new (w : World) (r : Rc) : RectsAt (w.alloc (.cells #[.int .i64 r.x0, .int .i64 r.y0, .int .i64 r.x1, .int .i64 r.y1] 39)).heap.size (w.alloc (.cells #[.int .i64 r.x0, .int .i64 r.y0, .int .i64 r.x1, .int .i64 r.y1] 39)) (some ⟨w.heap.size, 0, none⟩) [r] := by
  intro i q hq
  have : i = 0 := by
    have := (List.getElem?_eq_some_iff.1 hq).1
    simp at this
    omega
  subst this
  simp only [List.getElem?_cons_zero, Option.some.injEq] at hq
  subst hq
  exact ⟨w.heap.size, rfl, by simp, by simp [go_sem], by simp [go_sem], by simp [go_sem], by simp [go_sem]⟩
set_option maxRecDepth 100000 in
set_option maxHeartbeats 3200000 in
theorem spec_l03DrawRegion (B g : Nat) (w : World) (h : IsSrc B w g) : Calls Try.prog 92 #[.pointer (some ⟨g, 0, none⟩)] w
    fun e w' => ∃ (l : List Rc) (a : Option Addr) (cap : Nat), e = .returned (.slice a l.length cap) ∧ OwnRects w' w.heap.size (.slice a l.length cap) l ∧ l.length ≤ 3200 ∧ (∀ r ∈ l, r.ok = true) ∧ Drawn B g w w' := by
  have hd0 := (Drawn.refl h).alloc (.cells #[] 39)
  have hgl := h.lt
  have ho0 : OwnRects (w.alloc (.cells #[] 39)) w.heap.size (.slice (some ⟨w.heap.size, 0, none⟩) 0 0) [] := World.ownsRow_lit w #[] 0 (Nat.le_refl _) (by simp [maxLen]) rfl
  go_enter Try.func92, Try.ntmps92
  go_wp2_with fail
  go_at_call 81
  refine (draw_next (by omega) hd0).mono ?_
  rintro e w1 ⟨v1, rfl, a1, b1, hd1, hg1⟩
  have ho1 := own_marked ho0 hg1 (own_far ho0 hgl)
  clear ho0 hg1
  go_wp2_with fail
  go_at_call 81
  refine (draw_next (by omega) hd1).mono ?_
  rintro e w2 ⟨v2, rfl, a2, b2, hd2, hg2⟩
  have ho2 := own_marked ho1 hg2 (own_far ho1 hgl)
  clear ho1 hg2
  obtain ⟨k0, hk0⟩ : ∃ k0 : Nat, v1 + v2 = (k0 : Int) := ⟨(v1 + v2).toNat, by omega⟩
  go_wp2_with fail
  go_loopw [3, 4] (fun s3 s wr => ∃ (k : Nat) (l : List Rc), s = .int .i64 k ∧ OwnRects wr w.heap.size s3 l ∧ l.length + k ≤ 10 ∧ (∀ r ∈ l, r.ok = true) ∧ Drawn B g w wr) (fun _ s _ => (intOf s).toNat)
  case atStart => exact ⟨k0, [], by simp, ho2, by simp; omega, fun r hr => by simp at hr, hd2⟩
  case round =>
    obtain ⟨k, l, rfl, hown, hlk, hok, hd⟩ := hrel
    have HOK := hide hok
    clear hok
    by_cases hy : (k : Int) > 0
    · go_wp2_with fail
      go_at_call 83
      refine (spec_l02DrawRect B g _ hd.1).mono ?_
      rintro e w3 ⟨r, hrok, rfl, hd3⟩
      have ho3 := own_marked hown hd3.2 (own_far hown hgl)
      have hd4 := hd.trans hd3
      have HRO := hide hrok
      have hsz : w.heap.size ≤ w3.heap.size := hd4.2.size
      clear hrok
      go_wp2_with (at_builtin; refine wpList_append_rects rfl _ _ rfl w.heap.size _ l rfl (own_next ho3 (bel_alloc (Below.refl _ _) _)) (some ⟨w3.heap.size, 0, none⟩) [r] _ 1 rfl (rects_new w3 r) (by simp; omega) (by simp; omega) ?_; intro v' w4 ho4 hg4)
      go_roundw
      case rel =>
        refine ⟨k - 1, l ++ [r], by congr 1; omega, ho4, by simp; omega, fun q hq => ?_, ?_⟩
        · rcases List.mem_append.1 hq with hq | hq
          · exact HOK.out q hq
          · simp only [List.mem_singleton] at hq; rw [hq]; exact HRO.out
        · exact Drawn.grow h (hd4.alloc _) hg4 (own_lo ho3)
      case measure => simp [intOf]; omega
    · obtain ⟨a3, c3, rfl⟩ := own_slice hown
      go_wp2_with fail
      go_at_call 77
      refine (spec_l03Bits l _ _ _ (rects_at hown) (by omega) HOK.out).mono ?_
      rintro e w3 ⟨bb, rfl, _, r3, hb3⟩
      go_wp2_with fail
      go_at_call 78
      refine ((spec_l03Canon _ _ _ _ r3).mono fun _ _ => retS_of).mono ?_
      rintro e w4 ⟨a4, c4, rfl, ho4, hb4⟩
      have hd4 := (hd.more hb3).more hb4
      have hlr := region_length (bitsOf l)
      have HLR := hide hlr
      have hro := region_ok (bitsOf l)
      have HRO := hide hro
      clear hlr hro HOK
      go_wp2_with fail
      go_ret
      exact ⟨_, a4, c4, rfl, own_base ho4 (hd.more hb3).2.size, HLR.out, HRO.out, hd4⟩
theorem ok_bnd {r : Rc} (h : r.ok = true) : -1000 ≤ r.y0 ∧ r.y0 ≤ 1000 ∧ -1000 ≤ r.x1 ∧ r.x1 ≤ 1000 := by
  obtain ⟨h1, h2, h3, h4, h5, h6⟩ := vRect_iff.1 h
  omega
theorem rowL_set : ∀ (l : List Rc) (i : Nat) (r : Rc), i < l.length → ((((rowL l).set (i * 4) (.int .i64 r.x0)).set (i * 4 + 1) (.int .i64 r.y0)).set (i * 4 + 2) (.int .i64 r.x1)).set (i * 4 + 3) (.int .i64 r.y1) = rowL (l.set i r)
  | [], _, _, h => by simp at h
  | q :: l, 0, r, _ => by simp [rowL, rcV]
  | q :: l, i + 1, r, h => by
    have ih := rowL_set l i r (by simpa using h)
    have e : rowL (q :: l) = .int .i64 q.x0 :: .int .i64 q.y0 :: .int .i64 q.x1 :: .int .i64 q.y1 :: rowL l := by simp [rowL, rcV]
    rw [e, show (i + 1) * 4 = i * 4 + 1 + 1 + 1 + 1 from by omega]
    simp only [List.set_cons_succ, Nat.add_assoc, List.set_cons_succ]
    rw [ih]
    simp [rowL, rcV]
theorem rowL_setX : ∀ (l : List Rc) (i : Nat) (z : Int) (h : i < l.length), (rowL l).set (i * 4 + 2) (.int .i64 z) = rowL (l.set i ⟨l[i].x0, l[i].y0, z, l[i].y1⟩)
  | [], _, _, h => by simp at h
  | q :: l, 0, z, _ => by simp [rowL, rcV]
  | q :: l, i + 1, z, h => by
    have ih := rowL_setX l i z (by simpa using h)
    have e : rowL (q :: l) = .int .i64 q.x0 :: .int .i64 q.y0 :: .int .i64 q.x1 :: .int .i64 q.y1 :: rowL l := by simp [rowL, rcV]
    rw [e, show (i + 1) * 4 + 2 = (i * 4 + 2) + 1 + 1 + 1 + 1 from by omega]
    simp only [List.set_cons_succ]
    rw [ih]
    simp [rowL, rcV]
set_option maxRecDepth 100000 in
set_option maxHeartbeats 3200000 in
theorem spec_l03Spoil (B g : Nat) (l : List Rc) (a : Option Addr) (cap : Nat) (n : Int) (hn : 1 ≤ n ∧ n ≤ 1000000) (w : World) (h : IsSrc B w g) (ho : OwnRects w B (.slice a l.length cap) l) (hne : (Value.slice a l.length cap).ownBlock = none ∨ (Value.slice a l.length cap).ownBlock ≠ some g)
    (hl : l.length ≤ 3200) (hok : ∀ r ∈ l, r.ok = true) : Calls Try.prog 91 #[.pointer (some ⟨g, 0, none⟩), .slice a l.length cap, .int .i64 n] w
    fun e w' => ∃ (l' : List Rc) (a' : Option Addr) (cap' : Nat), e = .returned (.slice a' l'.length cap') ∧ OwnRects w' B (.slice a' l'.length cap') l' ∧ ((Value.slice a' l'.length cap').ownBlock = none ∨ (Value.slice a' l'.length cap').ownBlock ≠ some g) ∧ l'.length ≤ 3201 ∧ Drawn B g w w' := by
  have hd0 := Drawn.refl h
  have HOK := hide hok
  clear hok
  go_enter Try.func91, Try.ntmps91
  go_wp2_with fail
  go_at_call 81
  refine (draw_next hn hd0).mono ?_
  rintro e w1 ⟨v1, rfl, a1, b1, hd1, hg1⟩
  have ho1 := own_marked ho hg1 hne
  by_cases z1 : v1 = 0
  · subst z1
    have hn0 : OwnRects (w1.alloc (.cells #[] 39)) w1.heap.size (.slice (some ⟨w1.heap.size, 0, none⟩) 0 0) [] := World.ownsRow_lit w1 #[] 0 (Nat.le_refl _) (by simp [maxLen]) rfl
    have HN0 := hide hn0
    have hg1s := hd1.2.size
    have hlt := h.lt
    clear hn0
    have hlo := h.lo
    have hB1 : B ≤ w1.heap.size := by omega
    have hg1' : g < w1.heap.size := by omega
    by_cases hl0 : l = []
    · subst hl0
      clear HOK
      go_wp2_with (first | (at_builtin; refine wpList_append_rects rfl _ _ rfl w1.heap.size _ [] rfl HN0.out a [] w1.heap.size cap rfl ((rects_at ho1).below (bel_alloc (Below.refl _ _) _) (Nat.le_refl _)) (by simp) (by simp) ?_; intro v' w2 ho2 hg2; rw [List.nil_append] at ho2; have hd2 : Drawn B g w w2 := Drawn.grow h (hd1.alloc _) hg2 (fun k e => by cases e; exact hg1s); have hsz2 : w1.heap.size ≤ w2.heap.size := (by have := hg2.size; simp at this; omega); clear ho1 hg1 hd0 ho hg2 HN0; obtain ⟨a2, c2, rfl⟩ := own_slice ho2; have ho2' := hide ho2; clear ho2) | (at_builtin; refine wpList_append_rects rfl _ _ rfl w1.heap.size _ [] rfl (own_next ho2'.out (bel_alloc (Below.refl _ _) _)) (some ⟨w2.heap.size, 0, none⟩) [⟨0, 0, 0, 0⟩] _ 1 rfl (rects_new w2 ⟨0, 0, 0, 0⟩) (by simp) (by simp; omega) ?_; intro v' w3 ho3 hg3))
      obtain ⟨a3, c3, rfl⟩ := own_slice ho3
      go_ret
      exact ⟨_, a3, c3, rfl, own_base ho3 hB1, own_far ho3 hg1', by simp, Drawn.grow h (hd2.alloc _) hg3 fun k e => by have := own_lo ho2'.out k e; omega⟩
    · have hlp : 0 < l.length := List.length_pos_iff.2 hl0
      have hlz : ¬ (l.length : Int) = 0 := by omega
      clear hl0
      go_wp2_with (at_builtin; refine wpList_append_rects rfl _ _ rfl w1.heap.size _ [] rfl HN0.out a l w1.heap.size cap rfl ((rects_at ho1).below (bel_alloc (Below.refl _ _) _) (Nat.le_refl _)) (by simp; omega) (by simp) ?_; intro v' w2 ho2 hg2; rw [List.nil_append] at ho2; have hd2 : Drawn B g w w2 := Drawn.grow h (hd1.alloc _) hg2 (fun k e => by cases e; exact hg1s); have hsz2 : w1.heap.size ≤ w2.heap.size := (by have := hg2.size; simp at this; omega); clear ho1 hg1 hd0 ho hg2 HN0; obtain ⟨a2, c2, rfl⟩ := own_slice ho2; obtain ⟨gb, cb, hq, hb1, hb2⟩ := (show w2.ownsRow w1.heap.size 39 4 (.slice a2 l.length c2) l.length (rowL l) from ho2).form hlp; simp only [Value.slice.injEq, true_and] at hq; obtain ⟨rfl, rfl⟩ := hq)
      go_at_call 81
      refine (draw_next (by omega) hd2).mono ?_
      rintro e w3 ⟨v2, rfl, a3, b3, hd3, hg3⟩
      have ho3 := own_marked ho2 hg3 (own_far ho2 hg1')
      clear ho2 hg3
      obtain ⟨i, rfl⟩ : ∃ i : Nat, v2 = (i : Int) := ⟨v2.toNat, by omega⟩
      have hi : i < l.length := by omega
      go_wp2_with fail
      go_at_call 81
      refine (draw_next (by omega) hd3).mono ?_
      rintro e w4 ⟨v3, rfl, a4, b4, hd4, hg4⟩
      have ho4 := own_marked ho3 hg4 (own_far ho3 hg1')
      clear ho3 hg4 hd2 hd1 hd3
      obtain ⟨q, hq, _, c0, c1, c2', c3'⟩ := (rects_at ho4) i l[i] (List.getElem?_eq_getElem hi)
      simp only [Option.some.injEq, Addr.mk.injEq, and_true] at hq
      subst hq
      have hok := ok_bnd (HOK.out l[i] (List.getElem_mem hi))
      obtain ⟨hx1, hx2, hy1, hy2⟩ := hok
      have hq5 : ∀ j, w4.frozen? ⟨gb, j, none⟩ = false := fun j => (show w4.ownsRow w1.heap.size 39 4 (.slice (some ⟨gb, 0, none⟩) l.length c2) l.length (rowL l) from ho4).frozenAt j
      have f0 := hq5 (i * 4)
      have f1 := hq5 (i * 4 + 1)
      have f2 := hq5 (i * 4 + 2)
      have f3 := hq5 (i * 4 + 3)
      clear hq5
      have hgne : gb ≠ g := by omega
      have hv : v3 = 0 ∨ v3 = 1 ∨ v3 = 2 := by omega
      rcases hv with rfl | rfl | rfl
      · go_wp2_with fail
        go_at_call 82
        refine (spec_l02Spoil B g _ _ _ _ 1 (by omega) (by omega) w4 hd4.1).mono ?_
        rintro e w5 ⟨r, rfl, hd5⟩
        have ho5 := own_marked ho4 hd5.2 (own_far ho4 hg1')
        have d0 := grown_cell hd5.2 hgne c0
        have d1 := grown_cell hd5.2 hgne c1
        have d2 := grown_cell hd5.2 hgne c2'
        have d3 := grown_cell hd5.2 hgne c3'
        have e0 := grown_frozen hd5.2 hgne c0 f0
        have e1 := grown_frozen hd5.2 hgne c1 f1
        have e2 := grown_frozen hd5.2 hgne c2' f2
        have e3 := grown_frozen hd5.2 hgne c3' f3
        clear c0 c1 c2' c3' f0 f1 f2 f3
        go_wp2_with fail
        go_ret
        have s1 := (((((show w5.ownsRow w1.heap.size 39 4 (.slice (some ⟨gb, 0, none⟩) l.length c2) l.length (rowL l) from ho5).stored (i * 4) (.int .i64 r.x0)).1.stored (i * 4 + 1) (.int .i64 r.y0)).1.stored (i * 4 + 2) (.int .i64 r.x1)).1.stored (i * 4 + 3) (.int .i64 r.y1)).1
        rw [rowL_set l i r hi] at s1
        have hlen : (l.set i r).length = l.length := List.length_set
        have hd6 := hd4.trans hd5
        refine ⟨l.set i r, some ⟨gb, 0, none⟩, c2, by rw [hlen]; rfl, own_base (w := _) (b := w1.heap.size) (by rw [OwnRects, hlen]; exact s1) hB1, .inr (by simp [Value.ownBlock]; omega), by omega, ?_⟩
        exact Drawn.set h (Drawn.set h (Drawn.set h (Drawn.set h hd6 (by omega) _ _) (by omega) _ _) (by omega) _ _) (by omega) _ _
      · go_wp2_with (at_builtin; refine wpList_append_rects rfl _ _ rfl w1.heap.size _ l rfl (own_next ho4 (bel_alloc (Below.refl _ _) _)) (some ⟨w4.heap.size, 0, none⟩) [l[i]] _ 1 rfl (rects_new w4 l[i]) (by simp; omega) (by have := hd4.2.size; simp; omega) ?_; intro v' w5 ho5 hg5)
        obtain ⟨a5, c5, rfl⟩ := own_slice ho5
        go_ret
        exact ⟨_, a5, c5, rfl, own_base ho5 hB1, own_far ho5 hg1', by simp; omega, Drawn.grow h (hd4.alloc _) hg5 fun k e => by have := own_lo ho4 k e; omega⟩
      · go_wp2_with fail
        go_ret
        have s1 := ((show w4.ownsRow w1.heap.size 39 4 (.slice (some ⟨gb, 0, none⟩) l.length c2) l.length (rowL l) from ho4).stored (i * 4 + 2) (.int .i64 (l[i].x1 + 1))).1
        rw [rowL_setX l i _ hi] at s1
        have hlen : (l.set i ⟨l[i].x0, l[i].y0, l[i].x1 + 1, l[i].y1⟩).length = l.length := List.length_set
        refine ⟨l.set i ⟨l[i].x0, l[i].y0, l[i].x1 + 1, l[i].y1⟩, some ⟨gb, 0, none⟩, c2, by rw [hlen]; rfl, own_base (w := _) (b := w1.heap.size) (by rw [OwnRects, hlen]; exact s1) hB1, .inr (by simp [Value.ownBlock]; omega), by omega, ?_⟩
        exact Drawn.set h hd4 (by omega) _ _
  · go_wp2_with fail
    go_ret
    exact ⟨l, a, cap, rfl, ho1, hne, by omega, hd1⟩
end Go.Proofs.Ytldgjocjcbhkmaa
