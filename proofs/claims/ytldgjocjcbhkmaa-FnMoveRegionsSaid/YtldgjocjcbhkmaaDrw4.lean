/- Contracts: what the laws draw from a code. -/
import Derived.Test.YtldgjocjcbhkmaaDrw3
namespace Go.Proofs.Ytldgjocjcbhkmaa
open Go.RowKit
attribute [local go_sem high] run_max2 run_min2
attribute [local go_sem low] cell_alloc_ite frozen_alloc_ite

/-- One region and, maybe, a number behind it. -/
theorem spoil_any {B g : Nat} {l : List Rc} {a : Option Addr} {cap : Nat} {n : Int} (hn : 1 ≤ n ∧ n ≤ 1000000) {w : World} (h : IsSrc B w g) {b : Nat} (ho : OwnRects w b (.slice a l.length cap) l) (hb : B ≤ b) (hg : g < b)
    (hl : l.length ≤ 3200) (hok : ∀ r ∈ l, r.ok = true) : Calls Try.prog 91 #[.pointer (some ⟨g, 0, none⟩), .slice a l.length cap, .int .i64 n] w
    fun e w' => ∃ (l' : List Rc) (a' : Option Addr) (cap' : Nat), e = .returned (.slice a' l'.length cap') ∧ OwnRects w' B (.slice a' l'.length cap') l' ∧ ((Value.slice a' l'.length cap').ownBlock = none ∨ (Value.slice a' l'.length cap').ownBlock ≠ some g) ∧ l'.length ≤ 3201 ∧ Drawn B g w w' :=
  spec_l03Spoil B g l a cap n hn w h (own_base ho hb) (own_far ho hg) hl hok
/-- Two drawn lists. -/
def RetD2 (w : World) (e : Ending) (w' : World) : Prop := ∃ (la : List Rc) (a : Option Addr) (ca : Nat) (lb : List Rc) (b : Option Addr) (cb : Nat), e = .returned (.tuple #[.slice a la.length ca, .slice b lb.length cb]) ∧
  RectsAt w'.heap.size w' a la ∧ RectsAt w'.heap.size w' b lb ∧ la.length ≤ 2000000 ∧ lb.length ≤ 2000000 ∧ Below w.heap.size w w'
/-- A drawn list and a number. -/
def RetDI (w : World) (e : Ending) (w' : World) : Prop := ∃ (la : List Rc) (a : Option Addr) (ca : Nat) (k : Int), e = .returned (.tuple #[.slice a la.length ca, .int .i64 k]) ∧
  RectsAt w'.heap.size w' a la ∧ la.length ≤ 2000000 ∧ -1 ≤ k ∧ k ≤ 20 ∧ Below w.heap.size w w'
set_option maxRecDepth 100000 in
set_option maxHeartbeats 1600000 in
theorem spec_DrawUnion (n cap : Nat) (a : Option Addr) (w : World) (h : InBytes w.heap.size w a n) (hn : n ≤ 5000) : Calls Try.prog 42 #[.slice a n cap] w (RetD2 w) := by
  go_enter Try.func42, Try.ntmps42
  go_wp2_with fail
  go_at_call 80
  refine (spec_l01From n cap a w h hn).mono ?_
  rintro e w1 ⟨g, rfl, hs, hb1⟩
  have hlo := hs.lo
  have hlt := hs.lt
  go_wp2_with fail
  go_at_call 92
  refine (spec_l03DrawRegion w.heap.size g w1 hs).mono ?_
  rintro e w2 ⟨l1, a1, c1, rfl, ho1, hl1, hok1, hd2⟩
  have HK1 := hide hok1
  clear hok1
  have hsz2 := hd2.2.size
  go_wp2_with fail
  go_at_call 91
  refine (spoil_any (n := 14) (by omega) hd2.1 ho1 (by omega) (by omega) hl1 HK1.out).mono ?_
  rintro e w3 ⟨m1, b1, d1, rfl, hp1, hf1, hm1, hd3⟩
  have hsz3 := hd3.2.size
  clear ho1 hl1 HK1
  go_wp2_with fail
  go_at_call 92
  refine (spec_l03DrawRegion w.heap.size g w3 hd3.1).mono ?_
  rintro e w4 ⟨l2, a2, c2, rfl, ho2, hl2, hok2, hd4⟩
  have HK2 := hide hok2
  clear hok2
  have hsz4 := hd4.2.size
  replace hp1 := own_marked hp1 hd4.2 hf1
  go_wp2_with fail
  go_at_call 91
  refine (spoil_any (n := 14) (by omega) hd4.1 ho2 (by omega) (by omega) hl2 HK2.out).mono ?_
  rintro e w5 ⟨m2, b2, d2, rfl, hp2, hf2, hm2, hd5⟩
  have hsz5 := hd5.2.size
  clear ho2 hl2 HK2
  replace hp1 := own_marked hp1 hd5.2 hf1
  go_wp2_with fail
  go_ret2
  have hd := ((hd2.trans hd3).trans hd4).trans hd5
  exact ⟨m1, b1, d1, m2, b2, d2, rfl, rects_at hp1, rects_at hp2, by omega, by omega, hd.below hb1 hb1.size⟩
set_option maxRecDepth 100000 in
set_option maxHeartbeats 1600000 in
theorem spec_DrawIntersection (n cap : Nat) (a : Option Addr) (w : World) (h : InBytes w.heap.size w a n) (hn : n ≤ 5000) : Calls Try.prog 31 #[.slice a n cap] w (RetD2 w) := by
  go_enter Try.func31, Try.ntmps31
  go_wp2_with fail
  go_at_call 80
  refine (spec_l01From n cap a w h hn).mono ?_
  rintro e w1 ⟨g, rfl, hs, hb1⟩
  have hlo := hs.lo
  have hlt := hs.lt
  go_wp2_with fail
  go_at_call 92
  refine (spec_l03DrawRegion w.heap.size g w1 hs).mono ?_
  rintro e w2 ⟨l1, a1, c1, rfl, ho1, hl1, hok1, hd2⟩
  have HK1 := hide hok1
  clear hok1
  have hsz2 := hd2.2.size
  go_wp2_with fail
  go_at_call 91
  refine (spoil_any (n := 14) (by omega) hd2.1 ho1 (by omega) (by omega) hl1 HK1.out).mono ?_
  rintro e w3 ⟨m1, b1, d1, rfl, hp1, hf1, hm1, hd3⟩
  have hsz3 := hd3.2.size
  clear ho1 hl1 HK1
  go_wp2_with fail
  go_at_call 92
  refine (spec_l03DrawRegion w.heap.size g w3 hd3.1).mono ?_
  rintro e w4 ⟨l2, a2, c2, rfl, ho2, hl2, hok2, hd4⟩
  have HK2 := hide hok2
  clear hok2
  have hsz4 := hd4.2.size
  replace hp1 := own_marked hp1 hd4.2 hf1
  go_wp2_with fail
  go_at_call 91
  refine (spoil_any (n := 14) (by omega) hd4.1 ho2 (by omega) (by omega) hl2 HK2.out).mono ?_
  rintro e w5 ⟨m2, b2, d2, rfl, hp2, hf2, hm2, hd5⟩
  have hsz5 := hd5.2.size
  clear ho2 hl2 HK2
  replace hp1 := own_marked hp1 hd5.2 hf1
  go_wp2_with fail
  go_ret2
  have hd := ((hd2.trans hd3).trans hd4).trans hd5
  exact ⟨m1, b1, d1, m2, b2, d2, rfl, rects_at hp1, rects_at hp2, by omega, by omega, hd.below hb1 hb1.size⟩
set_option maxRecDepth 100000 in
set_option maxHeartbeats 1600000 in
theorem spec_DrawRegionDistance (n cap : Nat) (a : Option Addr) (w : World) (h : InBytes w.heap.size w a n) (hn : n ≤ 5000) : Calls Try.prog 37 #[.slice a n cap] w (RetD2 w) := by
  go_enter Try.func37, Try.ntmps37
  go_wp2_with fail
  go_at_call 80
  refine (spec_l01From n cap a w h hn).mono ?_
  rintro e w1 ⟨g, rfl, hs, hb1⟩
  have hlo := hs.lo
  have hlt := hs.lt
  go_wp2_with fail
  go_at_call 92
  refine (spec_l03DrawRegion w.heap.size g w1 hs).mono ?_
  rintro e w2 ⟨l1, a1, c1, rfl, ho1, hl1, hok1, hd2⟩
  have HK1 := hide hok1
  clear hok1
  have hsz2 := hd2.2.size
  go_wp2_with fail
  go_at_call 91
  refine (spoil_any (n := 14) (by omega) hd2.1 ho1 (by omega) (by omega) hl1 HK1.out).mono ?_
  rintro e w3 ⟨m1, b1, d1, rfl, hp1, hf1, hm1, hd3⟩
  have hsz3 := hd3.2.size
  clear ho1 hl1 HK1
  go_wp2_with fail
  go_at_call 92
  refine (spec_l03DrawRegion w.heap.size g w3 hd3.1).mono ?_
  rintro e w4 ⟨l2, a2, c2, rfl, ho2, hl2, hok2, hd4⟩
  have HK2 := hide hok2
  clear hok2
  have hsz4 := hd4.2.size
  replace hp1 := own_marked hp1 hd4.2 hf1
  go_wp2_with fail
  go_at_call 91
  refine (spoil_any (n := 14) (by omega) hd4.1 ho2 (by omega) (by omega) hl2 HK2.out).mono ?_
  rintro e w5 ⟨m2, b2, d2, rfl, hp2, hf2, hm2, hd5⟩
  have hsz5 := hd5.2.size
  clear ho2 hl2 HK2
  replace hp1 := own_marked hp1 hd5.2 hf1
  go_wp2_with fail
  go_ret2
  have hd := ((hd2.trans hd3).trans hd4).trans hd5
  exact ⟨m1, b1, d1, m2, b2, d2, rfl, rects_at hp1, rects_at hp2, by omega, by omega, hd.below hb1 hb1.size⟩
set_option maxRecDepth 100000 in
set_option maxHeartbeats 1600000 in
theorem spec_DrawGrow (n cap : Nat) (a : Option Addr) (w : World) (h : InBytes w.heap.size w a n) (hn : n ≤ 5000) : Calls Try.prog 54 #[.slice a n cap] w (RetDI w) := by
  go_enter Try.func54, Try.ntmps54
  go_wp2_with fail
  go_at_call 80
  refine (spec_l01From n cap a w h hn).mono ?_
  rintro e w1 ⟨g, rfl, hs, hb1⟩
  have hlo := hs.lo
  have hlt := hs.lt
  go_wp2_with fail
  go_at_call 92
  refine (spec_l03DrawRegion w.heap.size g w1 hs).mono ?_
  rintro e w2 ⟨l1, a1, c1, rfl, ho1, hl1, hok1, hd2⟩
  have HK1 := hide hok1
  clear hok1
  have hsz2 := hd2.2.size
  go_wp2_with fail
  go_at_call 91
  refine (spoil_any (n := 12) (by omega) hd2.1 ho1 (by omega) (by omega) hl1 HK1.out).mono ?_
  rintro e w3 ⟨m1, b1, d1, rfl, hp1, hf1, hm1, hd3⟩
  have hsz3 := hd3.2.size
  clear ho1 hl1 HK1
  go_wp2_with fail
  go_at_call 103
  refine (spec_l05DrawSize w.heap.size g w3 hd3.1).mono ?_
  rintro e w4 ⟨k, rfl, k0, k1, hd4⟩
  replace hp1 := own_marked hp1 hd4.2 hf1
  go_wp2_with fail
  go_ret2
  have hd := (hd2.trans hd3).trans hd4
  exact ⟨m1, b1, d1, k, rfl, rects_at hp1, by omega, k0, k1, hd.below hb1 hb1.size⟩
set_option maxRecDepth 100000 in
set_option maxHeartbeats 1600000 in
theorem spec_DrawOpening (n cap : Nat) (a : Option Addr) (w : World) (h : InBytes w.heap.size w a n) (hn : n ≤ 5000) : Calls Try.prog 46 #[.slice a n cap] w (RetDI w) := by
  go_enter Try.func46, Try.ntmps46
  go_wp2_with fail
  go_at_call 80
  refine (spec_l01From n cap a w h hn).mono ?_
  rintro e w1 ⟨g, rfl, hs, hb1⟩
  have hlo := hs.lo
  have hlt := hs.lt
  go_wp2_with fail
  go_at_call 92
  refine (spec_l03DrawRegion w.heap.size g w1 hs).mono ?_
  rintro e w2 ⟨l1, a1, c1, rfl, ho1, hl1, hok1, hd2⟩
  have HK1 := hide hok1
  clear hok1
  have hsz2 := hd2.2.size
  go_wp2_with fail
  go_at_call 91
  refine (spoil_any (n := 12) (by omega) hd2.1 ho1 (by omega) (by omega) hl1 HK1.out).mono ?_
  rintro e w3 ⟨m1, b1, d1, rfl, hp1, hf1, hm1, hd3⟩
  have hsz3 := hd3.2.size
  clear ho1 hl1 HK1
  go_wp2_with fail
  go_at_call 103
  refine (spec_l05DrawSize w.heap.size g w3 hd3.1).mono ?_
  rintro e w4 ⟨k, rfl, k0, k1, hd4⟩
  replace hp1 := own_marked hp1 hd4.2 hf1
  go_wp2_with fail
  go_ret2
  have hd := (hd2.trans hd3).trans hd4
  exact ⟨m1, b1, d1, k, rfl, rects_at hp1, by omega, k0, k1, hd.below hb1 hb1.size⟩
set_option maxRecDepth 100000 in
set_option maxHeartbeats 1600000 in
theorem spec_DrawSquareCover (n cap : Nat) (a : Option Addr) (w : World) (h : InBytes w.heap.size w a n) (hn : n ≤ 5000) : Calls Try.prog 58 #[.slice a n cap] w (RetDI w) := by
  go_enter Try.func58, Try.ntmps58
  go_wp2_with fail
  go_at_call 80
  refine (spec_l01From n cap a w h hn).mono ?_
  rintro e w1 ⟨g, rfl, hs, hb1⟩
  have hlo := hs.lo
  have hlt := hs.lt
  go_wp2_with fail
  go_at_call 92
  refine (spec_l03DrawRegion w.heap.size g w1 hs).mono ?_
  rintro e w2 ⟨l1, a1, c1, rfl, ho1, hl1, hok1, hd2⟩
  have HK1 := hide hok1
  clear hok1
  have hsz2 := hd2.2.size
  go_wp2_with fail
  go_at_call 91
  refine (spoil_any (n := 12) (by omega) hd2.1 ho1 (by omega) (by omega) hl1 HK1.out).mono ?_
  rintro e w3 ⟨m1, b1, d1, rfl, hp1, hf1, hm1, hd3⟩
  have hsz3 := hd3.2.size
  clear ho1 hl1 HK1
  go_wp2_with fail
  go_at_call 103
  refine (spec_l05DrawSize w.heap.size g w3 hd3.1).mono ?_
  rintro e w4 ⟨k, rfl, k0, k1, hd4⟩
  replace hp1 := own_marked hp1 hd4.2 hf1
  go_wp2_with fail
  go_ret2
  have hd := (hd2.trans hd3).trans hd4
  exact ⟨m1, b1, d1, k, rfl, rects_at hp1, by omega, k0, k1, hd.below hb1 hb1.size⟩
/-- A drawn list. -/
def RetD1 (w : World) (e : Ending) (w' : World) : Prop := ∃ (la : List Rc) (a : Option Addr) (ca : Nat), e = .returned (.slice a la.length ca) ∧ RectsAt w'.heap.size w' a la ∧ la.length ≤ 2000000 ∧ Below w.heap.size w w'
set_option maxRecDepth 100000 in
set_option maxHeartbeats 3200000 in
theorem spec_DrawRegionOf (n cap : Nat) (a : Option Addr) (w : World) (h : InBytes w.heap.size w a n) (hn : n ≤ 5000) : Calls Try.prog 25 #[.slice a n cap] w (RetD1 w) := by
  go_enter Try.func25, Try.ntmps25
  go_wp2_with fail
  go_at_call 80
  refine (spec_l01From n cap a w h hn).mono ?_
  rintro e w1 ⟨g, rfl, hs, hb1⟩
  have hlo := hs.lo
  have hlt := hs.lt
  have hd0 := (Drawn.refl hs).alloc (.cells #[] 39)
  have ho0 : OwnRects (w1.alloc (.cells #[] 39)) w1.heap.size (.slice (some ⟨w1.heap.size, 0, none⟩) 0 0) [] := World.ownsRow_lit w1 #[] 0 (Nat.le_refl _) (by simp [maxLen]) rfl
  go_wp2_with fail
  go_at_call 81
  refine (draw_next (by omega) hd0).mono ?_
  rintro e w2 ⟨v2, rfl, a2, b2, hd2, hg2⟩
  have ho2 := own_marked ho0 hg2 (own_far ho0 hlt)
  clear ho0 hg2
  obtain ⟨k0, rfl⟩ : ∃ k0 : Nat, v2 = (k0 : Int) := ⟨v2.toNat, by omega⟩
  go_wp2_with fail
  go_loopw [4, 5] (fun s4 s wr => ∃ (k : Nat) (l : List Rc), s = .int .i64 k ∧ OwnRects wr w1.heap.size s4 l ∧ l.length + k ≤ 10 ∧ Drawn w.heap.size g w1 wr) (fun _ s _ => (intOf s).toNat)
  case atStart => exact ⟨k0, [], rfl, ho2, by simp; omega, hd2⟩
  case round =>
    obtain ⟨k, l, rfl, hown, hlk, hd⟩ := hrel
    by_cases hy : (k : Int) > 0
    · go_wp2_with fail
      go_at_call 83
      refine (spec_l02DrawRect w.heap.size g _ hd.1).mono ?_
      rintro e w3 ⟨r, hrok, rfl, hd3⟩
      have ho3 := own_marked hown hd3.2 (own_far hown hlt)
      have hd3' := hd.trans hd3
      obtain ⟨q1, q2, _, _⟩ := ok_bnd hrok
      have HRO := hide hrok
      clear hrok hown
      go_wp2_with fail
      go_at_call 82
      refine (spec_l02Spoil w.heap.size g _ _ _ _ 60 (by omega) ⟨q1, q2⟩ w3 hd3'.1).mono ?_
      rintro e w4 ⟨r', rfl, hd4⟩
      have ho4 := own_marked ho3 hd4.2 (own_far ho3 hlt)
      have hd4' := hd3'.trans hd4
      have hsz : w1.heap.size ≤ w4.heap.size := hd4'.2.size
      clear ho3
      go_wp2_with (at_builtin; refine wpList_append_rects rfl _ _ rfl w1.heap.size _ l rfl (own_next ho4 (bel_alloc (Below.refl _ _) _)) (some ⟨w4.heap.size, 0, none⟩) [r'] _ 1 rfl (rects_new w4 r') (by simp; omega) (by simp; omega) ?_; intro v' w5 ho5 hg5)
      go_roundw
      case rel => exact ⟨k - 1, l ++ [r'], by congr 1; omega, ho5, by simp; omega, Drawn.grow hs (hd4'.alloc _) hg5 (own_lo ho4)⟩
      case measure => simp [intOf]; omega
    · obtain ⟨a3, c3, rfl⟩ := own_slice hown
      go_wp2_with fail
      go_ret
      exact ⟨l, a3, c3, rfl, rects_at hown, by omega, hd.below hb1 hb1.size⟩
end Go.Proofs.Ytldgjocjcbhkmaa
