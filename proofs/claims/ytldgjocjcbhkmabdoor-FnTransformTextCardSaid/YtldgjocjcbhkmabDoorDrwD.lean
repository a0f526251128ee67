/- Contracts: the numbers and the transform that a law draws from a code; a slice of bytes opened to its cells. -/
import Derived.Test.YtldgjocjcbhkmabDoorGeo
import Derived.StillTailTactics
import Derived.Deep.RegionHeld3
import Derived.Deep.OwnRows
import Derived.Laws.AppendOwn
import Derived.Deep.Slices
import Derived.Deep.Fields
import Derived.ChangeSame
namespace Go.Proofs.YtldgjocjcbhkmabDoor
open Go.RowKit
attribute [local go_sem low] cell_alloc_ite frozen_alloc_ite

/-- Some n bytes lie behind the slice's address a, wherever, below block B. -/
def InBytes (B : Nat) (w : World) (a : Option Addr) (n : Nat) : Prop := ∀ i, i < n → ∃ (g off : Nat) (b : Int), a = some ⟨g, off, none⟩ ∧ g < B ∧ 0 ≤ b ∧ b < 256 ∧ w.cell? ⟨g, off + i, none⟩ = some (.int .u8 b)
theorem InBytes.below {B C : Nat} {w w' : World} {a : Option Addr} {n : Nat} (h : InBytes B w a n) (hb : Below C w w') (hc : B ≤ C) : InBytes B w' a n := fun i hi => by
  obtain ⟨g, off, b, ha, hg, h0, h1, c⟩ := h i hi
  exact ⟨g, off, b, ha, hg, h0, h1, (hb.cell (p := ⟨g, _, none⟩) (Nat.lt_of_lt_of_le hg hc)).trans c⟩
theorem InBytes.mono {B C : Nat} {w : World} {a : Option Addr} {n : Nat} (h : InBytes B w a n) (hc : B ≤ C) : InBytes C w a n := fun i hi => by
  obtain ⟨g, off, b, ha, hg, c⟩ := h i hi
  exact ⟨g, off, b, ha, Nat.lt_of_lt_of_le hg hc, c⟩
theorem bytes_at {W w : World} {a : Option Addr} {n : Nat} (h : InBytes W.heap.size W a n) (hb : Below W.heap.size W w) : InBytes w.heap.size w a n := (h.below hb (Nat.le_refl _)).mono hb.size

/-- A source of numbers in block g, from block B on; its code lies below B. -/
def srcV (ca : Option Addr) (n cc q : Nat) (seed : Int) : Nat → Value := fun j => if j = 0 then .slice ca n cc else if j = 1 then .int .i64 (q : Int) else .int .i64 seed
structure Src (B : Nat) (w : World) (g : Nat) (ca : Option Addr) (n cc q : Nat) (seed : Int) : Prop where
  lo : B ≤ g
  row : w.rowIs g 62 3 (srcV ca n cc q seed)
  len : n ≤ 5000
  at1 : q ≤ n
  s0 : 0 ≤ seed
  s1 : seed < 2147483647
  bytes : InBytes B w ca n
def IsSrc (B : Nat) (w : World) (g : Nat) : Prop := ∃ ca n cc q seed, Src B w g ca n cc q seed
theorem Src.cells {B g n cc q : Nat} {w : World} {ca : Option Addr} {seed : Int} (h : Src B w g ca n cc q seed) :
    w.cell? ⟨g, 0, none⟩ = some (.slice ca n cc) ∧ w.cell? ⟨g, 1, none⟩ = some (.int .i64 (q : Int)) ∧ w.cell? ⟨g, 2, none⟩ = some (.int .i64 seed) :=
  ⟨h.row.cell (by omega), h.row.cell (i := 1) (by omega), h.row.cell (i := 2) (by omega)⟩
theorem Src.lt {B g n cc q : Nat} {w : World} {ca : Option Addr} {seed : Int} (h : Src B w g ca n cc q seed) : g < w.heap.size := h.row.lt
theorem InBytes.grown {B : Nat} {w w' : World} {a : Option Addr} {n g : Nat} (h : InBytes B w a n) (hg : w.grownBy w' (some g)) (hB : B ≤ g) : InBytes B w' a n := fun i hi => by
  obtain ⟨k, off, b, ha, hk, h0, h1, c⟩ := h i hi
  exact ⟨k, off, b, ha, hk, h0, h1, hg.cell c (by intro e; simp only [Option.some.injEq] at e; omega)⟩
theorem grown_set (w : World) (g j : Nat) (u : Value) : w.grownBy (w.setCell ⟨g, j, none⟩ u) (some g) :=
  ⟨rfl, rfl, rfl, by simp [World.setCell], fun k _ hne => Below.heap_setCell w ⟨g, j, none⟩ u k (fun e => hne (by rw [e]))⟩
theorem Src.setAt {B g n cc q : Nat} {w : World} {ca : Option Addr} {seed : Int} (h : Src B w g ca n cc q seed) {m : Nat} (h1 : m ≤ n) : Src B (w.setCell ⟨g, 1, none⟩ (.int .i64 (m : Int))) g ca n cc m seed :=
  ⟨h.lo, (h.row.set 1 (.int .i64 (m : Int))).congr fun i hi => by
    have : i = 0 ∨ i = 1 ∨ i = 2 := by omega
    rcases this with rfl | rfl | rfl <;> rfl, h.len, h1, h.s0, h.s1, h.bytes.grown (grown_set ..) h.lo⟩
theorem Src.setAt' {B g n cc q : Nat} {w : World} {ca : Option Addr} {seed : Int} (h : Src B w g ca n cc q seed) {m : Nat} {z : Int} (h1 : m ≤ n) (hz : z = (m : Int)) : Src B (w.setCell ⟨g, 1, none⟩ (.int .i64 z)) g ca n cc m seed := by
  subst hz; exact h.setAt h1
theorem Src.setSeed {B g n cc q : Nat} {w : World} {ca : Option Addr} {seed : Int} (h : Src B w g ca n cc q seed) {m : Int} (h0 : 0 ≤ m) (h1 : m < 2147483647) : Src B (w.setCell ⟨g, 2, none⟩ (.int .i64 m)) g ca n cc q m :=
  ⟨h.lo, (h.row.set 2 (.int .i64 m)).congr fun i hi => by
    have : i = 0 ∨ i = 1 ∨ i = 2 := by omega
    rcases this with rfl | rfl | rfl <;> rfl, h.len, h.at1, h0, h1, h.bytes.grown (grown_set ..) h.lo⟩
theorem Src.kept {B g n cc q : Nat} {w w' : World} {ca : Option Addr} {seed : Int} (h : Src B w g ca n cc q seed) (hb : Below w.heap.size w w') : Src B w' g ca n cc q seed :=
  ⟨h.lo, h.row.of_block (hb.block g h.lt), h.len, h.at1, h.s0, h.s1, h.bytes.below hb (Nat.le_of_lt (Nat.lt_of_le_of_lt h.lo h.lt))⟩
theorem IsSrc.kept {B g : Nat} {w w' : World} (h : IsSrc B w g) (hb : Below w.heap.size w w') : IsSrc B w' g := by
  obtain ⟨ca, n, cc, q, seed, h⟩ := h
  exact ⟨ca, n, cc, q, seed, h.kept hb⟩
theorem IsSrc.lt {B g : Nat} {w : World} (h : IsSrc B w g) : g < w.heap.size := by
  obtain ⟨ca, n, cc, q, seed, h⟩ := h
  exact h.lt
theorem IsSrc.lo {B g : Nat} {w : World} (h : IsSrc B w g) : B ≤ g := by
  obtain ⟨ca, n, cc, q, seed, h⟩ := h
  exact h.lo
theorem grown_of_below {w w' : World} (h : Below w.heap.size w w') (row : Option Nat) : w.grownBy w' row := ⟨h.os, h.tape, h.output, h.size, fun k hk _ => h.block k hk⟩
theorem below_src {B g : Nat} {w0 w w' : World} (hb : Below B w0 w) (hB : B ≤ w.heap.size) (hg : w.grownBy w' (some g)) (hl : B ≤ g) : Below B w0 w' :=
  hb.grown hg hB fun k e => by cases e; exact hl

set_option maxRecDepth 100000 in
set_option maxHeartbeats 400000 in
theorem laws_big (n cap : Nat) (a : Option Addr) (w : World) : Calls Tryd.prog 12 #[.slice a n cap] w fun e w' => e = .returned (.bool (decide ((n : Int) > 4096))) ∧ w = w' := by
  go_enter Tryd.func12, Tryd.ntmps12
  go_wp2
  go_ret
  exact ⟨rfl, rfl⟩
theorem rowIs_kept {w w' : World} {b t n : Nat} {f : Nat → Value} (h : w.rowIs b t n f) (hb : Below w.heap.size w w') : w'.rowIs b t n f := h.of_block (hb.block b h.lt)
set_option maxRecDepth 100000 in
set_option maxHeartbeats 1600000 in
theorem spec_l01From (n cap : Nat) (a : Option Addr) (w : World) (h : InBytes w.heap.size w a n) (hn : n ≤ 5000) : Calls Tryd.prog 24 #[.slice a n cap] w
    fun e w' => ∃ g, e = .returned (.pointer (some ⟨g, 0, none⟩)) ∧ IsSrc w.heap.size w' g ∧ Below w.heap.size w w' := by
  go_enter Tryd.func24, Tryd.ntmps24
  go_wp2_with fail
  go_loopw [4] (fun s wr => ∃ (i : Nat) (seed : Int), i ≤ n ∧ s = .int .i64 i ∧ Src w.heap.size wr w.heap.size a n cap 0 seed ∧ Below w.heap.size w wr) (fun s _ => n - (intOf s).toNat)
  case atStart =>
    refine ⟨0, 12345, Nat.zero_le _, rfl, ⟨Nat.le_refl _, ?_, hn, Nat.zero_le _, by omega, by omega, h.below (bel_alloc (Below.refl _ _) _) (Nat.le_refl _)⟩, (by repeat (first | with_reducible exact Below.refl _ _ | with_reducible assumption | with_reducible refine bel_alloc ?_ _ | with_reducible refine bel_drew ?_ | with_reducible refine bel_drewN ?_ _ | with_reducible refine bel_set ?_ (by (try simp) <;> omega) _ | with_reducible refine bel_trans ?_ (by assumption)))⟩
    refine World.rowIs_alloc w #[.slice a n cap, .int .i64 0, .int .i64 12345] 62 _ fun i hi => ?_
    have : i = 0 ∨ i = 1 ∨ i = 2 := by simp at hi; omega
    rcases this with rfl | rfl | rfl <;> rfl
  case round =>
    obtain ⟨i, seed, hi, rfl, hs, hbl⟩ := hrel
    obtain ⟨k0, k1, k2⟩ := hs.cells
    have hs0 := hs.s0
    have hs1 := hs.s1
    have f2 := hs.row.frozen 2
    have HS := hide hs
    clear hs
    by_cases hy : (i : Int) < (n : Int)
    · by_cases h6 : (i : Int) < 64
      · obtain ⟨cb, off, b, hca, hcb, b0, b1, kb⟩ := HS.out.bytes i (by omega)
        subst hca
        go_wp2_with fail
        go_still_tail 15, (by kernel_rfl)
        repeat still_step
        try refine wpStill_nil ?_
        change wpList _ _ _ _ _ (World.drew _)
        go_wp2_with fail
        go_roundw
        case rel => exact ⟨i + 1, _, by omega, by go_num, (HS.out.kept (bel_drew (Below.refl _ _))).setSeed (Int.emod_nonneg _ (by omega)) (Int.emod_lt_of_pos _ (by omega)), hbl.drew.setCell (Nat.le_refl _) _⟩
        case measure => simp [intOf]; omega
      · go_wp2_with fail
        go_ret
        exact ⟨_, rfl, ⟨_, _, _, _, _, HS.out⟩, hbl⟩
    · go_wp2_with fail
      go_ret
      exact ⟨_, rfl, ⟨_, _, _, _, _, HS.out⟩, hbl⟩
theorem drawn_src {B g n cc q : Nat} {w : World} {ca : Option Addr} {seed : Int} (h : Src B w g ca n cc q seed) : IsSrc B w g := ⟨_, _, _, _, _, h⟩
set_option maxRecDepth 100000 in
set_option maxHeartbeats 1600000 in
theorem spec_l01Next (B g : Nat) (n : Int) (hn : 1 ≤ n ∧ n ≤ 1000000) (w : World) (h : IsSrc B w g) : Calls Tryd.prog 34 #[.pointer (some ⟨g, 0, none⟩), .int .i64 n] w
    fun e w' => ∃ v : Int, e = .returned (.int .i64 v) ∧ 0 ≤ v ∧ v < n ∧ IsSrc B w' g ∧ w.grownBy w' (some g) := by
  obtain ⟨ca, m, cc, q, seed, hs⟩ := h
  obtain ⟨hn1, hn2⟩ := hn
  obtain ⟨k0, k1, k2⟩ := hs.cells
  have hs0 := hs.s0
  have hs1 := hs.s1
  have hq1 := hs.at1
  have hlen := hs.len
  have hfz := hs.row.frozen
  have f1 := hfz 1
  have f2 := hfz 2
  clear hfz
  have HS := hide hs
  clear hs
  by_cases h1 : n ≤ 1
  · go_enter Tryd.func34, Tryd.ntmps34
    go_wp2_with fail
    go_ret
    exact ⟨0, rfl, by omega, by omega, drawn_src HS.out, grown_of_below (Below.refl _ _) _⟩
  · by_cases h2 : (q : Int) < (m : Int)
    · obtain ⟨cb, off, b, hca, hcb, b0, b1, kb⟩ := HS.out.bytes q (by omega)
      subst hca
      go_enter Tryd.func34, Tryd.ntmps34
      go_wp2_with fail
      go_quiet (fail)
      go_wp2_with fail
      go_quiet (fail)
      go_wp2_with fail
      · go_ret
        refine ⟨_, rfl, Int.emod_nonneg _ (by omega), Int.emod_lt_of_pos _ (by omega), drawn_src (((HS.out.kept (bel_drewN (Below.refl _ _) _)).setAt' (m := q + 1) (by omega) (by omega)).setSeed (Int.emod_nonneg _ (by omega)) (Int.emod_lt_of_pos _ (by omega))),
          ((grown_of_below (bel_drewN (Below.refl _ _) _) _).trans (grown_set _ _ _ _)).trans (grown_set _ _ _ _)⟩
      · go_ret
        exact ⟨_, rfl, Int.emod_nonneg _ (by omega), Int.emod_lt_of_pos _ (by omega), drawn_src ((HS.out.kept (bel_drewN (Below.refl _ _) _)).setAt' (m := q + 1) (by omega) (by omega)),
          (grown_of_below (bel_drewN (Below.refl _ _) _) _).trans (grown_set _ _ _ _)⟩
    · go_enter Tryd.func34, Tryd.ntmps34
      go_wp2_with fail
      go_quiet (fail)
      go_wp2_with fail
      go_ret
      exact ⟨_, rfl, Int.emod_nonneg _ (by omega), Int.emod_lt_of_pos _ (by omega), drawn_src ((HS.out.kept (bel_drewN (Below.refl _ _) _)).setSeed (Int.emod_nonneg _ (by omega)) (Int.emod_lt_of_pos _ (by omega))),
        (grown_of_below (bel_drewN (Below.refl _ _) _) _).trans (grown_set _ _ _ _)⟩
/-- What a draw from a source leaves: the source goes on, nothing else has turned. -/
def Drawn (B g : Nat) (w w' : World) : Prop := IsSrc B w' g ∧ w.grownBy w' (some g)
theorem Drawn.trans {B g : Nat} {a b c : World} (h : Drawn B g a b) (k : Drawn B g b c) : Drawn B g a c := ⟨k.1, h.2.trans k.2⟩
theorem Drawn.refl {B g : Nat} {w : World} (h : IsSrc B w g) : Drawn B g w w := ⟨h, grown_of_below (Below.refl _ _) _⟩
theorem Drawn.more {B g : Nat} {a b c : World} (h : Drawn B g a b) (k : Below b.heap.size b c) : Drawn B g a c := ⟨h.1.kept k, h.2.trans (grown_of_below k _)⟩
theorem Drawn.alloc {B g : Nat} {a b : World} (h : Drawn B g a b) (o : Obj) : Drawn B g a (b.alloc o) := h.more (bel_alloc (Below.refl _ _) _)
theorem Drawn.drew {B g : Nat} {a b : World} (h : Drawn B g a b) : Drawn B g a b.drew := h.more (bel_drew (Below.refl _ _))
theorem Drawn.below {B g : Nat} {w0 w w' : World} (h : Drawn B g w w') (hb : Below B w0 w) (hB : B ≤ w.heap.size) : Below B w0 w' := below_src hb hB h.2 h.1.lo
theorem Drawn.set {B g b : Nat} {w w' : World} (h0 : IsSrc B w g) (h : Drawn B g w w') (hb : w.heap.size ≤ b) (j : Nat) (u : Value) : Drawn B g w (w'.setCell ⟨b, j, none⟩ u) := by
  obtain ⟨⟨ca, n, cc, q, seed, hs⟩, hg⟩ := h
  have hlt := h0.lt
  have hlo := h0.lo
  have hBb : B ≤ b := by omega
  have hbel : Below B w' (w'.setCell ⟨b, j, none⟩ u) := (Below.refl _ _).setCell hBb u
  refine ⟨⟨ca, n, cc, q, seed, hs.lo, hs.row.setOther (by simp; omega) u, hs.len, hs.at1, hs.s0, hs.s1, hs.bytes.below hbel (Nat.le_refl _)⟩, hg.os, hg.tape, hg.output, by have := hg.size; simpa [World.setCell] using this, fun k hk hne => ?_⟩
  rw [Below.heap_setCell _ _ _ _ (by simp; omega)]
  exact hg.block k hk hne
theorem grown_cell {g b j : Nat} {w w' : World} {v : Value} (hg : w.grownBy w' (some g)) (hne : b ≠ g) (h : w.cell? ⟨b, j, none⟩ = some v) : w'.cell? ⟨b, j, none⟩ = some v := hg.cell h (by simpa using hne)
theorem grown_frozen {g b j : Nat} {w w' : World} {v : Value} (hg : w.grownBy w' (some g)) (hne : b ≠ g) (h : w.cell? ⟨b, j, none⟩ = some v) (hf : w.frozen? ⟨b, j, none⟩ = false) : w'.frozen? ⟨b, j, none⟩ = false :=
  (World.frozen?_of_block (hg.block b (World.block_lt_of_cell? _ _ h) (by simpa using hne))).trans hf
theorem draw_next {B g : Nat} {n : Int} (hn : 1 ≤ n ∧ n ≤ 1000000) {w0 w : World} (h : Drawn B g w0 w) : Calls Tryd.prog 34 #[.pointer (some ⟨g, 0, none⟩), .int .i64 n] w
    fun e w' => ∃ v : Int, e = .returned (.int .i64 v) ∧ 0 ≤ v ∧ v < n ∧ Drawn B g w0 w' ∧ w.grownBy w' (some g) :=
  (spec_l01Next B g n hn w h.1).mono fun _ _ ⟨v, he, h0, h1, h2, h3⟩ => ⟨v, he, h0, h1, h.trans ⟨h2, h3⟩, h3⟩
theorem row_far {w1 w2 : World} {b g t n : Nat} {f : Nat → Value} (hr : w1.rowIs b t n f) (hg : w1.grownBy w2 (some g)) (hn : b ≠ g) : w2.rowIs b t n f := hr.of_block (hg.block _ hr.lt (by simpa using hn))
set_option maxRecDepth 100000 in
set_option maxHeartbeats 3200000 in
theorem spec_l01DrawTransform (B g : Nat) (w : World) (h : IsSrc B w g) : Calls Tryd.prog 25 #[.pointer (some ⟨g, 0, none⟩)] w
    fun e w' => ∃ o x y : Int, e = .returned (.agg #[.int .i64 o, .int .i64 x, .int .i64 y]) ∧ Drawn B g w w' := by
  have hd0 := (Drawn.refl h).alloc (.cells #[.int .i64 0, .int .i64 0, .int .i64 0] 25)
  have hlt := h.lt
  have hne : w.heap.size ≠ g := by omega
  have hr0 : (w.alloc (.cells #[.int .i64 0, .int .i64 0, .int .i64 0] 25)).rowIs w.heap.size 25 3 (fun _ => .int .i64 0) := World.rowIs_alloc w #[.int .i64 0, .int .i64 0, .int .i64 0] 25 _ fun i hi => by
    have : i = 0 ∨ i = 1 ∨ i = 2 := by simp at hi; omega
    rcases this with rfl | rfl | rfl <;> rfl
  go_enter Tryd.func25, Tryd.ntmps25
  go_wp2_with fail
  go_at_call 34
  refine (draw_next (by omega) hd0).mono ?_
  rintro e w1 ⟨v1, rfl, a1, b1, hd1, hg1⟩
  have hr1 := row_far hr0 hg1 hne
  clear hr0 hg1
  go_wp2_with fail
  go_at_call 34
  refine (draw_next (by omega) hd1).mono ?_
  rintro e w2 ⟨v2, rfl, a2, b2, hd2, hg2⟩
  have hr2 := row_far hr1 hg2 hne
  clear hr1 hg2
  go_wp2_with fail
  go_at_call 34
  refine (draw_next (by omega) hd2).mono ?_
  rintro e w3 ⟨v3, rfl, a3, b3, hd3, hg3⟩
  have hr3 := row_far hr2 hg3 hne
  clear hr2 hg3
  have hw3 := hd3.2.size
  have hd3a := hd3.alloc (.cells #[.int .i64 v1, .int .i64 (v2 - 12), .int .i64 (v3 - 12)] 25)
  have hr3a := hr3.alloc (.cells #[.int .i64 v1, .int .i64 (v2 - 12), .int .i64 (v3 - 12)] 25)
  have ht3 : (w3.alloc (.cells #[.int .i64 v1, .int .i64 (v2 - 12), .int .i64 (v3 - 12)] 25)).rowIs w3.heap.size 25 3 (fun i => if i = 0 then .int .i64 v1 else if i = 1 then .int .i64 (v2 - 12) else .int .i64 (v3 - 12)) := World.rowIs_alloc w3 #[.int .i64 v1, .int .i64 (v2 - 12), .int .i64 (v3 - 12)] 25 _ fun i hi => by
    have : i = 0 ∨ i = 1 ∨ i = 2 := by simp at hi; omega
    rcases this with rfl | rfl | rfl <;> rfl
  have hne3 : w3.heap.size ≠ g := by omega
  go_wp2_with fail
  go_at_call 34
  refine (draw_next (by omega) hd3a).mono ?_
  rintro e w4 ⟨v4, rfl, a4, b4, hd4, hg4⟩
  have hr4 := row_far hr3a hg4 hne
  have ht4 := row_far ht3 hg4 hne3
  clear hr3a ht3 hg4
  have c0 := ht4.cell (i := 0) (by omega)
  have c1 := ht4.cell (i := 1) (by omega)
  have c2 := ht4.cell (i := 2) (by omega)
  have d0 := hr4.cell (i := 0) (by omega)
  have d1 := hr4.cell (i := 1) (by omega)
  have d2 := hr4.cell (i := 2) (by omega)
  have e0 := hr4.frozen 0
  have e1 := hr4.frozen 1
  have e2 := hr4.frozen 2
  have HD4 := hide (And.intro hr4 ht4)
  clear hr4 ht4
  simp only [if_true, if_false, reduceCtorEq, Nat.one_ne_zero, Nat.reduceEqDiff] at c0 c1 c2
  by_cases z4 : v4 = 0
  · subst z4
    clear c0 c1 c2 d0 d1 d2 e0 e1 e2
    go_wp2_with fail
    go_at_call 34
    refine (draw_next (by omega) hd4).mono ?_
    rintro e w5 ⟨v5, rfl, a5, b5, hd5, hg5⟩
    have hr5 := row_far HD4.out.1 hg5 hne
    have ht5 := row_far HD4.out.2 hg5 hne3
    have c0 := ht5.cell (i := 0) (by omega)
    have c1 := ht5.cell (i := 1) (by omega)
    have c2 := ht5.cell (i := 2) (by omega)
    have f1 := ht5.frozen 1
    have d0 := hr5.cell (i := 0) (by omega)
    have d1 := hr5.cell (i := 1) (by omega)
    have d2 := hr5.cell (i := 2) (by omega)
    have e0 := hr5.frozen 0
    have e1 := hr5.frozen 1
    have e2 := hr5.frozen 2
    simp only [if_true, if_false, reduceCtorEq, Nat.one_ne_zero, Nat.reduceEqDiff] at c0 c1 c2
    have hnn : w.heap.size ≠ w3.heap.size := by have := HD4.out.1.lt; have := hr3.lt; omega
    clear hr5 ht5
    go_wp2_with fail
    refine bodyPost_ret (v := .agg #[.int .i64 (v1), .int .i64 (v5 - 80 - 1), .int .i64 (v3 - 12)]) (by first | (simp [results, Tryd.results25, go_sem, *]; done) | simp [results, Tryd.results25, go_sem, *, ↓IntWalk.iteOmega]) rfl ⟨_, _, _, rfl, ?_⟩
    repeat (refine Drawn.set h ?_ (by omega) _ _)
    exact hd5
  · go_wp2_with fail
    refine bodyPost_ret (v := .agg #[.int .i64 (v1), .int .i64 (v2 - 12), .int .i64 (v3 - 12)]) (by first | (simp [results, Tryd.results25, go_sem, *]; done) | simp [results, Tryd.results25, go_sem, *, ↓IntWalk.iteOmega]) rfl ⟨_, _, _, rfl, ?_⟩
    repeat (refine Drawn.set h ?_ (by omega) _ _)
    exact hd4
section
open Go.ChangeShapes Go.WideShapes Go.Deep
theorem bounds_u8 {n : Int} (h : (Lit.int .u8 n).wf = true) : 0 ≤ n ∧ n < 256 := by
  have hmin : IntKind.u8.min = 0 := rfl
  have hmax : IntKind.u8.max = 255 := rfl
  simp only [Lit.wf, Bool.and_eq_true, decide_eq_true_eq] at h
  omega
section
variable {H : Type} {enc : TypeId × Value → H} {P : Program} {w : World} {base : Nat} {spare : Nat → Bool} {held : Bool}
theorem open_bytes {t e : TypeId} {v : Value} {d : DataW H} {p : List MemPlace} (ht : P.underlying t = some (.slice e)) (hC : P.cellsOf e = 1) (he : P.underlying e = some (.int .u8))
    (hv : ∃ a n c, v = .slice a n c) (h : DataW.Trod enc P w base spare held t v d p) :
    ∃ (a : Option Addr) (n cap : Nat), v = .slice a n cap ∧ n ≤ maxLen ∧ InBytes w.heap.size w a n := by
  obtain ⟨fuel, hf⟩ := h
  obtain ⟨a0, n0, c0, rfl⟩ := hv
  have hcells : (Value.slice a0 n0 c0).cells.toList = [.slice a0 n0 c0] := rfl
  rw [hcells] at hf
  rcases open_slice1 ht hC hf with ⟨h0, _⟩ | ⟨a, len, cap, m, n, V, D, Pl, hcs, _, hl, hm, hmm, _, hi⟩
  · simp only [List.cons.injEq, and_true] at h0
    exact ⟨none, 0, 0, h0, by simp, fun i hi => by omega⟩
  · simp only [List.cons.injEq, and_true] at hcs
    have hle : len ≤ m := by rw [hmm]; split <;> omega
    refine ⟨some a, len, cap, hcs, by omega, fun i hil => ?_⟩
    obtain ⟨hc, htr⟩ := hi i (by omega)
    obtain ⟨z, hz, _, hw⟩ := DataW.trod_int he htr
    simp only [List.cons.injEq, and_true] at hz
    obtain ⟨z0, z1⟩ := bounds_u8 hw
    obtain ⟨g, off, spot⟩ := a
    have hspot : spot = none := by
      obtain ⟨hc', _⟩ := hi 0 (by omega)
      simpa [Addr.add] using World.cell?_spot hc'
    subst hspot
    rw [Addr.add_mid, hz] at hc
    exact ⟨g, off, z, rfl, World.block_lt_of_cell? _ _ hc, z0, z1, hc⟩
end
end
set_option maxRecDepth 100000 in
set_option maxHeartbeats 1600000 in
theorem spec_DrawFormatTransform (n cap : Nat) (a : Option Addr) (w : World) (h : InBytes w.heap.size w a n) (hn : n ≤ 5000) : Calls Tryd.prog 13 #[.slice a n cap] w
    fun e w' => ∃ o x y : Int, e = .returned (.agg #[.int .i64 o, .int .i64 x, .int .i64 y]) ∧ Below w.heap.size w w' := by
  have hb0 := bel_alloc (Below.refl w.heap.size w) (.cells #[.int .i64 0, .int .i64 0, .int .i64 0] 25)
  have hr0 : (w.alloc (.cells #[.int .i64 0, .int .i64 0, .int .i64 0] 25)).rowIs w.heap.size 25 3 (fun _ => .int .i64 0) := World.rowIs_alloc w #[.int .i64 0, .int .i64 0, .int .i64 0] 25 _ fun i hi => by
    have : i = 0 ∨ i = 1 ∨ i = 2 := by simp at hi; omega
    rcases this with rfl | rfl | rfl <;> rfl
  have h0 := bytes_at h hb0
  go_enter Tryd.func13, Tryd.ntmps13
  go_wp2_with fail
  generalize (w.alloc (.cells #[.int .i64 0, .int .i64 0, .int .i64 0] 25)) = w0 at *
  go_at_call 24
  refine (spec_l01From n cap a w0 h0 hn).mono ?_
  rintro e w1 ⟨g, rfl, hs, hb1⟩
  have hlo := hs.lo
  have hlt0 := hr0.lt
  have hr1 := rowIs_kept hr0 hb1
  have hne : w.heap.size ≠ g := by omega
  have hw1 := hb1.size
  go_wp2_with fail
  go_at_call 25
  refine (spec_l01DrawTransform w0.heap.size g w1 hs).mono ?_
  rintro e w2 ⟨o, x, y, rfl, hd2⟩
  have hr2 := row_far hr1 hd2.2 hne
  have c0 := hr2.cell (i := 0) (by omega)
  have c1 := hr2.cell (i := 1) (by omega)
  have c2 := hr2.cell (i := 2) (by omega)
  have e0 := hr2.frozen 0
  have e1 := hr2.frozen 1
  have e2 := hr2.frozen 2
  have hbl : Below w.heap.size w w2 := below_src (hb0.trans (hb1.mono hb0.size)) (by omega) hd2.2 (by omega)
  clear hr0 hr1 hr2
  go_wp2_with fail
  refine bodyPost_ret (v := .agg #[.int .i64 (o), .int .i64 (x), .int .i64 (y)]) (by first | (simp [results, Tryd.results13, go_sem, *]; done) | simp [results, Tryd.results13, go_sem, *, ↓IntWalk.iteOmega]) rfl ⟨o, x, y, rfl, (by repeat (first | with_reducible exact Below.refl _ _ | with_reducible assumption | with_reducible refine bel_alloc ?_ _ | with_reducible refine bel_drew ?_ | with_reducible refine bel_drewN ?_ _ | with_reducible refine bel_set ?_ (by (try simp) <;> omega) _ | with_reducible refine bel_trans ?_ (by assumption)))⟩
end Go.Proofs.YtldgjocjcbhkmabDoor
