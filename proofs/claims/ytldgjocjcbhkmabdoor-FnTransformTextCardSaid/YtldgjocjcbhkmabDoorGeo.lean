/- Contracts of the plain functions on points, transforms, rectangles and edges: what each returns, for all arguments. No condition but the bounds that are written. -/
import Derived.Test.YtldgjocjcbhkmabDoorChecked
import Derived.Test.YtldgjocjcbhkmabDoorFrame
import Derived.WalkKit
import Derived.WalkSpells
import Derived.WalkLawsBesides
import Derived.KernelRfl
import Derived.Deep.QuietTactic
import Derived.BigQuiet
import Derived.RegionTactic
import Derived.BigRegion
import Derived.Deep.RegionHeld3
namespace Go.Proofs.YtldgjocjcbhkmabDoor
open Go.RowKit

theorem bcell {W w1 : World} (hb : Below W.heap.size W w1) : (∀ b o, b < W.heap.size → w1.cell? ⟨b, o, none⟩ = W.cell? ⟨b, o, none⟩) ∧ (∀ b o, b < W.heap.size → w1.frozen? ⟨b, o, none⟩ = W.frozen? ⟨b, o, none⟩) :=
  ⟨fun b o h => hb.cell (p := ⟨b, o, none⟩) h, fun b o h => hb.frozen (p := ⟨b, o, none⟩) h⟩
theorem bel_alloc {a w : World} (h : Below a.heap.size a w) (o : Obj) : Below a.heap.size a (w.alloc o) := h.alloc h.size o
theorem bel_drew {a w : World} (h : Below a.heap.size a w) : Below a.heap.size a w.drew := h.drew
theorem bel_drewN {a w : World} (h : Below a.heap.size a w) (n : Nat) : Below a.heap.size a (w.drewN n) := ⟨h.os, h.tape, h.output, h.size, h.block⟩
theorem bel_set {a w : World} (h : Below a.heap.size a w) {p : Addr} (hp : a.heap.size ≤ p.block) (u : Value) : Below a.heap.size a (w.setCell p u) := h.setCell hp u
theorem bel_trans {a w w' : World} (h : Below a.heap.size a w) (k : Below w.heap.size w w') : Below a.heap.size a w' := h.trans (k.mono h.size)
theorem bcell3 {W w1 : World} (hb : Below W.heap.size W w1) : (∀ b o, b < W.heap.size → w1.cell? ⟨b, o, none⟩ = W.cell? ⟨b, o, none⟩) ∧ (∀ b o, b < W.heap.size → w1.frozen? ⟨b, o, none⟩ = W.frozen? ⟨b, o, none⟩) ∧ (∀ k, k < W.heap.size → k < w1.heap.size) :=
  ⟨fun b o h => hb.cell (p := ⟨b, o, none⟩) h, fun b o h => hb.frozen (p := ⟨b, o, none⟩) h, fun _ h => Nat.lt_of_lt_of_le h hb.size⟩
/-- The rule that the walk uses by itself: its tests are decided by linear arithmetic. -/
theorem bcellI {W w1 : World} (hb : Below W.heap.size W w1) : ∃ (f : Nat → Nat → Option Value) (f2 : Nat → Nat → Bool),
    (∀ b o, w1.cell? ⟨b, o, none⟩ = if b < W.heap.size then W.cell? ⟨b, o, none⟩ else f b o) ∧ (∀ b o, w1.frozen? ⟨b, o, none⟩ = if b < W.heap.size then W.frozen? ⟨b, o, none⟩ else f2 b o) := by
  refine ⟨fun b o => w1.cell? ⟨b, o, none⟩, fun b o => w1.frozen? ⟨b, o, none⟩, fun b o => ?_, fun b o => ?_⟩
  · by_cases h : b < W.heap.size
    · rw [if_pos h]; exact hb.cell (p := ⟨b, o, none⟩) h
    · rw [if_neg h]
  · by_cases h : b < W.heap.size
    · rw [if_pos h]; exact hb.frozen (p := ⟨b, o, none⟩) h
    · rw [if_neg h]
def rawCell (w : World) (n i : Nat) : Option Value := w.cell? ⟨n, i, none⟩
def rawFrozen (w : World) (n i : Nat) : Bool := w.frozen? ⟨n, i, none⟩
theorem cell_alloc_ite (w : World) (o : Obj) (n i : Nat) : (w.alloc o).cell? ⟨n, i, none⟩ = if n < w.heap.size then w.cell? ⟨n, i, none⟩ else rawCell (w.alloc o) n i := by
  by_cases h : n < w.heap.size
  · rw [if_pos h]; exact World.cell?_alloc_lt w o ⟨n, i, none⟩ h
  · rw [if_neg h, rawCell]
theorem frozen_alloc_ite (w : World) (o : Obj) (n i : Nat) : (w.alloc o).frozen? ⟨n, i, none⟩ = if n < w.heap.size then w.frozen? ⟨n, i, none⟩ else rawFrozen (w.alloc o) n i := by
  by_cases h : n < w.heap.size
  · rw [if_pos h]; exact World.frozen?_alloc_old w o ⟨n, i, none⟩ (by simp; omega)
  · rw [if_neg h, rawFrozen]
theorem keep_alloc {w : World} {b o : Nat} {v : Value} (h : w.cell? ⟨b, o, none⟩ = some v) (x : Obj) : (w.alloc x).cell? ⟨b, o, none⟩ = some v :=
  (World.cell?_alloc_lt w x ⟨b, o, none⟩ (World.block_lt_of_cell? _ _ h)).trans h
theorem keep_drew {w : World} {b o : Nat} {v : Value} (h : w.cell? ⟨b, o, none⟩ = some v) : w.drew.cell? ⟨b, o, none⟩ = some v := h
theorem keep_set {w : World} {b o : Nat} {v : Value} (h : w.cell? ⟨b, o, none⟩ = some v) {p : Addr} (u : Value) (hp : b ≠ p.block) : (w.setCell p u).cell? ⟨b, o, none⟩ = some v :=
  (World.cell?_setCell_other w p ⟨b, o, none⟩ u (fun e => hp (by rw [e]))).trans h
theorem keep_cell {W w1 : World} (hb : Below W.heap.size W w1) {b o : Nat} {v : Value} (h : W.cell? ⟨b, o, none⟩ = some v) : w1.cell? ⟨b, o, none⟩ = some v :=
  (hb.cell (p := ⟨b, o, none⟩) (World.block_lt_of_cell? _ _ h)).trans h
theorem hide {p : Prop} (h : p) : Hid p := h
theorem sz1 {n m : Nat} (h : n + 1 ≤ m) : n < m := h
theorem sz2 {n m : Nat} (h : n + 2 ≤ m) : n < m ∧ n + 1 < m := by omega
theorem sz3 {n m : Nat} (h : n + 3 ≤ m) : n < m ∧ n + 1 < m ∧ n + 1 + 1 < m := by omega
theorem sz4 {n m : Nat} (h : n + 4 ≤ m) : n < m ∧ n + 1 < m ∧ n + 1 + 1 < m ∧ n + 1 + 1 + 1 < m := by omega
theorem sz5 {n m : Nat} (h : n + 5 ≤ m) : n < m ∧ n + 1 < m ∧ n + 1 + 1 < m ∧ n + 1 + 1 + 1 < m ∧ n + 1 + 1 + 1 + 1 < m := by omega
theorem sz6 {n m : Nat} (h : n + 6 ≤ m) : n < m ∧ n + 1 < m ∧ n + 1 + 1 < m ∧ n + 1 + 1 + 1 < m ∧ n + 1 + 1 + 1 + 1 < m ∧ n + 1 + 1 + 1 + 1 + 1 < m := by omega
theorem retb {b c : Bool} (h : b = true ↔ c = true) : Ending.returned (.bool b) = .returned (.bool c) := by rw [Bool.eq_iff_iff.2 h]
theorem reti {k : IntKind} {a b : Int} (h : a = b) : Ending.returned (.int k a) = .returned (.int k b) := by rw [h]
theorem quiet_left {P : Program} {f : FuncId} {args : Array Value} {w : World} {n : Nat} {v : Value}
    (h : Calls P f args (w.drewN n) fun e w' => e = .returned v ∧ w.drewN n = w') : Calls P f args (w.drewN n) fun e w' => e = .returned v ∧ ∃ m, w' = w.drewN m :=
  h.mono fun _ _ ⟨he, hm⟩ => ⟨he, n, hm.symm⟩
theorem quiet_add_left {P : Program} {f : FuncId} {args : Array Value} {w : World} {a n : Nat} {v : Value}
    (h : Calls P f args (w.drewN (a + n)) fun e w' => e = .returned v ∧ w.drewN (a + n) = w') :
    Calls P f args (w.drewN (a + n)) fun e w'' => e = .returned v ∧ ∃ m, w'' = w.drewN (a + m) :=
  h.mono fun _ _ ⟨he, hm⟩ => ⟨he, n, hm.symm⟩
theorem ret2i {k : IntKind} {a b c d : Int} (h1 : a = c) (h2 : b = d) : Ending.returned (.tuple #[.int k a, .int k b]) = .returned (.tuple #[.int k c, .int k d]) := by rw [h1, h2]
theorem run_max2 {P : Program} (w : World) (ts : Array TypeId) (t : TypeId) (x y : Int) : (Builtin.max_ ts t #[.int .i64 x, .int .i64 y]).run P w = .ok (.int .i64 (max x y)) w := by
  rw [run_max_int2]; congr 2; omega
theorem run_min2 {P : Program} (w : World) (ts : Array TypeId) (t : TypeId) (x y : Int) : (Builtin.min_ ts t #[.int .i64 x, .int .i64 y]).run P w = .ok (.int .i64 (min x y)) w := by
  rw [run_min_int2]; congr 2; omega
theorem run_max3 {P : Program} (w : World) (ts : Array TypeId) (t : TypeId) (x y z : Int) : (Builtin.max_ ts t #[.int .i64 x, .int .i64 y, .int .i64 z]).run P w = .ok (.int .i64 (max (max x y) z)) w := by
  rw [run_max_int3]; congr 2; omega
theorem run_max4 {P : Program} (w : World) (ts : Array TypeId) (t : TypeId) (x y z u : Int) : (Builtin.max_ ts t #[.int .i64 x, .int .i64 y, .int .i64 z, .int .i64 u]).run P w = .ok (.int .i64 (max (max (max x y) z) u)) w := by
  simp [Builtin.max_, Builtin.max2]; omega
attribute [local go_sem high] run_max2 run_min2 run_max3 run_max4

/-! ### ranges, validity -/
def inR (n lo hi : Int) : Bool := decide (lo ≤ n) && decide (n ≤ hi)
theorem inR_iff {n lo hi : Int} : inR n lo hi = true ↔ lo ≤ n ∧ n ≤ hi := by simp [inR]
def vTr (o x y : Int) : Bool := inR o 0 7 && inR x (-80) 80 && inR y (-80) 80
theorem vTr_iff {o x y : Int} : vTr o x y = true ↔ (0 ≤ o ∧ o ≤ 7) ∧ (-80 ≤ x ∧ x ≤ 80) ∧ (-80 ≤ y ∧ y ≤ 80) := by simp [vTr, inR, and_assoc]
def vPt (x y : Int) : Bool := inR x (-40) 40 && inR y (-40) 40
theorem vPt_iff {x y : Int} : vPt x y = true ↔ (-40 ≤ x ∧ x ≤ 40) ∧ (-40 ≤ y ∧ y ≤ 40) := by simp [vPt, inR]
def vCell (x y : Int) : Bool := inR x (-40) 39 && inR y (-40) 39
theorem vCell_iff {x y : Int} : vCell x y = true ↔ (-40 ≤ x ∧ x ≤ 39) ∧ (-40 ≤ y ∧ y ≤ 39) := by simp [vCell, inR]
def vRect (x0 y0 x1 y1 : Int) : Bool := decide (-40 ≤ x0) && decide (x0 < x1) && decide (x1 ≤ 40) && decide (-40 ≤ y0) && decide (y0 < y1) && decide (y1 ≤ 40)
theorem vRect_iff {x0 y0 x1 y1 : Int} : vRect x0 y0 x1 y1 = true ↔ -40 ≤ x0 ∧ x0 < x1 ∧ x1 ≤ 40 ∧ -40 ≤ y0 ∧ y0 < y1 ∧ y1 ≤ 40 := by simp [vRect, and_assoc]

set_option maxRecDepth 100000 in
set_option maxHeartbeats 400000 in
theorem impl_within (n lo hi : Int) (w : World) : Calls Tryd.prog 30 #[.int .i64 n, .int .i64 lo, .int .i64 hi] w fun e w' => e = .returned (.bool (inR n lo hi)) ∧ w = w' := by
  go_enter Tryd.func30, Tryd.ntmps30
  go_wp2
  all_goals (go_ret; exact ⟨retb (by simp [inR] <;> omega), rfl⟩)
set_option maxRecDepth 100000 in
set_option maxHeartbeats 400000 in
theorem spec_l01In (n lo hi : Int) (w : World) : Calls Tryd.prog 26 #[.int .i64 n, .int .i64 lo, .int .i64 hi] w fun e w' => e = .returned (.bool (inR n lo hi)) ∧ w = w' := by
  go_enter Tryd.func26, Tryd.ntmps26
  go_wp2
  all_goals (go_ret; exact ⟨retb (by simp [inR] <;> omega), rfl⟩)
set_option maxRecDepth 100000 in
set_option maxHeartbeats 400000 in
theorem impl_IsValidTransform (t0 t1 t2 : Int) (w : World) : Calls Tryd.prog 18 #[.agg #[.int .i64 t0, .int .i64 t1, .int .i64 t2]] w fun e w' => e = .returned (.bool (vTr t0 t1 t2)) ∧ Below w.heap.size w w' := by
  go_enter Tryd.func18, Tryd.ntmps18
  go_wp2_with (go_at_call 30; refine (impl_within _ _ _ _).mono ?_; rintro e w' ⟨rfl, rfl⟩)
  all_goals (go_ret; exact ⟨retb (by simp [vTr, *]), (by repeat (first | with_reducible exact Below.refl _ _ | with_reducible assumption | with_reducible refine bel_alloc ?_ _ | with_reducible refine bel_drew ?_ | with_reducible refine bel_drewN ?_ _ | with_reducible refine bel_set ?_ (by (try simp) <;> omega) _ | with_reducible refine bel_trans ?_ (by assumption)))⟩)
set_option maxRecDepth 100000 in
set_option maxHeartbeats 400000 in
theorem spec_IsValidTransform (t0 t1 t2 : Int) (w : World) : Calls Tryd.prog 14 #[.agg #[.int .i64 t0, .int .i64 t1, .int .i64 t2]] w fun e w' => e = .returned (.bool (vTr t0 t1 t2)) ∧ Below w.heap.size w w' := by
  go_enter Tryd.func14, Tryd.ntmps14
  go_wp2_with (go_at_call 26; refine (spec_l01In _ _ _ _).mono ?_; rintro e w' ⟨rfl, rfl⟩)
  all_goals (go_ret; exact ⟨retb (by simp [vTr, *]), (by repeat (first | with_reducible exact Below.refl _ _ | with_reducible assumption | with_reducible refine bel_alloc ?_ _ | with_reducible refine bel_drew ?_ | with_reducible refine bel_drewN ?_ _ | with_reducible refine bel_set ?_ (by (try simp) <;> omega) _ | with_reducible refine bel_trans ?_ (by assumption)))⟩)
set_option maxRecDepth 100000 in
set_option maxHeartbeats 400000 in
theorem impl_onChip (p0 p1 : Int) (w : World) : Calls Tryd.prog 27 #[.agg #[.int .i64 p0, .int .i64 p1]] w fun e w' => e = .returned (.bool (vPt p0 p1)) ∧ Below w.heap.size w w' := by
  go_enter Tryd.func27, Tryd.ntmps27
  go_wp2_with (go_at_call 30; refine (impl_within _ _ _ _).mono ?_; rintro e w' ⟨rfl, rfl⟩)
  all_goals (go_ret; exact ⟨retb (by simp [vPt, *]), (by repeat (first | with_reducible exact Below.refl _ _ | with_reducible assumption | with_reducible refine bel_alloc ?_ _ | with_reducible refine bel_drew ?_ | with_reducible refine bel_drewN ?_ _ | with_reducible refine bel_set ?_ (by (try simp) <;> omega) _ | with_reducible refine bel_trans ?_ (by assumption)))⟩)

/-! ### the laws' copies and comparisons -/
set_option maxRecDepth 100000 in
set_option maxHeartbeats 400000 in
theorem laws_toTransform (x0 x1 x2 : Int) (w : World) : Calls Tryd.prog 7 #[.agg #[.int .i64 x0, .int .i64 x1, .int .i64 x2]] w fun e w' => e = .returned (.agg #[.int .i64 x0, .int .i64 x1, .int .i64 x2]) ∧ Below w.heap.size w w' := by
  go_enter Tryd.func7, Tryd.ntmps7
  go_wp2
  refine bodyPost_ret (v := .agg #[.int .i64 x0, .int .i64 x1, .int .i64 x2]) (by simp [results, Tryd.results7, go_sem]) rfl ⟨rfl, (by repeat (first | with_reducible exact Below.refl _ _ | with_reducible assumption | with_reducible refine bel_alloc ?_ _ | with_reducible refine bel_drew ?_ | with_reducible refine bel_drewN ?_ _ | with_reducible refine bel_set ?_ (by (try simp) <;> omega) _ | with_reducible refine bel_trans ?_ (by assumption)))⟩
set_option maxRecDepth 100000 in
set_option maxHeartbeats 400000 in
theorem laws_eqTransform (x0 x1 x2 : Int) (w : World) : Calls Tryd.prog 11 #[.agg #[.int .i64 x0, .int .i64 x1, .int .i64 x2], .agg #[.int .i64 x0, .int .i64 x1, .int .i64 x2]] w fun e w' => e = .returned (.bool true) ∧ Below w.heap.size w w' := by
  go_enter Tryd.func11, Tryd.ntmps11
  go_wp2
  all_goals (go_ret; exact ⟨rfl, (by repeat (first | with_reducible exact Below.refl _ _ | with_reducible assumption | with_reducible refine bel_alloc ?_ _ | with_reducible refine bel_drew ?_ | with_reducible refine bel_drewN ?_ _ | with_reducible refine bel_set ?_ (by (try simp) <;> omega) _ | with_reducible refine bel_trans ?_ (by assumption)))⟩)

/-! ### rectangles -/
def contB (x0 y0 x1 y1 x y : Int) : Bool := vRect x0 y0 x1 y1 && decide (x0 ≤ x) && decide (x < x1) && decide (y0 ≤ y) && decide (y < y1)
def overB (a0 a1 a2 a3 b0 b1 b2 b3 : Int) : Bool := vRect a0 a1 a2 a3 && vRect b0 b1 b2 b3 && decide (max a0 b0 < min a2 b2) && decide (max a1 b1 < min a3 b3)
theorem overB_common {a0 a1 a2 a3 b0 b1 b2 b3 : Int} (h1 : vRect a0 a1 a2 a3 = true) (h2 : vRect b0 b1 b2 b3 = true) : vRect (max a0 b0) (max a1 b1) (min a2 b2) (min a3 b3) = true ↔ overB a0 a1 a2 a3 b0 b1 b2 b3 = true := by
  have := vRect_iff.1 h1; have := vRect_iff.1 h2
  simp [vRect_iff, overB, h1, h2]; omega
end Go.Proofs.YtldgjocjcbhkmabDoor
