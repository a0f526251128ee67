/- Contracts of the plain functions on rectangles and transforms: what each returns, for all arguments. No condition. -/
import Derived.Test.YtljjillfdjcjiaaChecked
import Derived.Test.YtljjillfdjcjiaaFrame
import Derived.WalkKit
import Derived.WalkSpells
import Derived.WalkLawsBesides
import Derived.KernelRfl
namespace Go.Proofs.Ytljjillfdjcjiaa
open Go.RowKit

theorem bcell {W w1 : World} (hb : Below W.heap.size W w1) : (∀ b o, b < W.heap.size → w1.cell? ⟨b, o, none⟩ = W.cell? ⟨b, o, none⟩) ∧ (∀ b o, b < W.heap.size → w1.frozen? ⟨b, o, none⟩ = W.frozen? ⟨b, o, none⟩) :=
  ⟨fun b o h => hb.cell (p := ⟨b, o, none⟩) h, fun b o h => hb.frozen (p := ⟨b, o, none⟩) h⟩
theorem bel_alloc {a w : World} (h : Below a.heap.size a w) (o : Obj) : Below a.heap.size a (w.alloc o) := h.alloc h.size o
theorem bel_drew {a w : World} (h : Below a.heap.size a w) : Below a.heap.size a w.drew := h.drew
theorem bel_drewN {a w : World} (h : Below a.heap.size a w) (n : Nat) : Below a.heap.size a (w.drewN n) := ⟨h.os, h.tape, h.output, h.size, h.block⟩
theorem bel_set {a w : World} (h : Below a.heap.size a w) {p : Addr} (hp : a.heap.size ≤ p.block) (u : Value) : Below a.heap.size a (w.setCell p u) := h.setCell hp u
theorem bel_trans {a w w' : World} (h : Below a.heap.size a w) (k : Below w.heap.size w w') : Below a.heap.size a w' := h.trans (k.mono h.size)
theorem sz1 {n m : Nat} (h : n + 1 ≤ m) : n < m := h
theorem sz2 {n m : Nat} (h : n + 2 ≤ m) : n < m ∧ n + 1 < m := by omega
theorem sz3 {n m : Nat} (h : n + 3 ≤ m) : n < m ∧ n + 1 < m ∧ n + 1 + 1 < m := by omega
theorem sz4 {n m : Nat} (h : n + 4 ≤ m) : n < m ∧ n + 1 < m ∧ n + 1 + 1 < m ∧ n + 1 + 1 + 1 < m := by omega
theorem sz5 {n m : Nat} (h : n + 5 ≤ m) : n < m ∧ n + 1 < m ∧ n + 1 + 1 < m ∧ n + 1 + 1 + 1 < m ∧ n + 1 + 1 + 1 + 1 < m := by omega
theorem sz6 {n m : Nat} (h : n + 6 ≤ m) : n < m ∧ n + 1 < m ∧ n + 1 + 1 < m ∧ n + 1 + 1 + 1 < m ∧ n + 1 + 1 + 1 + 1 < m ∧ n + 1 + 1 + 1 + 1 + 1 < m := by omega
theorem retb {b c : Bool} (h : b = true ↔ c = true) : Ending.returned (.bool b) = .returned (.bool c) := by rw [Bool.eq_iff_iff.2 h]
theorem reti {k : IntKind} {a b : Int} (h : a = b) : Ending.returned (.int k a) = .returned (.int k b) := by rw [h]

def vRect (x0 y0 x1 y1 : Int) : Bool := decide (-40 ≤ x0) && decide (x0 < x1) && decide (x1 ≤ 40) && decide (-40 ≤ y0) && decide (y0 < y1) && decide (y1 ≤ 40)

set_option maxHeartbeats 400000 in
theorem impl_IsValidRect (x0 y0 x1 y1 : Int) (w : World) :
    Calls Try.prog 17 #[.agg #[.int .i64 x0, .int .i64 y0, .int .i64 x1, .int .i64 y1]] w fun e w' => e = .returned (.bool (vRect x0 y0 x1 y1)) ∧ Below w.heap.size w w' := by
  go_enter Try.func17, Try.ntmps17
  go_wp2
  all_goals (go_ret; exact ⟨retb (by simp [vRect] <;> omega), (by repeat (first | exact Below.refl _ _ | assumption | refine bel_alloc ?_ _ | refine bel_drew ?_ | refine bel_drewN ?_ _ | refine bel_set ?_ (by simp; omega) _ | refine bel_trans ?_ (by assumption)))⟩)

set_option maxHeartbeats 400000 in
theorem spec_IsValidRect (x0 y0 x1 y1 : Int) (w : World) :
    Calls Try.prog 15 #[.agg #[.int .i64 x0, .int .i64 y0, .int .i64 x1, .int .i64 y1]] w fun e w' => e = .returned (.bool (vRect x0 y0 x1 y1)) ∧ Below w.heap.size w w' := by
  go_enter Try.func15, Try.ntmps15
  go_wp2
  all_goals (go_ret; exact ⟨retb (by simp [vRect] <;> omega), (by repeat (first | exact Below.refl _ _ | assumption | refine bel_alloc ?_ _ | refine bel_drew ?_ | refine bel_drewN ?_ _ | refine bel_set ?_ (by simp; omega) _ | refine bel_trans ?_ (by assumption)))⟩)

set_option maxHeartbeats 400000 in
theorem laws_toRect (x0 y0 x1 y1 : Int) (w : World) :
    Calls Try.prog 16 #[.agg #[.int .i64 x0, .int .i64 y0, .int .i64 x1, .int .i64 y1]] w fun e w' => e = .returned (.agg #[.int .i64 x0, .int .i64 y0, .int .i64 x1, .int .i64 y1]) ∧ Below w.heap.size w w' := by
  go_enter Try.func16, Try.ntmps16
  go_wp2
  refine bodyPost_ret (v := .agg #[.int .i64 x0, .int .i64 y0, .int .i64 x1, .int .i64 y1]) (by simp [results, Try.results16, go_sem]) rfl ⟨rfl, (by repeat (first | exact Below.refl _ _ | assumption | refine bel_alloc ?_ _ | refine bel_drew ?_ | refine bel_drewN ?_ _ | refine bel_set ?_ (by simp; omega) _ | refine bel_trans ?_ (by assumption)))⟩

set_option maxHeartbeats 400000 in
theorem laws_FnExactIsValidRect (x0 y0 x1 y1 : Int) (w : World) :
    Calls Try.prog 4 #[.agg #[.int .i64 x0, .int .i64 y0, .int .i64 x1, .int .i64 y1]] w fun e w' => e = .returned (.bool true) ∧ Below w.heap.size w w' := by
  go_enter Try.func4, Try.ntmps4
  go_wp2_with (first
    | (go_at_call 16; refine (laws_toRect _ _ _ _ _).mono ?_; rintro e w1 ⟨rfl, hb⟩; obtain ⟨hc, hf⟩ := bcell hb; have hz := sz1 (show w.heap.size + 1 ≤ w1.heap.size by have := hb.size; (try simp at this); omega))
    | (go_at_call 15; refine (spec_IsValidRect _ _ _ _ _).mono ?_; rintro e w1 ⟨rfl, hb⟩; obtain ⟨hc, hf⟩ := bcell hb; have hz := sz1 (show w.heap.size + 1 ≤ w1.heap.size by have := hb.size; (try simp at this); omega))
    | (go_at_call 17; refine (impl_IsValidRect _ _ _ _ _).mono ?_; rintro e w1 ⟨rfl, hb⟩; obtain ⟨hc, hf⟩ := bcell hb; have hz := sz1 (show w.heap.size + 1 ≤ w1.heap.size by have := hb.size; (try simp at this); omega)))
  all_goals (go_ret; exact ⟨rfl, (by repeat (first | exact Below.refl _ _ | assumption | refine bel_alloc ?_ _ | refine bel_drew ?_ | refine bel_drewN ?_ _ | refine bel_set ?_ (by simp; omega) _ | refine bel_trans ?_ (by assumption)))⟩)
end Go.Proofs.Ytljjillfdjcjiaa
