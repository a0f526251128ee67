/- Contracts: does one region cover another one? -/
import Derived.Test.YtldgjocjcbhkmabRegO
namespace Go.Proofs.Ytldgjocjcbhkmab
open Go.RowKit
attribute [local go_sem low] cell_alloc_ite frozen_alloc_ite

def covG (g : Grid) (l : List Rc) : Bool := l.all fun r => (List.range 80).all fun i => (List.range 80).all fun k => !r.has i k || g i k
theorem covG_iff {g : Grid} {l : List Rc} : covG g l = true ↔ ∀ r ∈ l, ∀ i k, i < 80 → k < 80 → r.has i k = true → g i k = true := by
  simp only [covG, List.all_eq_true, List.mem_range, Bool.or_eq_true, Bool.not_eq_true']
  constructor
  · intro h r hr i k hi hk hh
    rcases h r hr i hi k hk with h' | h'
    · rw [hh] at h'; cases h'
    · exact h'
  · intro h r hr i hi k hk
    cases hh : r.has i k
    · exact .inl rfl
    · exact .inr (h r hr i k hi hk hh)
theorem covG_bits {g : Grid} {l : List Rc} : covG g l = true ↔ sub (bitsOf l) g := by
  rw [covG_iff]
  constructor
  · intro h i k hi hk hb
    obtain ⟨r, hr, hh⟩ := List.any_eq_true.1 hb
    exact h r hr i k hi hk hh
  · intro h r hr i k hi hk hh
    exact h i k hi hk (List.any_eq_true.2 ⟨r, hr, hh⟩)
def covR (l m : List Rc) : Bool := isReg l && isReg m && covG (bitsOf l) m
theorem diff_nil {g h : Grid} : regionL (opG 4 g h) = [] ↔ sub g h := by
  rw [regionL_nil]
  constructor
  · intro e i j hi hj hg
    have := e i j hi hj
    rw [opG, opB_diff, hg] at this
    simpa using this
  · intro e i j hi hj
    rw [opG, opB_diff]
    cases hg : g i j
    · rfl
    · rw [e i j hi hj hg]; rfl
theorem covR_reg {l m : List Rc} (h : isReg l = true) (h' : isReg m = true) : covR l m = decide ((regionL (opG 4 (bitsOf m) (bitsOf l))).length = 0) := by
  rw [covR, h, h', Bool.true_and, Bool.true_and, Bool.eq_iff_iff, covG_bits, decide_eq_true_eq, List.length_eq_zero_iff, diff_nil]
set_option maxRecDepth 100000 in
set_option maxHeartbeats 800000 in
theorem impl_has (g : Grid) (b t : Nat) (x y : Int) (w : World) (hrow : w.rowIs b t 6400 (gv g)) : Calls Try.prog 48 #[.pointer (some ⟨b, 0, none⟩), .int .i64 x, .int .i64 y] w fun e w' => e = .returned (.bool (hasI g x y)) ∧ Below w.heap.size w w' := by
  cases hv : vCell x y
  · have hr : hasI g x y = false := by
      rw [show hasI g x y = (vCell x y && g (y + 40).toNat (x + 40).toNat) from rfl, hv]; rfl
    rw [hr]
    go_enter Try.func48, Try.ntmps48
    go_wp2_with (go_at_call 64; refine (impl_isUnitCell _ _ _).mono ?_; rintro e w1 ⟨rfl, hb1⟩)
    go_ret
    exact ⟨rfl, hb1⟩
  · have hr : hasI g x y = g (y + 40).toNat (x + 40).toNat := by
      rw [show hasI g x y = (vCell x y && g (y + 40).toNat (x + 40).toNat) from rfl, hv]; rfl
    rw [hr]
    have hvi := vCell_iff.1 hv
    obtain ⟨k, hk⟩ : ∃ k : Nat, x = (k : Int) - 40 := ⟨(x + 40).toNat, by omega⟩
    obtain ⟨i, hi⟩ : ∃ i : Nat, y = (i : Int) - 40 := ⟨(y + 40).toNat, by omega⟩
    subst hk
    subst hi
    rw [show ((i : Int) - 40 + 40).toNat = i from by omega, show ((k : Int) - 40 + 40).toNat = k from by omega]
    have hi : i < 80 := by omega
    have hk : k < 80 := by omega
    clear hr
    go_enter Try.func48, Try.ntmps48
    go_wp2_with (go_at_call 64; refine (impl_isUnitCell _ _ _).mono ?_; rintro e w1 ⟨rfl, hb1⟩; have hc1 := (rowIs_kept hrow hb1).cell (i := i * 80 + k) (by omega); rw [gv_at g hk] at hc1)
    go_ret
    exact ⟨rfl, hb1⟩
end Go.Proofs.Ytldgjocjcbhkmab
