/- Contracts: flags combined; do two regions overlap, does one cover the other? -/
import Derived.Test.YtldgjocjcbhkmabRegF
import Derived.Test.YtldgjocjcbhkmabRegG
import Derived.Deep.RegionHeld3
namespace Go.Proofs.Ytldgjocjcbhkmab
open Go.RowKit
attribute [local go_sem low] cell_alloc_ite frozen_alloc_ite

def opB (op : Int) : Bool → Bool → Bool
  | true, true => op / 8 % 2 == 1
  | true, false => op / 4 % 2 == 1
  | false, true => op / 2 % 2 == 1
  | false, false => op % 2 == 1
def opG (op : Int) (g h : Grid) : Grid := fun i k => opB op (g i k) (h i k)
theorem opB_or (p q : Bool) : opB 14 p q = (p || q) := by cases p <;> cases q <;> rfl
theorem opB_and (p q : Bool) : opB 8 p q = (p && q) := by cases p <;> cases q <;> rfl
theorem opB_diff (p q : Bool) : opB 4 p q = (p && !q) := by cases p <;> cases q <;> rfl
theorem opB_xor (p q : Bool) : opB 6 p q = (p != q) := by cases p <;> cases q <;> rfl
theorem opB_nor (p q : Bool) : opB 1 p q = (!p && !q) := by cases p <;> cases q <;> rfl
/-! ### overlaps -/
def overR (l m : List Rc) : Bool := isReg l && isReg m && meetL l m
theorem overR_reg {l m : List Rc} (h : isReg l = true) (h' : isReg m = true) : overR l m = decide ((regionL (opG 8 (bitsOf l) (bitsOf m))).length > 0) := by
  rw [overR, h, h', Bool.true_and, Bool.true_and, Bool.eq_iff_iff, meetL_iff (isReg_iff.1 h).2.1 (isReg_iff.1 h').2.1, decide_eq_true_eq]
  constructor
  · rintro ⟨i, hi, j, hj, h1, h2⟩
    refine List.length_pos_iff.2 fun e => ?_
    have := regionL_nil.1 e i j hi hj
    rw [opG, opB_and, h1, h2] at this
    cases this
  · intro hp
    by_cases hex : ∃ i, i < 80 ∧ ∃ j, j < 80 ∧ bitsOf l i j = true ∧ bitsOf m i j = true
    · exact hex
    · exfalso
      have : regionL (opG 8 (bitsOf l) (bitsOf m)) = [] := regionL_nil.2 fun i j hi hj => by
        rw [opG, opB_and, Bool.eq_false_iff]
        intro hh
        rw [Bool.and_eq_true] at hh
        exact hex ⟨i, hi, j, hj, hh⟩
      rw [this] at hp
      simp at hp
end Go.Proofs.Ytldgjocjcbhkmab
