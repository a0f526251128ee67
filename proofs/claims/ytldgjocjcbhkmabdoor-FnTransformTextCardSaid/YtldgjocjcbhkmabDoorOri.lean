/- Contracts of the functions on orientations. -/
import Derived.Test.YtldgjocjcbhkmabDoorGeo
import Derived.Deep.DeepCutAuto
namespace Go.Proofs.YtldgjocjcbhkmabDoor
open Go.RowKit
attribute [local go_sem high] run_max2 run_min2 run_max3 run_max4

def rotP : Nat → Int → Int → Int × Int
  | 0, x, y => (x, y)
  | n + 1, x, y => (-(rotP n x y).2, (rotP n x y).1)
def rotX (n : Nat) (x y : Int) : Int := (rotP n x y).1
def rotY (n : Nat) (x y : Int) : Int := (rotP n x y).2
theorem rotX_succ (n : Nat) (x y : Int) : rotX (n + 1) x y = -(rotY n x y) := rfl
theorem rotY_succ (n : Nat) (x y : Int) : rotY (n + 1) x y = rotX n x y := rfl
def small (x : Int) : Prop := -100000 ≤ x ∧ x ≤ 100000
theorem rot_small {x y : Int} (hx : small x) (hy : small y) : ∀ n, small (rotX n x y) ∧ small (rotY n x y)
  | 0 => ⟨hx, hy⟩
  | n + 1 => by
    have ih := rot_small hx hy n
    refine ⟨?_, by rw [rotY_succ]; exact ih.1⟩
    rw [rotX_succ]
    have := ih.2
    unfold small at *
    omega
def mir (o y : Int) : Int := if 4 ≤ o then -y else y
def turnX (o x y : Int) : Int := rotX (o % 4).toNat x (mir o y)
def turnY (o x y : Int) : Int := rotY (o % 4).toNat x (mir o y)
theorem mir_small {o y : Int} (hy : small y) : small (mir o y) := by unfold mir small at *; split <;> omega
theorem turn_small {o x y : Int} (hx : small x) (hy : small y) : small (turnX o x y) ∧ small (turnY o x y) := rot_small hx (mir_small hy) _


/-! ### composing -/
def compO (a b : Int) : Int := if 4 ≤ b then (b % 4 + 4 - a % 4) % 4 + (if 4 ≤ a then 0 else 4) else (b % 4 + a % 4) % 4 + (if 4 ≤ a then 4 else 0)
def compF (a b : Int) : Int := if inR a 0 7 && inR b 0 7 then compO a b else -1

/-- Two turns, one after the other, are one: at the point (1, 2) and at every other. -/
theorem compO_bounds {a b : Int} (_ha : 0 ≤ a ∧ a ≤ 7) (_hb : 0 ≤ b ∧ b ≤ 7) : 0 ≤ compO a b ∧ compO a b ≤ 7 := by unfold compO; split <;> split <;> omega
theorem eight {a : Int} (h : 0 ≤ a ∧ a ≤ 7) : a = 0 ∨ a = 1 ∨ a = 2 ∨ a = 3 ∨ a = 4 ∨ a = 5 ∨ a = 6 ∨ a = 7 := by omega
def turnEqB (a b o : Int) : Bool := decide (turnX o 1 2 = turnX b (turnX a 1 2) (turnY a 1 2)) && decide (turnY o 1 2 = turnY b (turnX a 1 2) (turnY a 1 2))
theorem turnEqB_all : ∀ a ∈ List.range 8, ∀ b ∈ List.range 8, ∀ o ∈ List.range 8, turnEqB a b o = decide ((o : Int) = compO a b) := by decide +kernel
theorem turnEqB_iff {a b o : Int} (ha : 0 ≤ a ∧ a ≤ 7) (hb : 0 ≤ b ∧ b ≤ 7) (ho : 0 ≤ o ∧ o ≤ 7) : turnEqB a b o = decide (o = compO a b) := by
  obtain ⟨a', rfl⟩ := Int.eq_ofNat_of_zero_le ha.1
  obtain ⟨b', rfl⟩ := Int.eq_ofNat_of_zero_le hb.1
  obtain ⟨o', rfl⟩ := Int.eq_ofNat_of_zero_le ho.1
  exact turnEqB_all a' (List.mem_range.2 (by omega)) b' (List.mem_range.2 (by omega)) o' (List.mem_range.2 (by omega))


end Go.Proofs.YtldgjocjcbhkmabDoor
