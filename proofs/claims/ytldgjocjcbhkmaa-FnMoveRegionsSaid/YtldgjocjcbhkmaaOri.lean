/- Contracts of the functions on orientations. -/
import Derived.Test.YtldgjocjcbhkmaaGeo
import Derived.Deep.DeepCutAuto
namespace Go.Proofs.Ytldgjocjcbhkmaa
open Go.RowKit
attribute [local go_sem high] run_max2 run_min2 run_max3 run_max4

def rotP : Nat → Int → Int → Int × Int
  | 0, x, y => (x, y)
  | n + 1, x, y => (-(rotP n x y).2, (rotP n x y).1)
def rotX (n : Nat) (x y : Int) : Int := (rotP n x y).1
def rotY (n : Nat) (x y : Int) : Int := (rotP n x y).2
theorem rotX_succ (n : Nat) (x y : Int) : rotX (n + 1) x y = -(rotY n x y) := rfl
theorem rotY_succ (n : Nat) (x y : Int) : rotY (n + 1) x y = rotX n x y := rfl
def small (x : Int) : Prop := -100000 ≤ x ∧ x ≤ 100000
theorem rot_small {x y : Int} (hx : small x) (hy : small y) : ∀ n, small (rotX n x y) ∧ small (rotY n x y)
  | 0 => ⟨hx, hy⟩
  | n + 1 => by
    have ih := rot_small hx hy n
    refine ⟨?_, by rw [rotY_succ]; exact ih.1⟩
    rw [rotX_succ]
    have := ih.2
    unfold small at *
    omega
def mir (o y : Int) : Int := if 4 ≤ o then -y else y
def turnX (o x y : Int) : Int := rotX (o % 4).toNat x (mir o y)
def turnY (o x y : Int) : Int := rotY (o % 4).toNat x (mir o y)
theorem mir_small {o y : Int} (hy : small y) : small (mir o y) := by unfold mir small at *; split <;> omega
theorem turn_small {o x y : Int} (hx : small x) (hy : small y) : small (turnX o x y) ∧ small (turnY o x y) := rot_small hx (mir_small hy) _

set_option maxRecDepth 100000 in
set_option maxHeartbeats 800000 in
theorem spec_l01Turn (o x y : Int) (ho : 0 ≤ o ∧ o ≤ 7) (hx : small x) (hy : small y) (w : World) :
    Calls Try.prog 126 #[.int .i64 o, .agg #[.int .i64 (x), .int .i64 (y)]] w fun e w' => e = .returned (.agg #[.int .i64 (turnX o x y), .int .i64 (turnY o x y)]) ∧ Below w.heap.size w w' := by
  obtain ⟨ho1, ho2⟩ := ho
  have hb := rot_small hx (mir_small (o := o) hy)
  have hmx := hx
  have hmy := hy
  unfold small at hmx hmy
  obtain ⟨x1, x2⟩ := hmx
  obtain ⟨y1, y2⟩ := hmy
  have hm : (4 ≤ o ∧ mir o y = -y) ∨ (o < 4 ∧ mir o y = y) := by unfold mir; split <;> omega
  have HB := hide hb
  have HM := hide hm
  clear hb hm hx hy
  obtain ⟨r, hr1, hr2⟩ : ∃ r : Nat, (r : Int) ≤ o % 4 ∧ o % 4 ≤ r := ⟨(o % 4).toNat, by omega, by omega⟩
  have hr3 : r ≤ 3 := by omega
  go_enter Try.func126, Try.ntmps126
  go_wp2_with fail
  go_quiet (fail)
  by_cases h4 : 4 ≤ o
  · go_wp2_with fail
    go_loop [5, 6, 7] (fun sx sy sk => ∃ j : Nat, j ≤ r ∧ sk = .int .i64 j ∧ sx = .int .i64 (rotX (r - j) x (mir o y)) ∧ sy = .int .i64 (rotY (r - j) x (mir o y))) (fun _ _ k => (intOf k).toNat)
    case atStart => exact ⟨r, Nat.le_refl _, by go_num, by simp [rotX, rotP], by have := HM.out; simp [rotY, rotP]; omega⟩
    case round =>
      obtain ⟨j, hj, rfl, rfl, rfl⟩ := hrel
      have hb := HB.out (r - j)
      unfold small at hb
      obtain ⟨⟨b1, b2⟩, b3, b4⟩ := hb
      by_cases hj0 : 0 < j
      · go_wp2
        go_round
        case rel => exact ⟨j - 1, by omega, by go_num, by rw [show r - (j - 1) = (r - j) + 1 from by omega, rotX_succ], by rw [show r - (j - 1) = (r - j) + 1 from by omega, rotY_succ]⟩
        case measure => simp [intOf]; omega
      · go_wp2
        refine bodyPost_ret (v := .agg #[.int .i64 (rotX (r - j) x (mir o y)), .int .i64 (rotY (r - j) x (mir o y))]) (by simp [results, Try.results126, go_sem]) rfl ⟨?_, (by repeat (first | with_reducible exact Below.refl _ _ | with_reducible assumption | with_reducible refine bel_alloc ?_ _ | with_reducible refine bel_drew ?_ | with_reducible refine bel_drewN ?_ _ | with_reducible refine bel_set ?_ (by (try simp) <;> omega) _ | with_reducible refine bel_trans ?_ (by assumption)))⟩
        rw [turnX, turnY, show (o % 4).toNat = r - j from by omega]
  · go_wp2_with fail
    go_loop [5, 6, 7] (fun sx sy sk => ∃ j : Nat, j ≤ r ∧ sk = .int .i64 j ∧ sx = .int .i64 (rotX (r - j) x (mir o y)) ∧ sy = .int .i64 (rotY (r - j) x (mir o y))) (fun _ _ k => (intOf k).toNat)
    case atStart => exact ⟨r, Nat.le_refl _, by go_num, by simp [rotX, rotP], by have := HM.out; simp [rotY, rotP]; omega⟩
    case round =>
      obtain ⟨j, hj, rfl, rfl, rfl⟩ := hrel
      have hb := HB.out (r - j)
      unfold small at hb
      obtain ⟨⟨b1, b2⟩, b3, b4⟩ := hb
      by_cases hj0 : 0 < j
      · go_wp2
        go_round
        case rel => exact ⟨j - 1, by omega, by go_num, by rw [show r - (j - 1) = (r - j) + 1 from by omega, rotX_succ], by rw [show r - (j - 1) = (r - j) + 1 from by omega, rotY_succ]⟩
        case measure => simp [intOf]; omega
      · go_wp2
        refine bodyPost_ret (v := .agg #[.int .i64 (rotX (r - j) x (mir o y)), .int .i64 (rotY (r - j) x (mir o y))]) (by simp [results, Try.results126, go_sem]) rfl ⟨?_, (by repeat (first | with_reducible exact Below.refl _ _ | with_reducible assumption | with_reducible refine bel_alloc ?_ _ | with_reducible refine bel_drew ?_ | with_reducible refine bel_drewN ?_ _ | with_reducible refine bel_set ?_ (by (try simp) <;> omega) _ | with_reducible refine bel_trans ?_ (by assumption)))⟩
        rw [turnX, turnY, show (o % 4).toNat = r - j from by omega]

/-! ### composing -/
def compO (a b : Int) : Int := if 4 ≤ b then (b % 4 + 4 - a % 4) % 4 + (if 4 ≤ a then 0 else 4) else (b % 4 + a % 4) % 4 + (if 4 ≤ a then 4 else 0)
def compF (a b : Int) : Int := if inR a 0 7 && inR b 0 7 then compO a b else -1

/-- Two turns, one after the other, are one: at the point (1, 2) and at every other. -/
theorem compO_bounds {a b : Int} (_ha : 0 ≤ a ∧ a ≤ 7) (_hb : 0 ≤ b ∧ b ≤ 7) : 0 ≤ compO a b ∧ compO a b ≤ 7 := by unfold compO; split <;> split <;> omega
theorem eight {a : Int} (h : 0 ≤ a ∧ a ≤ 7) : a = 0 ∨ a = 1 ∨ a = 2 ∨ a = 3 ∨ a = 4 ∨ a = 5 ∨ a = 6 ∨ a = 7 := by omega
def turnEqB (a b o : Int) : Bool := decide (turnX o 1 2 = turnX b (turnX a 1 2) (turnY a 1 2)) && decide (turnY o 1 2 = turnY b (turnX a 1 2) (turnY a 1 2))
theorem turnEqB_all : ∀ a ∈ List.range 8, ∀ b ∈ List.range 8, ∀ o ∈ List.range 8, turnEqB a b o = decide ((o : Int) = compO a b) := by decide +kernel
theorem turnEqB_iff {a b o : Int} (ha : 0 ≤ a ∧ a ≤ 7) (hb : 0 ≤ b ∧ b ≤ 7) (ho : 0 ≤ o ∧ o ≤ 7) : turnEqB a b o = decide (o = compO a b) := by
  obtain ⟨a', rfl⟩ := Int.eq_ofNat_of_zero_le ha.1
  obtain ⟨b', rfl⟩ := Int.eq_ofNat_of_zero_le hb.1
  obtain ⟨o', rfl⟩ := Int.eq_ofNat_of_zero_le ho.1
  exact turnEqB_all a' (List.mem_range.2 (by omega)) b' (List.mem_range.2 (by omega)) o' (List.mem_range.2 (by omega))


end Go.Proofs.Ytldgjocjcbhkmaa
