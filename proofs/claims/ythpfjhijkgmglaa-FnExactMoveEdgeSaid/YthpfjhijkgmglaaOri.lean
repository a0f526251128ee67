/- Contracts of the functions on orientations. -/
import Derived.Test.YthpfjhijkgmglaaGeo
import Derived.Deep.DeepCutAuto
namespace Go.Proofs.Ythpfjhijkgmglaa
open Go.RowKit
attribute [local go_sem high] run_max2 run_min2 run_max3 run_max4

def rotP : Nat → Int → Int → Int × Int
  | 0, x, y => (x, y)
  | n + 1, x, y => (-(rotP n x y).2, (rotP n x y).1)
def rotX (n : Nat) (x y : Int) : Int := (rotP n x y).1
def rotY (n : Nat) (x y : Int) : Int := (rotP n x y).2
theorem rotX_succ (n : Nat) (x y : Int) : rotX (n + 1) x y = -(rotY n x y) := rfl
theorem rotY_succ (n : Nat) (x y : Int) : rotY (n + 1) x y = rotX n x y := rfl
def small (x : Int) : Prop := -100000 ≤ x ∧ x ≤ 100000
theorem rot_small {x y : Int} (hx : small x) (hy : small y) : ∀ n, small (rotX n x y) ∧ small (rotY n x y)
  | 0 => ⟨hx, hy⟩
  | n + 1 => by
    have ih := rot_small hx hy n
    refine ⟨?_, by rw [rotY_succ]; exact ih.1⟩
    rw [rotX_succ]
    have := ih.2
    unfold small at *
    omega
def mir (o y : Int) : Int := if 4 ≤ o then -y else y
def turnX (o x y : Int) : Int := rotX (o % 4).toNat x (mir o y)
def turnY (o x y : Int) : Int := rotY (o % 4).toNat x (mir o y)
theorem mir_small {o y : Int} (hy : small y) : small (mir o y) := by unfold mir small at *; split <;> omega
theorem turn_small {o x y : Int} (hx : small x) (hy : small y) : small (turnX o x y) ∧ small (turnY o x y) := rot_small hx (mir_small hy) _

set_option maxHeartbeats 800000 in
theorem spec_l01Turn (o x y : Int) (ho : 0 ≤ o ∧ o ≤ 7) (hx : small x) (hy : small y) (w : World) :
    Calls Try.prog 52 #[.int .i64 o, .agg #[.int .i64 (x), .int .i64 (y)]] w fun e w' => e = .returned (.agg #[.int .i64 (turnX o x y), .int .i64 (turnY o x y)]) ∧ Below w.heap.size w w' := by
  obtain ⟨ho1, ho2⟩ := ho
  have hb := rot_small hx (mir_small (o := o) hy)
  have hmx := hx
  have hmy := hy
  unfold small at hmx hmy
  obtain ⟨x1, x2⟩ := hmx
  obtain ⟨y1, y2⟩ := hmy
  have hm : (4 ≤ o ∧ mir o y = -y) ∨ (o < 4 ∧ mir o y = y) := by unfold mir; split <;> omega
  have HB := hide hb
  have HM := hide hm
  clear hb hm hx hy
  obtain ⟨r, hr1, hr2⟩ : ∃ r : Nat, (r : Int) ≤ o % 4 ∧ o % 4 ≤ r := ⟨(o % 4).toNat, by omega, by omega⟩
  have hr3 : r ≤ 3 := by omega
  go_enter Try.func52, Try.ntmps52
  go_wp2_with fail
  go_quiet (fail)
  by_cases h4 : 4 ≤ o
  · go_wp2_with fail
    go_loop [5, 6, 7] (fun sx sy sk => ∃ j : Nat, j ≤ r ∧ sk = .int .i64 j ∧ sx = .int .i64 (rotX (r - j) x (mir o y)) ∧ sy = .int .i64 (rotY (r - j) x (mir o y))) (fun _ _ k => (intOf k).toNat)
    case atStart => exact ⟨r, Nat.le_refl _, by go_num, by simp [rotX, rotP], by have := HM.out; simp [rotY, rotP]; omega⟩
    case round =>
      obtain ⟨j, hj, rfl, rfl, rfl⟩ := hrel
      have hb := HB.out (r - j)
      unfold small at hb
      obtain ⟨⟨b1, b2⟩, b3, b4⟩ := hb
      by_cases hj0 : 0 < j
      · go_wp2
        go_round
        case rel => exact ⟨j - 1, by omega, by go_num, by rw [show r - (j - 1) = (r - j) + 1 from by omega, rotX_succ], by rw [show r - (j - 1) = (r - j) + 1 from by omega, rotY_succ]⟩
        case measure => simp [intOf]; omega
      · go_wp2
        refine bodyPost_ret (v := .agg #[.int .i64 (rotX (r - j) x (mir o y)), .int .i64 (rotY (r - j) x (mir o y))]) (by simp [results, Try.results52, go_sem]) rfl ⟨?_, (by repeat (first | with_reducible exact Below.refl _ _ | with_reducible assumption | with_reducible refine bel_alloc ?_ _ | with_reducible refine bel_drew ?_ | with_reducible refine bel_drewN ?_ _ | with_reducible refine bel_set ?_ (by (try simp) <;> omega) _ | with_reducible refine bel_trans ?_ (by assumption)))⟩
        rw [turnX, turnY, show (o % 4).toNat = r - j from by omega]
  · go_wp2_with fail
    go_loop [5, 6, 7] (fun sx sy sk => ∃ j : Nat, j ≤ r ∧ sk = .int .i64 j ∧ sx = .int .i64 (rotX (r - j) x (mir o y)) ∧ sy = .int .i64 (rotY (r - j) x (mir o y))) (fun _ _ k => (intOf k).toNat)
    case atStart => exact ⟨r, Nat.le_refl _, by go_num, by simp [rotX, rotP], by have := HM.out; simp [rotY, rotP]; omega⟩
    case round =>
      obtain ⟨j, hj, rfl, rfl, rfl⟩ := hrel
      have hb := HB.out (r - j)
      unfold small at hb
      obtain ⟨⟨b1, b2⟩, b3, b4⟩ := hb
      by_cases hj0 : 0 < j
      · go_wp2
        go_round
        case rel => exact ⟨j - 1, by omega, by go_num, by rw [show r - (j - 1) = (r - j) + 1 from by omega, rotX_succ], by rw [show r - (j - 1) = (r - j) + 1 from by omega, rotY_succ]⟩
        case measure => simp [intOf]; omega
      · go_wp2
        refine bodyPost_ret (v := .agg #[.int .i64 (rotX (r - j) x (mir o y)), .int .i64 (rotY (r - j) x (mir o y))]) (by simp [results, Try.results52, go_sem]) rfl ⟨?_, (by repeat (first | with_reducible exact Below.refl _ _ | with_reducible assumption | with_reducible refine bel_alloc ?_ _ | with_reducible refine bel_drew ?_ | with_reducible refine bel_drewN ?_ _ | with_reducible refine bel_set ?_ (by (try simp) <;> omega) _ | with_reducible refine bel_trans ?_ (by assumption)))⟩
        rw [turnX, turnY, show (o % 4).toNat = r - j from by omega]

/-! ### composing -/
def compO (a b : Int) : Int := if 4 ≤ b then (b % 4 + 4 - a % 4) % 4 + (if 4 ≤ a then 0 else 4) else (b % 4 + a % 4) % 4 + (if 4 ≤ a then 4 else 0)
set_option maxHeartbeats 800000 in
theorem impl_composed (a b : Int) (ha : 0 ≤ a ∧ a ≤ 7) (hb : 0 ≤ b ∧ b ≤ 7) (w : World) : Calls Try.prog 65 #[.int .i64 a, .int .i64 b] w fun e w' => e = .returned (.int .i64 (compO a b)) ∧ w = w' := by
  obtain ⟨a1, a2⟩ := ha
  obtain ⟨b1, b2⟩ := hb
  by_cases h1 : 4 ≤ a
  · by_cases h2 : 4 ≤ b
    · go_enter Try.func65, Try.ntmps65
      go_wp2
      go_ret
      exact ⟨reti (by unfold compO; rw [if_pos h2, if_pos h1]; omega), rfl⟩
    · go_enter Try.func65, Try.ntmps65
      go_wp2
      go_ret
      exact ⟨reti (by unfold compO; rw [if_neg (by omega), if_pos h1]; omega), rfl⟩
  · by_cases h2 : 4 ≤ b
    · go_enter Try.func65, Try.ntmps65
      go_wp2
      go_ret
      exact ⟨reti (by unfold compO; rw [if_pos h2, if_neg (by omega)]; omega), rfl⟩
    · go_enter Try.func65, Try.ntmps65
      go_wp2
      go_ret
      exact ⟨reti (by unfold compO; rw [if_neg (by omega), if_neg (by omega)]; omega), rfl⟩
def compF (a b : Int) : Int := if inR a 0 7 && inR b 0 7 then compO a b else -1

/-- Two turns, one after the other, are one: at the point (1, 2) and at every other. -/
theorem compO_bounds {a b : Int} (_ha : 0 ≤ a ∧ a ≤ 7) (_hb : 0 ≤ b ∧ b ≤ 7) : 0 ≤ compO a b ∧ compO a b ≤ 7 := by unfold compO; split <;> split <;> omega
theorem eight {a : Int} (h : 0 ≤ a ∧ a ≤ 7) : a = 0 ∨ a = 1 ∨ a = 2 ∨ a = 3 ∨ a = 4 ∨ a = 5 ∨ a = 6 ∨ a = 7 := by omega
def turnEqB (a b o : Int) : Bool := decide (turnX o 1 2 = turnX b (turnX a 1 2) (turnY a 1 2)) && decide (turnY o 1 2 = turnY b (turnX a 1 2) (turnY a 1 2))
theorem turnEqB_all : ∀ a ∈ List.range 8, ∀ b ∈ List.range 8, ∀ o ∈ List.range 8, turnEqB a b o = decide ((o : Int) = compO a b) := by decide +kernel
theorem turnEqB_iff {a b o : Int} (ha : 0 ≤ a ∧ a ≤ 7) (hb : 0 ≤ b ∧ b ≤ 7) (ho : 0 ≤ o ∧ o ≤ 7) : turnEqB a b o = decide (o = compO a b) := by
  obtain ⟨a', rfl⟩ := Int.eq_ofNat_of_zero_le ha.1
  obtain ⟨b', rfl⟩ := Int.eq_ofNat_of_zero_le hb.1
  obtain ⟨o', rfl⟩ := Int.eq_ofNat_of_zero_le ho.1
  exact turnEqB_all a' (List.mem_range.2 (by omega)) b' (List.mem_range.2 (by omega)) o' (List.mem_range.2 (by omega))

set_option maxHeartbeats 1600000 in
theorem spec_l01Same (a b : Int) (ha : 0 ≤ a ∧ a ≤ 7) (hb : 0 ≤ b ∧ b ≤ 7) (w : World) : Calls Try.prog 51 #[.int .i64 a, .int .i64 b] w fun e w' => e = .returned (.int .i64 (compO a b)) ∧ Below w.heap.size w w' := by
  have HA := hide ha
  have HBo := hide hb
  clear ha hb
  have s1 : small 1 := by unfold small; omega
  have s2 : small 2 := by unfold small; omega
  have T1 := hide (turn_small (o := a) s1 s2)
  have T2 := hide (turn_small (o := b) T1.out.1 T1.out.2)
  have S1 := hide s1
  have S2 := hide s2
  clear s1 s2
  go_enter Try.func51, Try.ntmps51
  go_wp2_with fail
  refine (spec_l01Turn _ _ _ HA.out S1.out S2.out _).mono ?_
  rintro e w0 ⟨rfl, hb0⟩
  go_wp2_with fail
  refine (spec_l01Turn _ _ _ HBo.out T1.out.1 T1.out.2 _).mono ?_
  rintro e w1 ⟨rfl, hb⟩
  go_wp2_with fail
  have z1 : w.heap.size < w1.heap.size := by have h1 := hb.size; have h2 := hb0.size; simp at h2; omega
  have z0 : w.heap.size < w0.heap.size := by have h2 := hb0.size; simp at h2; omega
  have d1 : w1.cell? ⟨w.heap.size, 0, none⟩ = some (.int .i64 1) := (hb.cell (p := ⟨w.heap.size, 0, none⟩) z0).trans ((hb0.cell (p := ⟨w.heap.size, 0, none⟩) (by simp)).trans (by simp))
  have d2 : w1.cell? ⟨w.heap.size, 1, none⟩ = some (.int .i64 2) := (hb.cell (p := ⟨w.heap.size, 1, none⟩) z0).trans ((hb0.cell (p := ⟨w.heap.size, 1, none⟩) (by simp)).trans (by simp))
  go_loopw [7] (fun sk wr => ∃ k : Nat, k ≤ 7 ∧ sk = .int .i64 k ∧ (∀ o : Nat, o < k → (o : Int) ≠ compO a b) ∧ wr.cell? ⟨w.heap.size, 0, none⟩ = some (.int .i64 1) ∧ wr.cell? ⟨w.heap.size, 1, none⟩ = some (.int .i64 2) ∧
      wr.cell? ⟨w1.heap.size, 0, none⟩ = some (.int .i64 (turnX b (turnX a 1 2) (turnY a 1 2))) ∧ wr.cell? ⟨w1.heap.size, 1, none⟩ = some (.int .i64 (turnY b (turnX a 1 2) (turnY a 1 2))) ∧
      w.heap.size < wr.heap.size ∧ w1.heap.size < wr.heap.size ∧ Below w.heap.size w wr) (fun k _ => 8 - (intOf k).toNat)
  case atStart =>
    exact ⟨0, by omega, rfl, fun o ho => absurd ho (by omega), by simp [go_sem, *], by simp [go_sem, *], by simp [go_sem], by simp [go_sem], by simp; omega, by simp, (by repeat (first | with_reducible exact Below.refl _ _ | with_reducible assumption | with_reducible refine bel_alloc ?_ _ | with_reducible refine bel_drew ?_ | with_reducible refine bel_drewN ?_ _ | with_reducible refine bel_set ?_ (by (try simp) <;> omega) _ | with_reducible refine bel_trans ?_ (by assumption)))⟩
  case round =>
    obtain ⟨k, hk, rfl, hno, c1, c2, c3, c4, z2, z3, hbl⟩ := hrel
    have HN := hide hno
    have HB := hide hbl
    clear hno hbl
    have hq := turnEqB_iff HA.out HBo.out (o := (k : Int)) (by omega)
    by_cases hx : turnX k 1 2 = turnX b (turnX a 1 2) (turnY a 1 2)
    · by_cases hy : turnY k 1 2 = turnY b (turnX a 1 2) (turnY a 1 2)
      · have he : (k : Int) = compO a b := by simpa [turnEqB, hx, hy] using hq
        have HE := hide he
        have hx' : (turnX k 1 2 == turnX b (turnX a 1 2) (turnY a 1 2)) = true := by simp [hx]
        have hy' : (turnY k 1 2 == turnY b (turnX a 1 2) (turnY a 1 2)) = true := by simp [hy]
        clear he hq hx hy
        go_wp2_with fail
        go_region_held3 (fun w' => w'.cell? ⟨w.heap.size, 0, none⟩ = some (.int .i64 1) ∧ w'.cell? ⟨w.heap.size, 1, none⟩ = some (.int .i64 2) ∧
          w'.cell? ⟨w1.heap.size, 0, none⟩ = some (.int .i64 (turnX b (turnX a 1 2) (turnY a 1 2))) ∧ w'.cell? ⟨w1.heap.size, 1, none⟩ = some (.int .i64 (turnY b (turnX a 1 2) (turnY a 1 2))) ∧ w.heap.size < w'.heap.size ∧ w1.heap.size < w'.heap.size ∧ Below wr.heap.size wr w')
        (first | exact ⟨c1, c2, c3, c4, z2, z3, bel_drew (Below.refl _ _)⟩ | exact ⟨(hc3 _ _ z2).trans c1, (hc3 _ _ z2).trans c2, (hc3 _ _ z3).trans c3, (hc3 _ _ z3).trans c4, Nat.lt_of_lt_of_le z2 hb3.size, Nat.lt_of_lt_of_le z3 hb3.size, bel_trans (bel_drew (Below.refl _ _)) hb3⟩) ((go_at_call 52; refine (spec_l01Turn _ _ _ (by omega) S1.out S2.out _).mono ?_; rintro e w3 ⟨rfl, hb3⟩; obtain ⟨hc3, hf3⟩ := bcell hb3))
        go_wp2
        go_ret
        exact ⟨reti HE.out, bel_trans (bel_drew HB.out) hb3⟩
      · have he : ¬ (k : Int) = compO a b := by simpa [turnEqB, hx, hy] using hq
        have HE := hide he
        have hx' : (turnX k 1 2 == turnX b (turnX a 1 2) (turnY a 1 2)) = true := by simp [hx]
        have hy' : (turnY k 1 2 == turnY b (turnX a 1 2) (turnY a 1 2)) = false := by simp [hy]
        clear he hq hx hy
        go_wp2_with fail
        go_region_held3 (fun w' => w'.cell? ⟨w.heap.size, 0, none⟩ = some (.int .i64 1) ∧ w'.cell? ⟨w.heap.size, 1, none⟩ = some (.int .i64 2) ∧
          w'.cell? ⟨w1.heap.size, 0, none⟩ = some (.int .i64 (turnX b (turnX a 1 2) (turnY a 1 2))) ∧ w'.cell? ⟨w1.heap.size, 1, none⟩ = some (.int .i64 (turnY b (turnX a 1 2) (turnY a 1 2))) ∧ w.heap.size < w'.heap.size ∧ w1.heap.size < w'.heap.size ∧ Below wr.heap.size wr w')
        (first | exact ⟨c1, c2, c3, c4, z2, z3, bel_drew (Below.refl _ _)⟩ | exact ⟨(hc3 _ _ z2).trans c1, (hc3 _ _ z2).trans c2, (hc3 _ _ z3).trans c3, (hc3 _ _ z3).trans c4, Nat.lt_of_lt_of_le z2 hb3.size, Nat.lt_of_lt_of_le z3 hb3.size, bel_trans (bel_drew (Below.refl _ _)) hb3⟩) ((go_at_call 52; refine (spec_l01Turn _ _ _ (by omega) S1.out S2.out _).mono ?_; rintro e w3 ⟨rfl, hb3⟩; obtain ⟨hc3, hf3⟩ := bcell hb3))
        go_wp2
        go_roundw
        case rel =>
          have hk1 : ∀ o : Nat, o < k + 1 → (o : Int) ≠ compO a b := fun o ho => by
            by_cases h : o = k
            · subst h; exact HE.out
            · exact HN.out o (by omega)
          have hbd := compO_bounds HA.out HBo.out
          have hk2 := hk1 (compO a b).toNat
          exact ⟨k + 1, by omega, by go_num, hk1, (hc3 _ _ z2).trans c1, (hc3 _ _ z2).trans c2, (hc3 _ _ z3).trans c3, (hc3 _ _ z3).trans c4, Nat.lt_of_lt_of_le z2 hb3.size, Nat.lt_of_lt_of_le z3 hb3.size, bel_trans (bel_drew HB.out) hb3⟩
        case measure => simp [intOf]; omega
    · have he : ¬ (k : Int) = compO a b := by simpa [turnEqB, hx] using hq
      have HE := hide he
      have hx' : (turnX k 1 2 == turnX b (turnX a 1 2) (turnY a 1 2)) = false := by simp [hx]
      clear he hq hx
      go_wp2_with fail
      go_region_held3 (fun w' => w'.cell? ⟨w.heap.size, 0, none⟩ = some (.int .i64 1) ∧ w'.cell? ⟨w.heap.size, 1, none⟩ = some (.int .i64 2) ∧
          w'.cell? ⟨w1.heap.size, 0, none⟩ = some (.int .i64 (turnX b (turnX a 1 2) (turnY a 1 2))) ∧ w'.cell? ⟨w1.heap.size, 1, none⟩ = some (.int .i64 (turnY b (turnX a 1 2) (turnY a 1 2))) ∧ w.heap.size < w'.heap.size ∧ w1.heap.size < w'.heap.size ∧ Below wr.heap.size wr w')
        (first | exact ⟨c1, c2, c3, c4, z2, z3, bel_drew (Below.refl _ _)⟩ | exact ⟨(hc3 _ _ z2).trans c1, (hc3 _ _ z2).trans c2, (hc3 _ _ z3).trans c3, (hc3 _ _ z3).trans c4, Nat.lt_of_lt_of_le z2 hb3.size, Nat.lt_of_lt_of_le z3 hb3.size, bel_trans (bel_drew (Below.refl _ _)) hb3⟩) ((go_at_call 52; refine (spec_l01Turn _ _ _ (by omega) S1.out S2.out _).mono ?_; rintro e w3 ⟨rfl, hb3⟩; obtain ⟨hc3, hf3⟩ := bcell hb3))
      go_wp2
      go_roundw
      case rel =>
        have hk1 : ∀ o : Nat, o < k + 1 → (o : Int) ≠ compO a b := fun o ho => by
          by_cases h : o = k
          · subst h; exact HE.out
          · exact HN.out o (by omega)
        have hbd := compO_bounds HA.out HBo.out
        have hk2 := hk1 (compO a b).toNat
        exact ⟨k + 1, by omega, by go_num, hk1, (hc3 _ _ z2).trans c1, (hc3 _ _ z2).trans c2, (hc3 _ _ z3).trans c3, (hc3 _ _ z3).trans c4, Nat.lt_of_lt_of_le z2 hb3.size, Nat.lt_of_lt_of_le z3 hb3.size, bel_trans (bel_drew HB.out) hb3⟩
      case measure => simp [intOf]; omega

end Go.Proofs.Ythpfjhijkgmglaa
