/- Contracts: the corners of a region. -/
import Derived.Test.YtdnbocngbmbofaaRegV
namespace Go.Proofs.Ytdnbocngbmbofaa
open Go.RowKit
attribute [local go_sem low] cell_alloc_ite frozen_alloc_ite

def b2n (b : Bool) : Nat := if b then 1 else 0
theorem b2n_le (b : Bool) : b2n b ≤ 1 := by cases b <;> simp [b2n]
def cntQ (P : Nat → Bool) : Nat → Nat
  | 0 => 0
  | n + 1 => cntQ P n + b2n (P n)
def cntP (P : Nat → Nat → Bool) : Nat → Nat
  | 0 => 0
  | n + 1 => cntP P n + cntQ (P n) 81
theorem cntQ_le (P : Nat → Bool) : ∀ n, cntQ P n ≤ n
  | 0 => Nat.le_refl _
  | n + 1 => by have := cntQ_le P n; have := b2n_le (P n); rw [cntQ]; omega
theorem cntP_le (P : Nat → Nat → Bool) : ∀ n, cntP P n ≤ 81 * n
  | 0 => Nat.le_refl _
  | n + 1 => by have := cntP_le P n; have := cntQ_le (P n) 81; rw [cntP]; omega
def cA (g : Grid) (i j : Nat) : Bool := hasI g ((j : Int) - 40 - 1) ((i : Int) - 40 - 1)
def cB (g : Grid) (i j : Nat) : Bool := hasI g ((j : Int) - 40) ((i : Int) - 40 - 1)
def cD (g : Grid) (i j : Nat) : Bool := hasI g ((j : Int) - 40 - 1) ((i : Int) - 40)
def cE (g : Grid) (i j : Nat) : Bool := hasI g ((j : Int) - 40) ((i : Int) - 40)
def num4 (p q r s : Bool) : Nat := b2n p + b2n q + b2n r + b2n s
def is1 (p q r s : Bool) : Bool := num4 p q r s == 1
def is3 (p q r s : Bool) : Bool := num4 p q r s == 3
def is2 (p q r s : Bool) : Bool := num4 p q r s == 2 && p == s
def conv1 (g : Grid) (i j : Nat) : Bool := is1 (cA g i j) (cB g i j) (cD g i j) (cE g i j)
def refl3 (g : Grid) (i j : Nat) : Bool := is3 (cA g i j) (cB g i j) (cD g i j) (cE g i j)
def touch2 (g : Grid) (i j : Nat) : Bool := is2 (cA g i j) (cB g i j) (cD g i j) (cE g i j)
def ccN (P : Grid → Nat → Nat → Bool) (l : List Rc) : Int := if isReg l then (cntP (P (bitsOf l)) 81 : Int) else -1
set_option maxHeartbeats 1600000 in
theorem spec_l06Around (g : Grid) (b t i j : Nat) (hi : i ≤ 80) (hj : j ≤ 80) (w : World) (hrow : w.rowIs b t 6400 (gv g)) :
    Calls Try.prog 62 #[.slice (some ⟨b, 0, none⟩) 6400 6400, .int .i64 ((j : Int) - 40), .int .i64 ((i : Int) - 40)] w fun e w' => e = .returned (.int .i64 (num4 (cA g i j) (cB g i j) (cD g i j) (cE g i j) : Nat)) ∧ w = w' := by
  obtain ⟨f, hf⟩ : ∃ f : Nat → Nat → Bool, f = fun (u v : Nat) => hasI g ((j : Int) - 40 - 1 + (v : Int)) ((i : Int) - 40 - 1 + (u : Int)) := ⟨_, rfl⟩
  have hfa : ∀ u v : Nat, hasI g ((j : Int) - 40 - 1 + (v : Int)) ((i : Int) - 40 - 1 + (u : Int)) = f u v := fun u v => by rw [hf]
  have h4 : num4 (cA g i j) (cB g i j) (cD g i j) (cE g i j) = b2n (f 0 0) + b2n (f 0 1) + b2n (f 1 0) + b2n (f 1 1) := by
    rw [hf, num4, cA, cB, cD, cE]
    simp only [show ((j : Int) - 40 - 1 + ((0 : Nat) : Int)) = (j : Int) - 40 - 1 from by omega, show ((j : Int) - 40 - 1 + ((1 : Nat) : Int)) = (j : Int) - 40 from by omega,
      show ((i : Int) - 40 - 1 + ((0 : Nat) : Int)) = (i : Int) - 40 - 1 from by omega, show ((i : Int) - 40 - 1 + ((1 : Nat) : Int)) = (i : Int) - 40 from by omega]
  rw [h4]
  have HF := hide hfa
  clear hf hfa h4
  go_enter Try.func62, Try.ntmps62
  go_wp2_with fail
  go_loopw [7, 8] (fun s7 s8 wr => ∃ u c : Nat, u ≤ 2 ∧ s8 = .int .i64 ((i : Int) - 40 - 1 + (u : Int)) ∧ s7 = .int .i64 c ∧ c = (if 0 < u then b2n (f 0 0) + b2n (f 0 1) else 0) + (if 1 < u then b2n (f 1 0) + b2n (f 1 1) else 0) ∧ c ≤ 2 * u ∧ wr = w) (fun _ s8 _ => (100 - intOf s8).toNat)
  case atStart => exact ⟨0, 0, by omega, by refine congrArg (Value.int .i64) ?_; omega, rfl, rfl, Nat.le_refl _, rfl⟩
  case round =>
    obtain ⟨u, c, hu, rfl, rfl, hc, hcl, rfl⟩ := hrel
    have HC := hide hc
    clear hc
    by_cases hlt : u < 2
    · have hl1 : (i : Int) - 40 - 1 + (u : Int) ≤ (i : Int) - 40 := by omega
      go_wp2_with fail
      go_loopw [7, 9] (fun s7 s9 wz => ∃ v d : Nat, v ≤ 2 ∧ s9 = .int .i64 ((j : Int) - 40 - 1 + (v : Int)) ∧ s7 = .int .i64 d ∧ d = c + (if 0 < v then b2n (f u 0) else 0) + (if 1 < v then b2n (f u 1) else 0) ∧ d ≤ 2 * u + v ∧ wz = wr) (fun _ s9 _ => (100 - intOf s9).toNat)
      case atStart => exact ⟨0, c, by omega, by refine congrArg (Value.int .i64) ?_; omega, rfl, rfl, hcl, rfl⟩
      case round =>
        obtain ⟨v, d, hv, rfl, rfl, hd, hdl, rfl⟩ := hrel
        have HD := hide hd
        clear hd
        by_cases hlt2 : v < 2
        · have hl2 : (j : Int) - 40 - 1 + (v : Int) ≤ (j : Int) - 40 := by omega
          cases hh : f u v
          · have HH := hide hh
            clear hh
            go_wp2_with (go_at_call 63; refine (spec_l03Has g _ _ _ _ _ hrow).mono ?_; rintro e w1 ⟨he, rfl⟩; rw [HF.out, HH.out] at he; subst he)
            go_roundw
            case rel =>
              refine ⟨v + 1, d, by omega, by refine congrArg (Value.int .i64) ?_; omega, rfl, ?_, by omega, by first | trivial | rfl⟩
              rw [HD.out]
              have h0 := HH.out
              have : v = 0 ∨ v = 1 := by omega
              rcases this with rfl | rfl <;> simp [h0, b2n]
            case measure => simp [intOf]; omega
          · have HH := hide hh
            clear hh
            go_wp2_with (go_at_call 63; refine (spec_l03Has g _ _ _ _ _ hrow).mono ?_; rintro e w1 ⟨he, rfl⟩; rw [HF.out, HH.out] at he; subst he)
            go_roundw
            case rel =>
              refine ⟨v + 1, d + 1, by omega, by refine congrArg (Value.int .i64) ?_; omega, by go_num, ?_, by omega, by first | trivial | rfl⟩
              rw [HD.out]
              have h0 := HH.out
              have : v = 0 ∨ v = 1 := by omega
              rcases this with rfl | rfl <;> simp [h0, b2n]
            case measure => simp [intOf]; omega
        · obtain rfl : v = 2 := by omega
          have hl2 : ¬ ((j : Int) - 40 - 1 + ((2 : Nat) : Int) ≤ (j : Int) - 40) := by omega
          go_wp2_with fail
          go_roundw
          case rel =>
            refine ⟨u + 1, d, by omega, by refine congrArg (Value.int .i64) ?_; omega, rfl, ?_, by omega, by first | trivial | rfl⟩
            rw [HD.out, HC.out]
            have : u = 0 ∨ u = 1 := by omega
            rcases this with rfl | rfl <;> simp <;> omega
          case measure => simp [intOf]; omega
    · obtain rfl : u = 2 := by omega
      have hl1 : ¬ ((i : Int) - 40 - 1 + ((2 : Nat) : Int) ≤ (i : Int) - 40) := by omega
      go_wp2_with fail
      go_ret
      refine ⟨reti ?_, rfl⟩
      have := HC.out
      simp only [Nat.zero_lt_succ, if_true, Nat.one_lt_two] at this
      omega
theorem cntQ_at (P : Nat → Bool) (n : Nat) : cntQ P (n + 1) = cntQ P n + b2n (P n) := rfl
set_option maxHeartbeats 3200000 in
theorem spec_CornerCounts (l : List Rc) (a : Option Addr) (cap : Nat) (w : World) (h : RectsAt w.heap.size w a l) (hn : l.length ≤ 2000000) :
    Calls Try.prog 28 #[.slice a l.length cap] w fun e w' => e = .returned (.tuple #[.int .i64 (ccN conv1 l), .int .i64 (ccN refl3 l), .int .i64 (ccN touch2 l)]) ∧ Below w.heap.size w w' := by
  cases hv : isReg l
  · rw [show ccN conv1 l = -1 from by simp [ccN, hv], show ccN refl3 l = -1 from by simp [ccN, hv], show ccN touch2 l = -1 from by simp [ccN, hv]]
    go_enter Try.func28, Try.ntmps28
    go_wp2_with (go_at_call 48; refine (spec_l03Ok l _ _ _ h hn).mono ?_; rintro e w1 ⟨rfl, hb1⟩)
    go_ret3
    exact ⟨rfl, hb1⟩
  rw [show ccN conv1 l = (cntP (conv1 (bitsOf l)) 81 : Nat) from by simp [ccN, hv], show ccN refl3 l = (cntP (refl3 (bitsOf l)) 81 : Nat) from by simp [ccN, hv], show ccN touch2 l = (cntP (touch2 (bitsOf l)) 81 : Nat) from by simp [ccN, hv]]
  have k := isReg_iff.1 hv
  have HK := hide k
  clear k
  go_enter Try.func28, Try.ntmps28
  go_wp2_with fail
  go_at_call 48
  refine (spec_l03Ok l _ _ _ h hn).mono ?_
  rintro e w1 ⟨rfl, hb1⟩
  go_wp2_with fail
  go_at_call 51
  refine (spec_l03Bits l _ _ _ (h.kept hb1) (by have := HK.out.1; omega) HK.out.2.1).mono ?_
  rintro e w2 ⟨b2, rfl, _, r2, hb2⟩
  have hbl := bel_trans hb1 hb2
  obtain ⟨g, hg⟩ : ∃ g, g = bitsOf l := ⟨_, rfl⟩
  rw [← hg] at r2
  have HG := hide hg
  clear hb1 hb2 hg
  go_wp2_with fail
  clear hv
  go_loopw [6, 7, 8, 9] (fun s6 s7 s8 s9 wr => ∃ i x y z : Nat, i ≤ 81 ∧ s9 = .int .i64 ((i : Int) - 40) ∧ s6 = .int .i64 x ∧ s7 = .int .i64 y ∧ s8 = .int .i64 z ∧ (x = cntP (conv1 g) i ∧ y = cntP (refl3 g) i ∧ z = cntP (touch2 g) i) ∧ x ≤ 81 * i ∧ y ≤ 81 * i ∧ z ≤ 81 * i ∧ wr = w2) (fun _ _ _ s9 _ => (41 - intOf s9).toNat)
  case atStart => exact ⟨0, 0, 0, 0, by omega, rfl, rfl, rfl, rfl, ⟨rfl, rfl, rfl⟩, by omega, by omega, by omega, rfl⟩
  case round =>
    obtain ⟨i, x, y, z, hi, rfl, rfl, rfl, rfl, hx, hx1, hy1, hz1, rfl⟩ := hrel
    have HX := hide hx
    clear hx
    by_cases hlt : i ≤ 80
    · have hl1 : (i : Int) - 40 ≤ 40 := by omega
      go_wp2_with fail
      go_loopw [6, 7, 8, 10] (fun s6 s7 s8 s9 wz => ∃ j u v q : Nat, j ≤ 81 ∧ s9 = .int .i64 ((j : Int) - 40) ∧ s6 = .int .i64 u ∧ s7 = .int .i64 v ∧ s8 = .int .i64 q ∧ (u = x + cntQ (conv1 g i) j ∧ v = y + cntQ (refl3 g i) j ∧ q = z + cntQ (touch2 g i) j) ∧ u ≤ 81 * i + j ∧ v ≤ 81 * i + j ∧ q ≤ 81 * i + j ∧ wz = wr) (fun _ _ _ s9 _ => (41 - intOf s9).toNat)
      case atStart => exact ⟨0, x, y, z, by omega, rfl, rfl, rfl, rfl, ⟨rfl, rfl, rfl⟩, by omega, by omega, by omega, rfl⟩
      case round =>
        obtain ⟨j, u, v, q, hj, rfl, rfl, rfl, rfl, hu, hu1, hv1, hq1, rfl⟩ := hrel
        have HU := hide hu
        clear hu
        by_cases hlt2 : j ≤ 80
        · have hl2 : (j : Int) - 40 ≤ 40 := by omega
          have s1 : cntQ (conv1 g i) (j + 1) = cntQ (conv1 g i) j + b2n (is1 (cA g i j) (cB g i j) (cD g i j) (cE g i j)) := rfl
          have s3 : cntQ (refl3 g i) (j + 1) = cntQ (refl3 g i) j + b2n (is3 (cA g i j) (cB g i j) (cD g i j) (cE g i j)) := rfl
          have s2 : cntQ (touch2 g i) (j + 1) = cntQ (touch2 g i) j + b2n (is2 (cA g i j) (cB g i j) (cD g i j) (cE g i j)) := rfl
          have hcon := spec_l06Around g b2 _ i j hlt hlt2 _ r2
          have hha : hasI g ((j : Int) - 40 - 1) ((i : Int) - 40 - 1) = cA g i j := rfl
          have hhe : hasI g ((j : Int) - 40) ((i : Int) - 40) = cE g i j := rfl
          generalize cA g i j = p0 at *
          generalize cB g i j = p1 at *
          generalize cD g i j = p2 at *
          generalize cE g i j = p3 at *
          have HCON := hide hcon
          have HS := hide (And.intro s1 (And.intro s3 s2))
          have HHA := hide hha
          have HHE := hide hhe
          clear hcon s1 s2 s3 hha hhe
          cases p0 <;> cases p1 <;> cases p2 <;> cases p3
          all_goals
            go_wp2_with (first
              | (go_at_call 62; refine HCON.out.mono ?_; rintro e w3 ⟨he, rfl⟩; simp only [num4, b2n] at he; subst he)
              | (go_at_call 63; refine (spec_l03Has g _ _ _ _ _ r2).mono ?_; rintro e w3 ⟨he, rfl⟩; first | rw [HHE.out] at he; subst he | rw [HHA.out] at he; subst he))
            go_roundw
            case rel =>
              have hs := HS.out
              have hu := HU.out
              simp [is1, is3, is2, num4, b2n] at hs
              first
                | exact ⟨j + 1, u + 1, v, q, by omega, by refine congrArg (Value.int .i64) ?_; omega, by go_num, rfl, rfl, by omega, by omega, by omega, by omega, by first | trivial | rfl⟩
                | exact ⟨j + 1, u, v + 1, q, by omega, by refine congrArg (Value.int .i64) ?_; omega, rfl, by go_num, rfl, by omega, by omega, by omega, by omega, by first | trivial | rfl⟩
                | exact ⟨j + 1, u, v, q + 1, by omega, by refine congrArg (Value.int .i64) ?_; omega, rfl, rfl, by go_num, by omega, by omega, by omega, by omega, by first | trivial | rfl⟩
                | exact ⟨j + 1, u, v, q, by omega, by refine congrArg (Value.int .i64) ?_; omega, rfl, rfl, rfl, by omega, by omega, by omega, by omega, by first | trivial | rfl⟩
            case measure => simp [intOf]; omega
        · obtain rfl : j = 81 := by omega
          have hl2 : ¬ (((81 : Nat) : Int) - 40 ≤ 40) := by omega
          go_wp2_with fail
          go_roundw
          case rel => exact ⟨i + 1, u, v, q, by omega, by go_num, rfl, rfl, rfl, ⟨by rw [HU.out.1, HX.out.1]; rfl, by rw [HU.out.2.1, HX.out.2.1]; rfl, by rw [HU.out.2.2, HX.out.2.2]; rfl⟩, by omega, by omega, by omega, by first | trivial | rfl⟩
          case measure => simp [intOf]; omega
    · obtain rfl : i = 81 := by omega
      have hl1 : ¬ (((81 : Nat) : Int) - 40 ≤ 40) := by omega
      go_wp2_with fail
      go_ret3
      refine ⟨?_, hbl⟩
      rw [HX.out.1, HX.out.2.1, HX.out.2.2, HG.out]
      rfl
def nt (p q r s : Bool) (k : Nat) : Nat := (if 0 < k then b2n p else 0) + (if 1 < k then b2n q else 0) + (if 2 < k then b2n r else 0) + (if 3 < k then b2n s else 0)
set_option maxHeartbeats 6400000 in
theorem impl_CornerCounts (l : List Rc) (a : Option Addr) (cap : Nat) (w : World) (h : RectsAt w.heap.size w a l) (hn : l.length ≤ 2000000) :
    Calls Try.prog 29 #[.slice a l.length cap] w fun e w' => e = .returned (.tuple #[.int .i64 (ccN conv1 l), .int .i64 (ccN refl3 l), .int .i64 (ccN touch2 l)]) ∧ Below w.heap.size w w' := by
  cases hv : isReg l
  · rw [show ccN conv1 l = -1 from by simp [ccN, hv], show ccN refl3 l = -1 from by simp [ccN, hv], show ccN touch2 l = -1 from by simp [ccN, hv]]
    go_enter Try.func29, Try.ntmps29
    go_wp2_with (go_at_call 52; refine (impl_IsRegion l _ _ _ h hn).mono ?_; rintro e w1 ⟨rfl, hb1⟩)
    go_ret3
    exact ⟨rfl, hb1⟩
  rw [show ccN conv1 l = (cntP (conv1 (bitsOf l)) 81 : Nat) from by simp [ccN, hv], show ccN refl3 l = (cntP (refl3 (bitsOf l)) 81 : Nat) from by simp [ccN, hv], show ccN touch2 l = (cntP (touch2 (bitsOf l)) 81 : Nat) from by simp [ccN, hv]]
  have k := isReg_iff.1 hv
  have HK := hide k
  clear k
  go_enter Try.func29, Try.ntmps29
  go_wp2_with fail
  go_at_call 52
  refine (impl_IsRegion l _ _ _ h hn).mono ?_
  rintro e w1 ⟨rfl, hb1⟩
  go_wp2_with fail
  go_at_call 64
  refine (impl_cellsOf l _ _ _ (h.kept hb1) (by have := HK.out.1; omega)).mono ?_
  rintro e w2 ⟨b2, rfl, _, r2, hb2⟩
  have hbl := bel_trans hb1 hb2
  have lb2 := r2.lt
  obtain ⟨g, hg⟩ : ∃ g, g = bitsOf l := ⟨_, rfl⟩
  rw [← hg] at r2
  have HG := hide hg
  clear hb1 hb2 hg
  go_wp2_with fail
  clear hv
  go_loopw [6, 7, 8, 9] (fun s6 s7 s8 s9 wr => ∃ i x y z : Nat, i ≤ 81 ∧ s9 = .int .i64 ((i : Int) - 40) ∧ s6 = .int .i64 x ∧ s7 = .int .i64 y ∧ s8 = .int .i64 z ∧ (x = cntP (conv1 g) i ∧ y = cntP (refl3 g) i ∧ z = cntP (touch2 g) i) ∧ x ≤ 81 * i ∧ y ≤ 81 * i ∧ z ≤ 81 * i ∧ Below w2.heap.size w2 wr) (fun _ _ _ s9 _ => (41 - intOf s9).toNat)
  case atStart => exact ⟨0, 0, 0, 0, by omega, rfl, rfl, rfl, rfl, ⟨rfl, rfl, rfl⟩, by omega, by omega, by omega, Below.refl _ _⟩
  case round =>
    obtain ⟨i, x, y, z, hi, rfl, rfl, rfl, rfl, hx, hx1, hy1, hz1, hbz⟩ := hrel
    have HX := hide hx
    clear hx
    by_cases hlt : i ≤ 80
    · have hl1 : (i : Int) - 40 ≤ 40 := by omega
      go_wp2_with fail
      go_loopw [6, 7, 8, 10] (fun s6 s7 s8 s9 wz => ∃ j u v q : Nat, j ≤ 81 ∧ s9 = .int .i64 ((j : Int) - 40) ∧ s6 = .int .i64 u ∧ s7 = .int .i64 v ∧ s8 = .int .i64 q ∧ (u = x + cntQ (conv1 g i) j ∧ v = y + cntQ (refl3 g i) j ∧ q = z + cntQ (touch2 g i) j) ∧ u ≤ 81 * i + j ∧ v ≤ 81 * i + j ∧ q ≤ 81 * i + j ∧ Below w2.heap.size w2 wz) (fun _ _ _ s9 _ => (41 - intOf s9).toNat)
      case atStart => exact ⟨0, x, y, z, by omega, rfl, rfl, rfl, rfl, ⟨rfl, rfl, rfl⟩, by omega, by omega, by omega, hbz⟩
      case round =>
        obtain ⟨j, u, v, q, hj, rfl, rfl, rfl, rfl, hu, hu1, hv1, hq1, hbz2⟩ := hrel
        have HU := hide hu
        clear hu
        by_cases hlt2 : j ≤ 80
        · have hl2 : (j : Int) - 40 ≤ 40 := by omega
          have s1 : cntQ (conv1 g i) (j + 1) = cntQ (conv1 g i) j + b2n (is1 (cA g i j) (cB g i j) (cD g i j) (cE g i j)) := rfl
          have s3 : cntQ (refl3 g i) (j + 1) = cntQ (refl3 g i) j + b2n (is3 (cA g i j) (cB g i j) (cD g i j) (cE g i j)) := rfl
          have s2 : cntQ (touch2 g i) (j + 1) = cntQ (touch2 g i) j + b2n (is2 (cA g i j) (cB g i j) (cD g i j) (cE g i j)) := rfl
          have hha : hasI g ((j : Int) - 40 - 1) ((i : Int) - 40 - 1) = cA g i j := rfl
          have hhb : hasI g ((j : Int) - 40) ((i : Int) - 40 - 1) = cB g i j := rfl
          have hhd : hasI g ((j : Int) - 40 - 1) ((i : Int) - 40) = cD g i j := rfl
          have hhe : hasI g ((j : Int) - 40) ((i : Int) - 40) = cE g i j := rfl
          generalize cA g i j = p0 at *
          generalize cB g i j = p1 at *
          generalize cD g i j = p2 at *
          generalize cE g i j = p3 at *
          have HS := hide (And.intro s1 (And.intro s3 s2))
          have HHA := hide hha
          have HHB := hide hhb
          have HHD := hide hhd
          have HHE := hide hhe
          clear s1 s2 s3 hha hhb hhd hhe
          have e1 : _root_.Go.World.rowIs _ b2 58 6400 (gv g) := r2.of_block (hbz2.block b2 lb2)
          go_wp2_with fail
          go_at_call 65
          refine (impl_has g _ _ _ _ _ e1).mono ?_
          rintro e w3 ⟨he, hb3⟩
          rw [HHA.out] at he
          subst he
          have e2 := rowIs_kept e1 hb3
          go_wp2_with fail
          go_at_call 65
          refine (impl_has g _ _ _ _ _ e2).mono ?_
          rintro e w4 ⟨he, hb4⟩
          rw [HHB.out] at he
          subst he
          have e3 := rowIs_kept e2 hb4
          go_wp2_with fail
          go_at_call 65
          refine (impl_has g _ _ _ _ _ e3).mono ?_
          rintro e w5 ⟨he, hb5⟩
          rw [HHD.out] at he
          subst he
          have e4 := rowIs_kept e3 hb5
          go_wp2_with fail
          go_at_call 65
          refine (impl_has g _ _ _ _ _ e4).mono ?_
          rintro e w6 ⟨he, hb6⟩
          rw [HHE.out] at he
          subst he
          have hbq := bel_trans (bel_trans (bel3 hbz2 hb3 hb4) hb5) hb6
          clear e1 e2 e3 e4 hb3 hb4 hb5 hb6 hbz2
          go_wp2_with fail
          go_loopw [15, 57] (fun s15 s57 wz => ∃ k c : Nat, k ≤ 4 ∧ s57 = .int .i64 k ∧ s15 = .int .i64 c ∧ c = nt p0 p1 p2 p3 k ∧ c ≤ k ∧ wz = w6.alloc (.cells #[.bool p0, .bool p1, .bool p2, .bool p3] 4)) (fun _ s57 _ => (4 - intOf s57).toNat)
          case atStart => exact ⟨0, 0, by omega, rfl, rfl, rfl, by omega, rfl⟩
          case round =>
            obtain ⟨k, c, hk, rfl, rfl, hc, hc4, rfl⟩ := hrel
            have HC := hide hc
            clear hc
            by_cases hk4 : k < 4
            · have : k = 0 ∨ k = 1 ∨ k = 2 ∨ k = 3 := by omega
              rcases this with rfl | rfl | rfl | rfl
              · cases p0
                all_goals
                  go_wp2_with fail
                  go_roundw
                  case rel =>
                    first
                      | exact ⟨1, c + 1, by omega, by go_num, by go_num, by rw [HC.out]; simp [nt, b2n], by omega, by first | trivial | rfl⟩
                      | exact ⟨1, c, by omega, by go_num, rfl, by rw [HC.out]; simp [nt, b2n], by omega, by first | trivial | rfl⟩
                  case measure => simp [intOf]
              · cases p1
                all_goals
                  go_wp2_with fail
                  go_roundw
                  case rel =>
                    first
                      | exact ⟨2, c + 1, by omega, by go_num, by go_num, by rw [HC.out]; simp [nt, b2n], by omega, by first | trivial | rfl⟩
                      | exact ⟨2, c, by omega, by go_num, rfl, by rw [HC.out]; simp [nt, b2n], by omega, by first | trivial | rfl⟩
                  case measure => simp [intOf]
              · cases p2
                all_goals
                  go_wp2_with fail
                  go_roundw
                  case rel =>
                    first
                      | exact ⟨3, c + 1, by omega, by go_num, by go_num, by rw [HC.out]; simp [nt, b2n], by omega, by first | trivial | rfl⟩
                      | exact ⟨3, c, by omega, by go_num, rfl, by rw [HC.out]; simp [nt, b2n], by omega, by first | trivial | rfl⟩
                  case measure => simp [intOf]
              · cases p3
                all_goals
                  go_wp2_with fail
                  go_roundw
                  case rel =>
                    first
                      | exact ⟨4, c + 1, by omega, by go_num, by go_num, by rw [HC.out]; simp [nt, b2n], by omega, by first | trivial | rfl⟩
                      | exact ⟨4, c, by omega, by go_num, rfl, by rw [HC.out]; simp [nt, b2n], by omega, by first | trivial | rfl⟩
                  case measure => simp [intOf]
            · obtain rfl : k = 4 := by omega
              cases p0 <;> cases p1 <;> cases p2 <;> cases p3
              all_goals
                have hc := HC.out
                simp [nt, b2n] at hc
                subst hc
                go_wp2_with fail
                go_roundw
                case rel =>
                  have hs := HS.out
                  have hu := HU.out
                  simp [is1, is3, is2, num4, b2n] at hs
                  first
                    | exact ⟨j + 1, u + 1, v, q, by omega, by refine congrArg (Value.int .i64) ?_; omega, by go_num, rfl, rfl, by omega, by omega, by omega, by omega, (by repeat (first | with_reducible exact Below.refl _ _ | with_reducible assumption | with_reducible refine bel_alloc ?_ _ | with_reducible refine bel_drew ?_ | with_reducible refine bel_drewN ?_ _ | with_reducible refine bel_set ?_ (by (try simp) <;> omega) _ | with_reducible refine bel_trans ?_ (by assumption)))⟩
                    | exact ⟨j + 1, u, v + 1, q, by omega, by refine congrArg (Value.int .i64) ?_; omega, rfl, by go_num, rfl, by omega, by omega, by omega, by omega, (by repeat (first | with_reducible exact Below.refl _ _ | with_reducible assumption | with_reducible refine bel_alloc ?_ _ | with_reducible refine bel_drew ?_ | with_reducible refine bel_drewN ?_ _ | with_reducible refine bel_set ?_ (by (try simp) <;> omega) _ | with_reducible refine bel_trans ?_ (by assumption)))⟩
                    | exact ⟨j + 1, u, v, q + 1, by omega, by refine congrArg (Value.int .i64) ?_; omega, rfl, rfl, by go_num, by omega, by omega, by omega, by omega, (by repeat (first | with_reducible exact Below.refl _ _ | with_reducible assumption | with_reducible refine bel_alloc ?_ _ | with_reducible refine bel_drew ?_ | with_reducible refine bel_drewN ?_ _ | with_reducible refine bel_set ?_ (by (try simp) <;> omega) _ | with_reducible refine bel_trans ?_ (by assumption)))⟩
                    | exact ⟨j + 1, u, v, q, by omega, by refine congrArg (Value.int .i64) ?_; omega, rfl, rfl, rfl, by omega, by omega, by omega, by omega, (by repeat (first | with_reducible exact Below.refl _ _ | with_reducible assumption | with_reducible refine bel_alloc ?_ _ | with_reducible refine bel_drew ?_ | with_reducible refine bel_drewN ?_ _ | with_reducible refine bel_set ?_ (by (try simp) <;> omega) _ | with_reducible refine bel_trans ?_ (by assumption)))⟩
                case measure => simp [intOf]; omega
        · obtain rfl : j = 81 := by omega
          have hl2 : ¬ (((81 : Nat) : Int) - 40 ≤ 40) := by omega
          go_wp2_with fail
          go_roundw
          case rel => exact ⟨i + 1, u, v, q, by omega, by go_num, rfl, rfl, rfl, ⟨by rw [HU.out.1, HX.out.1]; rfl, by rw [HU.out.2.1, HX.out.2.1]; rfl, by rw [HU.out.2.2, HX.out.2.2]; rfl⟩, by omega, by omega, by omega, hbz2⟩
          case measure => simp [intOf]; omega
    · obtain rfl : i = 81 := by omega
      have hl1 : ¬ (((81 : Nat) : Int) - 40 ≤ 40) := by omega
      go_wp2_with fail
      go_ret3
      refine ⟨?_, bel_trans hbl hbz⟩
      rw [HX.out.1, HX.out.2.1, HX.out.2.2, HG.out]
      rfl
end Go.Proofs.Ytdnbocngbmbofaa
