/- Contracts: the reference's growing and shrinking of flags. -/
import Derived.Test.YtldgjocjcbhkmaaRegH
namespace Go.Proofs.Ytldgjocjcbhkmaa
open Go.RowKit
attribute [local go_sem low] cell_alloc_ite frozen_alloc_ite

theorem near_nat {K a b : Nat} : near (K : Int) a b = true ↔ a ≤ b + K ∧ b ≤ a + K := by rw [near_iff]; omega
/-- The flags up to shift number n, of those from -K on. -/
def shX (g : Grid) (K i j n : Nat) : Bool := (List.range n).any fun t => hasI g ((j : Int) - 40 + ((t : Int) - K)) ((i : Int) - 40)
def shY (g : Grid) (K i j n : Nat) : Bool := (List.range n).any fun t => hasI g ((j : Int) - 40) ((i : Int) - 40 + ((t : Int) - K))
theorem shX_succ (g : Grid) (K i j n : Nat) : shX g K i j (n + 1) = (shX g K i j n || hasI g ((j : Int) - 40 + ((n : Int) - K)) ((i : Int) - 40)) := by
  simp only [shX, List.range_succ, List.any_append, List.any_cons, List.any_nil, Bool.or_false]
theorem shY_succ (g : Grid) (K i j n : Nat) : shY g K i j (n + 1) = (shY g K i j n || hasI g ((j : Int) - 40) ((i : Int) - 40 + ((n : Int) - K))) := by
  simp only [shY, List.range_succ, List.any_append, List.any_cons, List.any_nil, Bool.or_false]
theorem shX_all {g : Grid} {K i j : Nat} (hi : i < 80) : shX g K i j (2 * K + 1) = horG (K : Int) g i j := by
  rw [Bool.eq_iff_iff, horG_iff]
  simp only [shX, List.any_eq_true, List.mem_range, hasI, Bool.and_eq_true, inR_iff]
  constructor
  · rintro ⟨t, ht, ⟨h1, h2⟩, h3⟩
    refine ⟨((j : Int) - 40 + ((t : Int) - K) + 40).toNat, by omega, near_nat.2 (by omega), ?_⟩
    rw [show ((i : Int) - 40 + 40).toNat = i from by omega] at h3
    exact h3
  · rintro ⟨j', hj', hn, h3⟩
    rw [near_nat] at hn
    refine ⟨j' + K - j, by omega, ⟨by omega, by omega⟩, ?_⟩
    rw [show ((i : Int) - 40 + 40).toNat = i from by omega, show ((j : Int) - 40 + (((j' + K - j : Nat) : Int) - K) + 40).toNat = j' from by omega]
    exact h3
theorem shY_all {g : Grid} {K i j : Nat} (hj : j < 80) : shY g K i j (2 * K + 1) = verG (K : Int) g i j := by
  rw [Bool.eq_iff_iff, verG_iff]
  simp only [shY, List.any_eq_true, List.mem_range, hasI, Bool.and_eq_true, inR_iff]
  constructor
  · rintro ⟨t, ht, ⟨h1, h2⟩, h3⟩
    refine ⟨((i : Int) - 40 + ((t : Int) - K) + 40).toNat, by omega, near_nat.2 (by omega), ?_⟩
    rw [show ((j : Int) - 40 + 40).toNat = j from by omega] at h3
    exact h3
  · rintro ⟨i', hi', hn, h3⟩
    rw [near_nat] at hn
    refine ⟨i' + K - i, by omega, ⟨by omega, by omega⟩, ?_⟩
    rw [show ((j : Int) - 40 + 40).toNat = j from by omega, show ((i : Int) - 40 + (((i' + K - i : Nat) : Int) - K) + 40).toNat = i' from by omega]
    exact h3
set_option maxRecDepth 100000 in
set_option maxHeartbeats 3200000 in
theorem spec_l05Row_x (g : Grid) (b1 t1 K : Nat) (hK : K ≤ 10) (w : World) (h1 : w.rowIs b1 t1 6400 (gv g)) :
    Calls Try.prog 144 #[.slice (some ⟨b1, 0, none⟩) 6400 6400, .int .i64 (K : Int), .bool true] w
      fun e w' => ∃ b, e = .returned (.slice (some ⟨b, 0, none⟩) 6400 6400) ∧ w.heap.size ≤ b ∧ w'.rowIs b 4 6400 (gv (horG (K : Int) g)) ∧ Below w.heap.size w w' := by
  have hz := World.rowIs_made w (.bool false) 6400 4
  have hm : ∀ w : World, (Instr.makeSlice 72 (.int .i64 6400) (.int .i64 6400)).run Try.prog w = .ok (.slice (some ⟨w.heap.size, 0, none⟩) 6400 6400) (w.alloc (.cells (madeCells #[.bool false] 6400) 4)) :=
    fun w => run_make_row' (P := Try.prog) 72 4 (.bool false) 1 Try.underlying72 bool_info rfl .i64 .i64 6400 (by omega) (by omega) w
  have l1 := h1.lt
  go_enter Try.func144, Try.ntmps144
  go_wp2_with fail
  clear hm
  go_loopw [8] (fun s wr => ∃ (i : Nat) (f : Grid), i ≤ 80 ∧ s = .int .i64 ((i : Int) - 40) ∧ wr.rowIs w.heap.size 4 6400 (gv f) ∧ (∀ u v, u < i → v < 80 → f u v = horG (K : Int) g u v) ∧ (∀ u v, i ≤ u → u < 80 → v < 80 → f u v = false) ∧ Below w.heap.size w wr) (fun s _ => (40 - intOf s).toNat)
  case atStart => exact ⟨0, fun _ _ => false, Nat.zero_le _, rfl, hz, fun u v hu => absurd hu (by omega), fun _ _ _ _ _ => rfl, (by repeat (first | with_reducible exact Below.refl _ _ | with_reducible assumption | with_reducible refine bel_alloc ?_ _ | with_reducible refine bel_drew ?_ | with_reducible refine bel_drewN ?_ _ | with_reducible refine bel_set ?_ (by (try simp) <;> omega) _ | with_reducible refine bel_trans ?_ (by assumption)))⟩
  case round =>
    obtain ⟨i, f, hi, rfl, hrow, hf, hf0, hbz⟩ := hrel
    have HF := hide hf
    have HF0 := hide hf0
    clear hf hf0 hz
    by_cases hy : i < 80
    · have hyI : (i : Int) - 40 < 40 := by omega
      go_wp2_with fail
      go_loopw [9] (fun s wr => ∃ (j : Nat) (f : Grid), j ≤ 80 ∧ s = .int .i64 ((j : Int) - 40) ∧ wr.rowIs w.heap.size 4 6400 (gv f) ∧ (∀ u v, (u < i ∨ u = i ∧ v < j) → v < 80 → f u v = horG (K : Int) g u v) ∧ (∀ u v, (i < u ∨ u = i ∧ j ≤ v) → u < 80 → v < 80 → f u v = false) ∧ Below w.heap.size w wr) (fun s _ => (40 - intOf s).toNat)
      case atStart => exact ⟨0, f, Nat.zero_le _, rfl, hrow, fun u v hu hv => HF.out u v (by omega) hv, fun u v hu hv hw => HF0.out u v (by omega) hv hw, hbz⟩
      case round =>
        obtain ⟨j, f2, hj, rfl, hrow2, hf2, hf02, hbz2⟩ := hrel
        have HF2 := hide hf2
        have HF02 := hide hf02
        clear hf2 hf02 hrow
        by_cases hx : j < 80
        · have hxI : (j : Int) - 40 < 40 := by omega
          have hst : ((-(K : Int)) : Int) = ((0 : Nat) : Int) - K := by omega
          have HST := hide hst
          clear hst
          go_wp2_with fail
          go_loopw [10] (fun s wr => ∃ (t : Nat) (f : Grid), t ≤ 2 * K + 1 ∧ s = .int .i64 ((t : Int) - K) ∧ wr.rowIs w.heap.size 4 6400 (gv f) ∧ (∀ u v, (u < i ∨ u = i ∧ v < j) → v < 80 → f u v = horG (K : Int) g u v) ∧ (∀ u v, (i < u ∨ u = i ∧ j < v) → u < 80 → v < 80 → f u v = false) ∧ f i j = shX g K i j t ∧ Below w.heap.size w wr) (fun s _ => ((K : Int) + 1 - intOf s).toNat)
          case atStart => exact ⟨0, f2, by omega, by rw [HST.out], hrow2, HF2.out, fun u v hu hv hw => HF02.out u v (by omega) hv hw, HF02.out i j (by omega) hy hx, hbz2⟩
          case round =>
            obtain ⟨t, f3, ht, rfl, hrow3, hf3, hf03, hp3, hbz3⟩ := hrel
            have HF3 := hide hf3
            have HF03 := hide hf03
            have HP3 := hide hp3
            clear hf3 hf03 hp3 hrow2
            by_cases hlt : (t : Int) - K ≤ K
            · have e1 : _root_.Go.World.rowIs _ b1 t1 6400 (gv g) := h1.of_block (hbz3.block b1 l1)
              have hsu := shX_succ g K i j t
              have hsz := hbz3.size
              cases hq : hasI g ((j : Int) - 40 + ((t : Int) - K)) ((i : Int) - 40)
              · rw [hq, Bool.or_false] at hsu
                have HQ := hide hq
                have HSU := hide hsu
                clear hq hsu
                go_wp2_with (go_at_call 147; refine (spec_l03Has g _ _ _ _ _ e1).mono ?_; rintro e w1 ⟨he, rfl⟩; rw [HQ.out] at he; subst he)
                go_roundw
                case rel => exact ⟨t + 1, f3, by omega, by refine congrArg (Value.int .i64) ?_; omega, hrow3, HF3.out, HF03.out, by rw [HSU.out]; exact HP3.out, hbz3⟩
                case measure => simp [intOf]; omega
              · rw [hq, Bool.or_true] at hsu
                have HQ := hide hq
                have HSU := hide hsu
                have d3 := hrow3.cell (i := i * 80 + j) (by omega)
                have d4 := hrow3.frozen (i * 80 + j)
                clear hq hsu
                go_wp2_with (first
                  | (go_at_call 147; refine (spec_l03Has g _ _ _ _ _ e1).mono ?_; rintro e w1 ⟨he, rfl⟩; rw [HQ.out] at he; subst he)
                  | (go_at_call 135; refine (spec_l03At i j hy hx _).mono ?_; rintro e w1 ⟨rfl, rfl⟩))
                go_roundw
                case rel =>
                  refine ⟨t + 1, upd f3 i j true, by omega, by refine congrArg (Value.int .i64) ?_; omega, row_upd hrow3 hx true, fun u v hu hv => ?_, fun u v hu hv hw => ?_, by rw [upd_same, HSU.out], hbz3.setCell (Nat.le_refl _) _⟩
                  · rw [upd_other (by omega)]; exact HF3.out u v hu hv
                  · rw [upd_other (by omega)]; exact HF03.out u v hu hv hw
                case measure => simp [intOf]; omega
            · obtain rfl : t = 2 * K + 1 := by omega
              have hlt2 : ¬ (((2 * K + 1 : Nat) : Int) - K ≤ K) := by omega
              generalize hT : 2 * K + 1 = T at *
              have HT := hide hT
              clear hT hlt
              go_wp2_with fail
              go_roundw
              case rel =>
                refine ⟨j + 1, f3, by omega, by go_num, hrow3, fun u v hu hv => ?_, fun u v hu hv hw => HF03.out u v (by omega) hv hw, hbz3⟩
                by_cases e : u = i ∧ v = j
                · obtain ⟨rfl, rfl⟩ := e
                  rw [HP3.out, ← HT.out, shX_all hy]
                · exact HF3.out u v (by omega) hv
              case measure => simp [intOf]; omega
        · go_wp2_with fail
          go_roundw
          case rel => exact ⟨i + 1, f2, by omega, by go_num, hrow2, fun u v hu hv => HF2.out u v (by omega) hv, fun u v hu hv hw => HF02.out u v (by omega) hv hw, hbz2⟩
          case measure => simp [intOf]; omega
    · go_wp2_with fail
      go_ret
      refine ⟨w.heap.size, rfl, Nat.le_refl _, hrow.congr fun n hn => ?_, hbz⟩
      simp only [gv]
      rw [HF.out (n / 80) (n % 80) (by omega) (by omega)]
set_option maxRecDepth 100000 in
set_option maxHeartbeats 3200000 in
theorem spec_l05Row_y (g : Grid) (b1 t1 K : Nat) (hK : K ≤ 10) (w : World) (h1 : w.rowIs b1 t1 6400 (gv g)) :
    Calls Try.prog 144 #[.slice (some ⟨b1, 0, none⟩) 6400 6400, .int .i64 (K : Int), .bool false] w
      fun e w' => ∃ b, e = .returned (.slice (some ⟨b, 0, none⟩) 6400 6400) ∧ w.heap.size ≤ b ∧ w'.rowIs b 4 6400 (gv (verG (K : Int) g)) ∧ Below w.heap.size w w' := by
  have hz := World.rowIs_made w (.bool false) 6400 4
  have hm : ∀ w : World, (Instr.makeSlice 72 (.int .i64 6400) (.int .i64 6400)).run Try.prog w = .ok (.slice (some ⟨w.heap.size, 0, none⟩) 6400 6400) (w.alloc (.cells (madeCells #[.bool false] 6400) 4)) :=
    fun w => run_make_row' (P := Try.prog) 72 4 (.bool false) 1 Try.underlying72 bool_info rfl .i64 .i64 6400 (by omega) (by omega) w
  have l1 := h1.lt
  go_enter Try.func144, Try.ntmps144
  go_wp2_with fail
  clear hm
  go_loopw [8] (fun s wr => ∃ (i : Nat) (f : Grid), i ≤ 80 ∧ s = .int .i64 ((i : Int) - 40) ∧ wr.rowIs w.heap.size 4 6400 (gv f) ∧ (∀ u v, u < i → v < 80 → f u v = verG (K : Int) g u v) ∧ (∀ u v, i ≤ u → u < 80 → v < 80 → f u v = false) ∧ Below w.heap.size w wr) (fun s _ => (40 - intOf s).toNat)
  case atStart => exact ⟨0, fun _ _ => false, Nat.zero_le _, rfl, hz, fun u v hu => absurd hu (by omega), fun _ _ _ _ _ => rfl, (by repeat (first | with_reducible exact Below.refl _ _ | with_reducible assumption | with_reducible refine bel_alloc ?_ _ | with_reducible refine bel_drew ?_ | with_reducible refine bel_drewN ?_ _ | with_reducible refine bel_set ?_ (by (try simp) <;> omega) _ | with_reducible refine bel_trans ?_ (by assumption)))⟩
  case round =>
    obtain ⟨i, f, hi, rfl, hrow, hf, hf0, hbz⟩ := hrel
    have HF := hide hf
    have HF0 := hide hf0
    clear hf hf0 hz
    by_cases hy : i < 80
    · have hyI : (i : Int) - 40 < 40 := by omega
      go_wp2_with fail
      go_loopw [9] (fun s wr => ∃ (j : Nat) (f : Grid), j ≤ 80 ∧ s = .int .i64 ((j : Int) - 40) ∧ wr.rowIs w.heap.size 4 6400 (gv f) ∧ (∀ u v, (u < i ∨ u = i ∧ v < j) → v < 80 → f u v = verG (K : Int) g u v) ∧ (∀ u v, (i < u ∨ u = i ∧ j ≤ v) → u < 80 → v < 80 → f u v = false) ∧ Below w.heap.size w wr) (fun s _ => (40 - intOf s).toNat)
      case atStart => exact ⟨0, f, Nat.zero_le _, rfl, hrow, fun u v hu hv => HF.out u v (by omega) hv, fun u v hu hv hw => HF0.out u v (by omega) hv hw, hbz⟩
      case round =>
        obtain ⟨j, f2, hj, rfl, hrow2, hf2, hf02, hbz2⟩ := hrel
        have HF2 := hide hf2
        have HF02 := hide hf02
        clear hf2 hf02 hrow
        by_cases hx : j < 80
        · have hxI : (j : Int) - 40 < 40 := by omega
          have hst : ((-(K : Int)) : Int) = ((0 : Nat) : Int) - K := by omega
          have HST := hide hst
          clear hst
          go_wp2_with fail
          go_loopw [10] (fun s wr => ∃ (t : Nat) (f : Grid), t ≤ 2 * K + 1 ∧ s = .int .i64 ((t : Int) - K) ∧ wr.rowIs w.heap.size 4 6400 (gv f) ∧ (∀ u v, (u < i ∨ u = i ∧ v < j) → v < 80 → f u v = verG (K : Int) g u v) ∧ (∀ u v, (i < u ∨ u = i ∧ j < v) → u < 80 → v < 80 → f u v = false) ∧ f i j = shY g K i j t ∧ Below w.heap.size w wr) (fun s _ => ((K : Int) + 1 - intOf s).toNat)
          case atStart => exact ⟨0, f2, by omega, by rw [HST.out], hrow2, HF2.out, fun u v hu hv hw => HF02.out u v (by omega) hv hw, HF02.out i j (by omega) hy hx, hbz2⟩
          case round =>
            obtain ⟨t, f3, ht, rfl, hrow3, hf3, hf03, hp3, hbz3⟩ := hrel
            have HF3 := hide hf3
            have HF03 := hide hf03
            have HP3 := hide hp3
            clear hf3 hf03 hp3 hrow2
            by_cases hlt : (t : Int) - K ≤ K
            · have e1 : _root_.Go.World.rowIs _ b1 t1 6400 (gv g) := h1.of_block (hbz3.block b1 l1)
              have hsu := shY_succ g K i j t
              have hsz := hbz3.size
              cases hq : hasI g ((j : Int) - 40) ((i : Int) - 40 + ((t : Int) - K))
              · rw [hq, Bool.or_false] at hsu
                have HQ := hide hq
                have HSU := hide hsu
                clear hq hsu
                go_wp2_with (go_at_call 147; refine (spec_l03Has g _ _ _ _ _ e1).mono ?_; rintro e w1 ⟨he, rfl⟩; rw [HQ.out] at he; subst he)
                go_roundw
                case rel => exact ⟨t + 1, f3, by omega, by refine congrArg (Value.int .i64) ?_; omega, hrow3, HF3.out, HF03.out, by rw [HSU.out]; exact HP3.out, hbz3⟩
                case measure => simp [intOf]; omega
              · rw [hq, Bool.or_true] at hsu
                have HQ := hide hq
                have HSU := hide hsu
                have d3 := hrow3.cell (i := i * 80 + j) (by omega)
                have d4 := hrow3.frozen (i * 80 + j)
                clear hq hsu
                go_wp2_with (first
                  | (go_at_call 147; refine (spec_l03Has g _ _ _ _ _ e1).mono ?_; rintro e w1 ⟨he, rfl⟩; rw [HQ.out] at he; subst he)
                  | (go_at_call 135; refine (spec_l03At i j hy hx _).mono ?_; rintro e w1 ⟨rfl, rfl⟩))
                go_roundw
                case rel =>
                  refine ⟨t + 1, upd f3 i j true, by omega, by refine congrArg (Value.int .i64) ?_; omega, row_upd hrow3 hx true, fun u v hu hv => ?_, fun u v hu hv hw => ?_, by rw [upd_same, HSU.out], hbz3.setCell (Nat.le_refl _) _⟩
                  · rw [upd_other (by omega)]; exact HF3.out u v hu hv
                  · rw [upd_other (by omega)]; exact HF03.out u v hu hv hw
                case measure => simp [intOf]; omega
            · obtain rfl : t = 2 * K + 1 := by omega
              have hlt2 : ¬ (((2 * K + 1 : Nat) : Int) - K ≤ K) := by omega
              generalize hT : 2 * K + 1 = T at *
              have HT := hide hT
              clear hT hlt
              go_wp2_with fail
              go_roundw
              case rel =>
                refine ⟨j + 1, f3, by omega, by go_num, hrow3, fun u v hu hv => ?_, fun u v hu hv hw => HF03.out u v (by omega) hv hw, hbz3⟩
                by_cases e : u = i ∧ v = j
                · obtain ⟨rfl, rfl⟩ := e
                  rw [HP3.out, ← HT.out, shY_all hx]
                · exact HF3.out u v (by omega) hv
              case measure => simp [intOf]; omega
        · go_wp2_with fail
          go_roundw
          case rel => exact ⟨i + 1, f2, by omega, by go_num, hrow2, fun u v hu hv => HF2.out u v (by omega) hv, fun u v hu hv hw => HF02.out u v (by omega) hv hw, hbz2⟩
          case measure => simp [intOf]; omega
    · go_wp2_with fail
      go_ret
      refine ⟨w.heap.size, rfl, Nat.le_refl _, hrow.congr fun n hn => ?_, hbz⟩
      simp only [gv]
      rw [HF.out (n / 80) (n % 80) (by omega) (by omega)]
set_option maxRecDepth 100000 in
set_option maxHeartbeats 800000 in
theorem spec_l05GrowBits (g : Grid) (b1 t1 K : Nat) (hK : K ≤ 10) (w : World) (h1 : w.rowIs b1 t1 6400 (gv g)) :
    Calls Try.prog 107 #[.slice (some ⟨b1, 0, none⟩) 6400 6400, .int .i64 (K : Int)] w
      fun e w' => ∃ b, e = .returned (.slice (some ⟨b, 0, none⟩) 6400 6400) ∧ w.heap.size ≤ b ∧ w'.rowIs b 4 6400 (gv (growG (K : Int) g)) ∧ Below w.heap.size w w' := by
  go_enter Try.func107, Try.ntmps107
  go_wp2_with fail
  go_at_call 144
  refine (spec_l05Row_x g _ _ K hK _ h1).mono ?_
  rintro e w1 ⟨b2, rfl, hb2, r2, hb1⟩
  go_wp2_with fail
  go_at_call 144
  refine (spec_l05Row_y _ _ _ K hK _ r2).mono ?_
  rintro e w2 ⟨b3, rfl, hb3, r3, hbb⟩
  go_wp2_with fail
  go_ret
  rw [← growG_split] at r3
  exact ⟨b3, rfl, Nat.le_trans hb1.size hb3, r3, bel_trans hb1 hbb⟩
set_option maxRecDepth 100000 in
set_option maxHeartbeats 1600000 in
theorem spec_l05Not (g : Grid) (b1 t1 : Nat) (w : World) (h1 : w.rowIs b1 t1 6400 (gv g)) :
    Calls Try.prog 145 #[.slice (some ⟨b1, 0, none⟩) 6400 6400] w
      fun e w' => ∃ b, e = .returned (.slice (some ⟨b, 0, none⟩) 6400 6400) ∧ w.heap.size ≤ b ∧ w'.rowIs b 4 6400 (gv (notG g)) ∧ Below w.heap.size w w' := by
  have hz := World.rowIs_made w (.bool false) 6400 4
  have hm : ∀ w : World, (Instr.makeSlice 72 (.int .i64 6400) (.int .i64 6400)).run Try.prog w = .ok (.slice (some ⟨w.heap.size, 0, none⟩) 6400 6400) (w.alloc (.cells (madeCells #[.bool false] 6400) 4)) :=
    fun w => run_make_row' (P := Try.prog) 72 4 (.bool false) 1 Try.underlying72 bool_info rfl .i64 .i64 6400 (by omega) (by omega) w
  have l1 := h1.lt
  go_enter Try.func145, Try.ntmps145
  go_wp2_with fail
  go_loopw [4] (fun s wr => ∃ (i : Nat) (f : Nat → Value), i ≤ 6400 ∧ s = .int .i64 i ∧ wr.rowIs w.heap.size 4 6400 f ∧ (∀ j, j < i → f j = gv (notG g) j) ∧ Below w.heap.size w wr) (fun s _ => 6400 - (intOf s).toNat)
  case atStart => exact ⟨0, _, Nat.zero_le _, rfl, hz, fun j hj => absurd hj (by omega), (by repeat (first | with_reducible exact Below.refl _ _ | with_reducible assumption | with_reducible refine bel_alloc ?_ _ | with_reducible refine bel_drew ?_ | with_reducible refine bel_drewN ?_ _ | with_reducible refine bel_set ?_ (by (try simp) <;> omega) _ | with_reducible refine bel_trans ?_ (by assumption)))⟩
  case round =>
    obtain ⟨i, f, hi, rfl, hrow, hf, hbl⟩ := hrel
    have HF := hide hf
    clear hf hz hm
    by_cases hy : i < 6400
    · have r1 : _root_.Go.World.rowIs _ b1 t1 6400 (gv g) := h1.of_block (hbl.block b1 l1)
      have c1 := r1.cell (i := i) hy
      have c3 := hrow.cell (i := i) hy
      have c4 := hrow.frozen i
      have hq : gv (notG g) i = .bool (!(g (i / 80) (i % 80))) := rfl
      have hq1 : gv g i = .bool (g (i / 80) (i % 80)) := rfl
      rw [hq1] at c1
      generalize g (i / 80) (i % 80) = p at c1 hq
      have HQ := hide hq
      have hb := hbl.size
      have hx0 : (0 : Int) ≤ (i : Int) := Int.natCast_nonneg _
      have hx1 : (i : Int) < 6400 := by omega
      clear hq hq1 r1 hy
      go_wp2_with fail
      go_roundw
      case rel =>
        refine ⟨i + 1, _, by omega, by go_num, hrow.set i _, fun j hj => ?_, hbl.setCell (Nat.le_refl _) _⟩
        by_cases e : j = i
        · rw [if_pos e, e, HQ.out]
        · rw [if_neg e]; exact HF.out j (by omega)
      case measure => simp [intOf]; omega
    · obtain rfl : i = 6400 := by omega
      go_wp2_with fail
      go_ret
      exact ⟨w.heap.size, rfl, Nat.le_refl _, hrow.congr fun n hn => HF.out n hn, hbl⟩
set_option maxRecDepth 100000 in
set_option maxHeartbeats 800000 in
theorem spec_l05ShrinkBits (g : Grid) (b1 t1 K : Nat) (hK : K ≤ 10) (w : World) (h1 : w.rowIs b1 t1 6400 (gv g)) :
    Calls Try.prog 108 #[.slice (some ⟨b1, 0, none⟩) 6400 6400, .int .i64 (K : Int)] w
      fun e w' => ∃ b, e = .returned (.slice (some ⟨b, 0, none⟩) 6400 6400) ∧ w.heap.size ≤ b ∧ w'.rowIs b 4 6400 (gv (shrinkG (K : Int) g)) ∧ Below w.heap.size w w' := by
  go_enter Try.func108, Try.ntmps108
  go_wp2_with fail
  go_at_call 145
  refine (spec_l05Not g _ _ _ h1).mono ?_
  rintro e w1 ⟨b2, rfl, hb2, r2, hb1⟩
  go_wp2_with fail
  go_at_call 107
  refine (spec_l05GrowBits _ _ _ K hK _ r2).mono ?_
  rintro e w2 ⟨b3, rfl, hb3, r3, hbb⟩
  go_wp2_with fail
  go_at_call 145
  refine (spec_l05Not _ _ _ _ r3).mono ?_
  rintro e w3 ⟨b4, rfl, hb4, r4, hbc⟩
  go_wp2_with fail
  go_ret
  exact ⟨b4, rfl, Nat.le_trans (bel_trans hb1 hbb).size hb4, r4, bel3 hb1 hbb hbc⟩
end Go.Proofs.Ytldgjocjcbhkmaa
