/- Contracts: flags combined; do two regions overlap, does one cover the other? -/
import Derived.Test.YtdnbocngbmbofaaRegF
import Derived.Test.YtdnbocngbmbofaaRegG
import Derived.Deep.RegionHeld3
namespace Go.Proofs.Ytdnbocngbmbofaa
open Go.RowKit
attribute [local go_sem low] cell_alloc_ite frozen_alloc_ite

def opB (op : Int) : Bool → Bool → Bool
  | true, true => op / 8 % 2 == 1
  | true, false => op / 4 % 2 == 1
  | false, true => op / 2 % 2 == 1
  | false, false => op % 2 == 1
def opG (op : Int) (g h : Grid) : Grid := fun i k => opB op (g i k) (h i k)
theorem opB_or (p q : Bool) : opB 14 p q = (p || q) := by cases p <;> cases q <;> rfl
theorem opB_and (p q : Bool) : opB 8 p q = (p && q) := by cases p <;> cases q <;> rfl
theorem opB_diff (p q : Bool) : opB 4 p q = (p && !q) := by cases p <;> cases q <;> rfl
theorem opB_xor (p q : Bool) : opB 6 p q = (p != q) := by cases p <;> cases q <;> rfl
theorem opB_nor (p q : Bool) : opB 1 p q = (!p && !q) := by cases p <;> cases q <;> rfl
set_option maxHeartbeats 1600000 in
theorem spec_l04Combine (g h : Grid) (b1 t1 b2 t2 : Nat) (op : Int) (hop : 0 ≤ op ∧ op ≤ 15) (w : World) (h1 : w.rowIs b1 t1 6400 (gv g)) (h2 : w.rowIs b2 t2 6400 (gv h)) :
    Calls Try.prog 88 #[.slice (some ⟨b1, 0, none⟩) 6400 6400, .slice (some ⟨b2, 0, none⟩) 6400 6400, .int .i64 op] w
      fun e w' => ∃ b, e = .returned (.slice (some ⟨b, 0, none⟩) 6400 6400) ∧ w.heap.size ≤ b ∧ w'.rowIs b 4 6400 (gv (opG op g h)) ∧ Below w.heap.size w w' := by
  have hz := World.rowIs_made w (.bool false) 6400 4
  have hm : ∀ w : World, (Instr.makeSlice 49 (.int .i64 6400) (.int .i64 6400)).run Try.prog w = .ok (.slice (some ⟨w.heap.size, 0, none⟩) 6400 6400) (w.alloc (.cells (madeCells #[.bool false] 6400) 4)) :=
    fun w => run_make_row' (P := Try.prog) 49 4 (.bool false) 1 Try.underlying49 bool_info rfl .i64 .i64 6400 (by omega) (by omega) w
  have l1 := h1.lt
  have l2 := h2.lt
  obtain ⟨hop0, hop1⟩ := hop
  go_enter Try.func88, Try.ntmps88
  go_wp2_with fail
  go_loopw [8] (fun s8 wr => ∃ (i : Nat) (f : Nat → Value), i ≤ 6400 ∧ s8 = .int .i64 i ∧ wr.rowIs w.heap.size 4 6400 f ∧ (∀ j, j < i → f j = gv (opG op g h) j) ∧ Below w.heap.size w wr) (fun s8 _ => 6400 - (intOf s8).toNat)
  case atStart => exact ⟨0, _, Nat.zero_le _, rfl, hz, fun j hj => absurd hj (by omega), (by repeat (first | with_reducible exact Below.refl _ _ | with_reducible assumption | with_reducible refine bel_alloc ?_ _ | with_reducible refine bel_drew ?_ | with_reducible refine bel_drewN ?_ _ | with_reducible refine bel_set ?_ (by (try simp) <;> omega) _ | with_reducible refine bel_trans ?_ (by assumption)))⟩
  case round =>
    obtain ⟨i, f, hi, rfl, hrow, hf, hbl⟩ := hrel
    have HF := hide hf
    clear hf hz
    by_cases hy : i < 6400
    · have r1 : _root_.Go.World.rowIs _ b1 t1 6400 (gv g) := h1.of_block (hbl.block b1 l1)
      have r2 : _root_.Go.World.rowIs _ b2 t2 6400 (gv h) := h2.of_block (hbl.block b2 l2)
      have c1 := r1.cell (i := i) hy
      have c2 := r2.cell (i := i) hy
      have c3 := hrow.cell (i := i) hy
      have c4 := hrow.frozen i
      have hq : gv (opG op g h) i = .bool (opB op (g (i / 80) (i % 80)) (h (i / 80) (i % 80))) := rfl
      have hq1 : gv g i = .bool (g (i / 80) (i % 80)) := rfl
      have hq2 : gv h i = .bool (h (i / 80) (i % 80)) := rfl
      rw [hq1] at c1
      rw [hq2] at c2
      generalize g (i / 80) (i % 80) = p at c1 hq
      generalize h (i / 80) (i % 80) = q at c2 hq
      have HQ := hide hq
      clear hq hq1 hq2 r1 r2
      have hb := hbl.size
      have hx0 : (0 : Int) ≤ (i : Int) := Int.natCast_nonneg _
      have hx1 : (i : Int) < 6400 := by omega
      clear hy
      cases p <;> cases q
      all_goals
        go_wp2_with fail
        go_roundw
        case rel =>
          refine ⟨i + 1, _, by omega, by go_num, hrow.set i _, fun j hj => ?_, hbl.setCell (Nat.le_refl _) _⟩
          by_cases e : j = i
          · rw [if_pos e, e, HQ.out]; rfl
          · rw [if_neg e]; exact HF.out j (by omega)
        case measure => simp [intOf]; omega
    · obtain rfl : i = 6400 := by omega
      go_wp2_with fail
      go_ret
      exact ⟨w.heap.size, rfl, Nat.le_refl _, hrow.congr fun n hn => HF.out n hn, hbl⟩
set_option maxHeartbeats 800000 in
theorem spec_l04Op (l m : List Rc) (op : Int) (hop : 0 ≤ op ∧ op ≤ 15) (a a' : Option Addr) (cap cap' : Nat) (w : World) (h : RectsAt w.heap.size w a l) (h' : RectsAt w.heap.size w a' m) (hn : l.length ≤ 1000000) (hn' : m.length ≤ 1000000)
    (hok : ∀ r ∈ l, r.ok = true) (hok' : ∀ r ∈ m, r.ok = true) :
    Calls Try.prog 66 #[.slice a l.length cap, .slice a' m.length cap', .int .i64 op] w (RetS w (regionL (opG op (bitsOf l) (bitsOf m)))) := by
  have HOK := hide hok
  have HOK' := hide hok'
  clear hok hok'
  go_enter Try.func66, Try.ntmps66
  go_wp2_with fail
  go_at_call 51
  refine (spec_l03Bits l _ _ _ h hn HOK.out).mono ?_
  rintro e w1 ⟨b1, rfl, _, r1, hb1⟩
  have h1 := h'.kept hb1
  go_wp2_with fail
  go_at_call 51
  refine (spec_l03Bits m _ _ _ h1 hn' HOK'.out).mono ?_
  rintro e w2 ⟨b2, rfl, _, r2, hb2⟩
  have r1' := rowIs_kept r1 hb2
  go_wp2_with fail
  go_at_call 88
  refine (spec_l04Combine _ _ _ _ _ _ _ hop _ r1' r2).mono ?_
  rintro e w3 ⟨b3, rfl, _, r3, hb3⟩
  go_wp2_with fail
  go_at_call 57
  refine ((spec_l03Canon _ _ _ _ r3).mono fun _ _ => retS_of).mono ?_
  rintro e w4 ⟨a4, c4, rfl, ho4, hb4⟩
  go_wp2_with fail
  go_ret
  exact ⟨a4, c4, rfl, own_base ho4 (bel3 hb1 hb2 hb3).size, bel_trans (bel3 hb1 hb2 hb3) hb4⟩
set_option maxHeartbeats 800000 in
theorem spec_l04Both (l m : List Rc) (a a' : Option Addr) (cap cap' : Nat) (w : World) (h : RectsAt w.heap.size w a l) (h' : RectsAt w.heap.size w a' m) (hn : l.length ≤ 2000000) (hn' : m.length ≤ 2000000) :
    Calls Try.prog 72 #[.slice a l.length cap, .slice a' m.length cap'] w fun e w' => e = .returned (.bool (isReg l && isReg m)) ∧ Below w.heap.size w w' := by
  cases hv : isReg l
  · go_enter Try.func72, Try.ntmps72
    go_wp2_with fail
    go_at_call 48
    refine (spec_l03Ok l _ _ _ h hn).mono ?_
    rintro e w1 ⟨rfl, hb1⟩
    go_wp2_with fail
    go_ret
    exact ⟨rfl, hb1⟩
  · go_enter Try.func72, Try.ntmps72
    go_wp2_with fail
    go_at_call 48
    refine (spec_l03Ok l _ _ _ h hn).mono ?_
    rintro e w1 ⟨rfl, hb1⟩
    go_wp2_with fail
    go_at_call 48
    refine (spec_l03Ok m _ _ _ (h'.kept hb1) hn').mono ?_
    rintro e w2 ⟨rfl, hb2⟩
    go_wp2_with fail
    go_ret
    exact ⟨rfl, bel_trans hb1 hb2⟩
/-! ### overlaps -/
def overR (l m : List Rc) : Bool := isReg l && isReg m && meetL l m
theorem overR_reg {l m : List Rc} (h : isReg l = true) (h' : isReg m = true) : overR l m = decide ((regionL (opG 8 (bitsOf l) (bitsOf m))).length > 0) := by
  rw [overR, h, h', Bool.true_and, Bool.true_and, Bool.eq_iff_iff, meetL_iff (isReg_iff.1 h).2.1 (isReg_iff.1 h').2.1, decide_eq_true_eq]
  constructor
  · rintro ⟨i, hi, j, hj, h1, h2⟩
    refine List.length_pos_iff.2 fun e => ?_
    have := regionL_nil.1 e i j hi hj
    rw [opG, opB_and, h1, h2] at this
    cases this
  · intro hp
    by_cases hex : ∃ i, i < 80 ∧ ∃ j, j < 80 ∧ bitsOf l i j = true ∧ bitsOf m i j = true
    · exact hex
    · exfalso
      have : regionL (opG 8 (bitsOf l) (bitsOf m)) = [] := regionL_nil.2 fun i j hi hj => by
        rw [opG, opB_and, Bool.eq_false_iff]
        intro hh
        rw [Bool.and_eq_true] at hh
        exact hex ⟨i, hi, j, hj, hh⟩
      rw [this] at hp
      simp at hp
end Go.Proofs.Ytdnbocngbmbofaa
