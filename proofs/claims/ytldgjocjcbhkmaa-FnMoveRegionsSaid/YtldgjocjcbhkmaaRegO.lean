/- Contracts: flags combined; do two regions overlap, does one cover the other? -/
import Derived.Test.YtldgjocjcbhkmaaRegF
import Derived.Test.YtldgjocjcbhkmaaRegG
import Derived.Deep.RegionHeld3
namespace Go.Proofs.Ytldgjocjcbhkmaa
open Go.RowKit
attribute [local go_sem low] cell_alloc_ite frozen_alloc_ite

def opB (op : Int) : Bool → Bool → Bool
  | true, true => op / 8 % 2 == 1
  | true, false => op / 4 % 2 == 1
  | false, true => op / 2 % 2 == 1
  | false, false => op % 2 == 1
def opG (op : Int) (g h : Grid) : Grid := fun i k => opB op (g i k) (h i k)
theorem opB_or (p q : Bool) : opB 14 p q = (p || q) := by cases p <;> cases q <;> rfl
theorem opB_and (p q : Bool) : opB 8 p q = (p && q) := by cases p <;> cases q <;> rfl
theorem opB_diff (p q : Bool) : opB 4 p q = (p && !q) := by cases p <;> cases q <;> rfl
theorem opB_xor (p q : Bool) : opB 6 p q = (p != q) := by cases p <;> cases q <;> rfl
theorem opB_nor (p q : Bool) : opB 1 p q = (!p && !q) := by cases p <;> cases q <;> rfl
set_option maxRecDepth 100000 in
set_option maxHeartbeats 1600000 in
theorem spec_l04Combine (g h : Grid) (b1 t1 b2 t2 : Nat) (op : Int) (hop : 0 ≤ op ∧ op ≤ 15) (w : World) (h1 : w.rowIs b1 t1 6400 (gv g)) (h2 : w.rowIs b2 t2 6400 (gv h)) :
    Calls Try.prog 76 #[.slice (some ⟨b1, 0, none⟩) 6400 6400, .slice (some ⟨b2, 0, none⟩) 6400 6400, .int .i64 op] w
      fun e w' => ∃ b, e = .returned (.slice (some ⟨b, 0, none⟩) 6400 6400) ∧ w.heap.size ≤ b ∧ w'.rowIs b 4 6400 (gv (opG op g h)) ∧ Below w.heap.size w w' := by
  have hz := World.rowIs_made w (.bool false) 6400 4
  have hm : ∀ w : World, (Instr.makeSlice 72 (.int .i64 6400) (.int .i64 6400)).run Try.prog w = .ok (.slice (some ⟨w.heap.size, 0, none⟩) 6400 6400) (w.alloc (.cells (madeCells #[.bool false] 6400) 4)) :=
    fun w => run_make_row' (P := Try.prog) 72 4 (.bool false) 1 Try.underlying72 bool_info rfl .i64 .i64 6400 (by omega) (by omega) w
  have l1 := h1.lt
  have l2 := h2.lt
  obtain ⟨hop0, hop1⟩ := hop
  go_enter Try.func76, Try.ntmps76
  go_wp2_with fail
  go_loopw [8] (fun s8 wr => ∃ (i : Nat) (f : Nat → Value), i ≤ 6400 ∧ s8 = .int .i64 i ∧ wr.rowIs w.heap.size 4 6400 f ∧ (∀ j, j < i → f j = gv (opG op g h) j) ∧ Below w.heap.size w wr) (fun s8 _ => 6400 - (intOf s8).toNat)
  case atStart => exact ⟨0, _, Nat.zero_le _, rfl, hz, fun j hj => absurd hj (by omega), (by repeat (first | with_reducible exact Below.refl _ _ | with_reducible assumption | with_reducible refine bel_alloc ?_ _ | with_reducible refine bel_drew ?_ | with_reducible refine bel_drewN ?_ _ | with_reducible refine bel_set ?_ (by (try simp) <;> omega) _ | with_reducible refine bel_trans ?_ (by assumption)))⟩
  case round =>
    obtain ⟨i, f, hi, rfl, hrow, hf, hbl⟩ := hrel
    have HF := hide hf
    clear hf hz
    by_cases hy : i < 6400
    · have r1 : _root_.Go.World.rowIs _ b1 t1 6400 (gv g) := h1.of_block (hbl.block b1 l1)
      have r2 : _root_.Go.World.rowIs _ b2 t2 6400 (gv h) := h2.of_block (hbl.block b2 l2)
      have c1 := r1.cell (i := i) hy
      have c2 := r2.cell (i := i) hy
      have c3 := hrow.cell (i := i) hy
      have c4 := hrow.frozen i
      have hq : gv (opG op g h) i = .bool (opB op (g (i / 80) (i % 80)) (h (i / 80) (i % 80))) := rfl
      have hq1 : gv g i = .bool (g (i / 80) (i % 80)) := rfl
      have hq2 : gv h i = .bool (h (i / 80) (i % 80)) := rfl
      rw [hq1] at c1
      rw [hq2] at c2
      generalize g (i / 80) (i % 80) = p at c1 hq
      generalize h (i / 80) (i % 80) = q at c2 hq
      have HQ := hide hq
      clear hq hq1 hq2 r1 r2
      have hb := hbl.size
      have hx0 : (0 : Int) ≤ (i : Int) := Int.natCast_nonneg _
      have hx1 : (i : Int) < 6400 := by omega
      clear hy
      cases p <;> cases q
      all_goals
        go_wp2_with fail
        go_roundw
        case rel =>
          refine ⟨i + 1, _, by omega, by go_num, hrow.set i _, fun j hj => ?_, hbl.setCell (Nat.le_refl _) _⟩
          by_cases e : j = i
          · rw [if_pos e, e, HQ.out]; rfl
          · rw [if_neg e]; exact HF.out j (by omega)
        case measure => simp [intOf]; omega
    · obtain rfl : i = 6400 := by omega
      go_wp2_with fail
      go_ret
      exact ⟨w.heap.size, rfl, Nat.le_refl _, hrow.congr fun n hn => HF.out n hn, hbl⟩
set_option maxRecDepth 100000 in
set_option maxHeartbeats 800000 in
theorem spec_l04Op (l m : List Rc) (op : Int) (hop : 0 ≤ op ∧ op ≤ 15) (a a' : Option Addr) (cap cap' : Nat) (w : World) (h : RectsAt w.heap.size w a l) (h' : RectsAt w.heap.size w a' m) (hn : l.length ≤ 1000000) (hn' : m.length ≤ 1000000)
    (hok : ∀ r ∈ l, r.ok = true) (hok' : ∀ r ∈ m, r.ok = true) :
    Calls Try.prog 102 #[.slice a l.length cap, .slice a' m.length cap', .int .i64 op] w (RetS w (regionL (opG op (bitsOf l) (bitsOf m)))) := by
  have HOK := hide hok
  have HOK' := hide hok'
  clear hok hok'
  go_enter Try.func102, Try.ntmps102
  go_wp2_with fail
  go_at_call 77
  refine (spec_l03Bits l _ _ _ h hn HOK.out).mono ?_
  rintro e w1 ⟨b1, rfl, _, r1, hb1⟩
  have h1 := h'.kept hb1
  go_wp2_with fail
  go_at_call 77
  refine (spec_l03Bits m _ _ _ h1 hn' HOK'.out).mono ?_
  rintro e w2 ⟨b2, rfl, _, r2, hb2⟩
  have r1' := rowIs_kept r1 hb2
  go_wp2_with fail
  go_at_call 76
  refine (spec_l04Combine _ _ _ _ _ _ _ hop _ r1' r2).mono ?_
  rintro e w3 ⟨b3, rfl, _, r3, hb3⟩
  go_wp2_with fail
  go_at_call 78
  refine ((spec_l03Canon _ _ _ _ r3).mono fun _ _ => retS_of).mono ?_
  rintro e w4 ⟨a4, c4, rfl, ho4, hb4⟩
  go_wp2_with fail
  go_ret
  exact ⟨a4, c4, rfl, own_base ho4 (bel3 hb1 hb2 hb3).size, bel_trans (bel3 hb1 hb2 hb3) hb4⟩
set_option maxRecDepth 100000 in
set_option maxHeartbeats 800000 in
theorem spec_l04Both (l m : List Rc) (a a' : Option Addr) (cap cap' : Nat) (w : World) (h : RectsAt w.heap.size w a l) (h' : RectsAt w.heap.size w a' m) (hn : l.length ≤ 2000000) (hn' : m.length ≤ 2000000) :
    Calls Try.prog 100 #[.slice a l.length cap, .slice a' m.length cap'] w fun e w' => e = .returned (.bool (isReg l && isReg m)) ∧ Below w.heap.size w w' := by
  cases hv : isReg l
  · go_enter Try.func100, Try.ntmps100
    go_wp2_with fail
    go_at_call 75
    refine (spec_l03Ok l _ _ _ h hn).mono ?_
    rintro e w1 ⟨rfl, hb1⟩
    go_wp2_with fail
    go_ret
    exact ⟨rfl, hb1⟩
  · go_enter Try.func100, Try.ntmps100
    go_wp2_with fail
    go_at_call 75
    refine (spec_l03Ok l _ _ _ h hn).mono ?_
    rintro e w1 ⟨rfl, hb1⟩
    go_wp2_with fail
    go_at_call 75
    refine (spec_l03Ok m _ _ _ (h'.kept hb1) hn').mono ?_
    rintro e w2 ⟨rfl, hb2⟩
    go_wp2_with fail
    go_ret
    exact ⟨rfl, bel_trans hb1 hb2⟩
/-! ### overlaps -/
def overR (l m : List Rc) : Bool := isReg l && isReg m && meetL l m
theorem overR_reg {l m : List Rc} (h : isReg l = true) (h' : isReg m = true) : overR l m = decide ((regionL (opG 8 (bitsOf l) (bitsOf m))).length > 0) := by
  rw [overR, h, h', Bool.true_and, Bool.true_and, Bool.eq_iff_iff, meetL_iff (isReg_iff.1 h).2.1 (isReg_iff.1 h').2.1, decide_eq_true_eq]
  constructor
  · rintro ⟨i, hi, j, hj, h1, h2⟩
    refine List.length_pos_iff.2 fun e => ?_
    have := regionL_nil.1 e i j hi hj
    rw [opG, opB_and, h1, h2] at this
    cases this
  · intro hp
    by_cases hex : ∃ i, i < 80 ∧ ∃ j, j < 80 ∧ bitsOf l i j = true ∧ bitsOf m i j = true
    · exact hex
    · exfalso
      have : regionL (opG 8 (bitsOf l) (bitsOf m)) = [] := regionL_nil.2 fun i j hi hj => by
        rw [opG, opB_and, Bool.eq_false_iff]
        intro hh
        rw [Bool.and_eq_true] at hh
        exact hex ⟨i, hi, j, hj, hh⟩
      rw [this] at hp
      simp at hp
theorem over_ok {r s : Rc} (_ : r.ok = true) (_ : s.ok = true) : overB r.x0 r.y0 r.x1 r.y1 s.x0 s.y0 s.x1 s.y1 = r.over s := rfl
set_option maxRecDepth 100000 in
set_option maxHeartbeats 1600000 in
theorem impl_meet (l m : List Rc) (a a' : Option Addr) (cap cap' : Nat) (w : World) (h : RectsAt w.heap.size w a l) (h' : RectsAt w.heap.size w a' m) (hn : l.length ≤ 2000000) (hn' : m.length ≤ 2000000) :
    Calls Try.prog 97 #[.slice a l.length cap, .slice a' m.length cap'] w fun e w' => e = .returned (.bool (meetL l m)) ∧ Below w.heap.size w w' := by
  go_enter Try.func97, Try.ntmps97
  go_wp2_with fail
  go_loopw [11] (fun s wr => ∃ i : Nat, i ≤ l.length ∧ s = .int .i64 i ∧ meetL (l.take i) m = false ∧ Below w.heap.size w wr) (fun s _ => l.length - (intOf s).toNat)
  case atStart => exact ⟨0, Nat.zero_le _, rfl, rfl, Below.refl _ _⟩
  case round =>
    obtain ⟨i, hi, rfl, hall, hbl⟩ := hrel
    have HA := hide hall
    clear hall
    by_cases hy : i < l.length
    · obtain ⟨g, ha, hg, c0, c1, c2, c3⟩ := h.below hbl (Nat.le_refl _) i l[i] (List.getElem?_eq_getElem hy)
      subst ha
      have hsz := hbl.size
      obtain ⟨wo, rfl⟩ : ∃ wo : World, wo = wr := ⟨_, rfl⟩
      go_wp2_with fail
      go_loopw [17] (fun s wz => ∃ k : Nat, k ≤ m.length ∧ s = .int .i64 k ∧ ((m.take k).any fun s => l[i].over s) = false ∧ wz.cell? ⟨wo.heap.size, 0, none⟩ = some (.int .i64 l[i].x0) ∧ wz.cell? ⟨wo.heap.size, 1, none⟩ = some (.int .i64 l[i].y0) ∧
          wz.cell? ⟨wo.heap.size, 2, none⟩ = some (.int .i64 l[i].x1) ∧ wz.cell? ⟨wo.heap.size, 3, none⟩ = some (.int .i64 l[i].y1) ∧ wo.heap.size < wz.heap.size ∧ Below w.heap.size w wz) (fun s _ => m.length - (intOf s).toNat)
      case atStart => exact ⟨0, Nat.zero_le _, rfl, rfl, by simp [go_sem], by simp [go_sem], by simp [go_sem], by simp [go_sem], by simp, (by repeat (first | with_reducible exact Below.refl _ _ | with_reducible assumption | with_reducible refine bel_alloc ?_ _ | with_reducible refine bel_drew ?_ | with_reducible refine bel_drewN ?_ _ | with_reducible refine bel_set ?_ (by (try simp) <;> omega) _ | with_reducible refine bel_trans ?_ (by assumption)))⟩
      case round =>
        obtain ⟨k, hk, rfl, hall2, d0, d1, d2, d3, hz2, hbl2⟩ := hrel
        have HA2 := hide hall2
        clear hall2 c0 c1 c2 c3
        by_cases hx : k < m.length
        · obtain ⟨g', ha', hg', c0, c1, c2, c3⟩ := h'.below hbl2 (Nat.le_refl _) k m[k] (List.getElem?_eq_getElem hx)
          subst ha'
          cases hov : l[i].over m[k]
          · have HO := hide (show overB l[i].x0 l[i].y0 l[i].x1 l[i].y1 m[k].x0 m[k].y0 m[k].x1 m[k].y1 = false from hov)
            clear hov
            go_wp2_with (go_at_call 139; refine (impl_RectsOverlap _ _ _ _ _ _ _ _ _).mono ?_; rintro e w2 ⟨he, hb2⟩; rw [HO.out] at he; subst he; have e0 := (hb2.cell (p := ⟨wo.heap.size, 0, none⟩) (by simp; omega)).trans (keep_alloc d0 _); have e1 := (hb2.cell (p := ⟨wo.heap.size, 1, none⟩) (by simp; omega)).trans (keep_alloc d1 _); have e2 := (hb2.cell (p := ⟨wo.heap.size, 2, none⟩) (by simp; omega)).trans (keep_alloc d2 _); have e3 := (hb2.cell (p := ⟨wo.heap.size, 3, none⟩) (by simp; omega)).trans (keep_alloc d3 _))
            go_roundw
            case rel =>
              refine ⟨k + 1, hx, by go_num, ?_, e0, e1, e2, e3, by have := hb2.size; simp at this; omega, (by repeat (first | with_reducible exact Below.refl _ _ | with_reducible assumption | with_reducible refine bel_alloc ?_ _ | with_reducible refine bel_drew ?_ | with_reducible refine bel_drewN ?_ _ | with_reducible refine bel_set ?_ (by (try simp) <;> omega) _ | with_reducible refine bel_trans ?_ (by assumption)))⟩
              rw [List.take_succ_eq_append_getElem hx, List.any_append, HA2.out]
              simp only [List.any_cons, List.any_nil, Bool.or_false, Bool.false_or]
              exact HO.out
            case measure => simp [intOf]; omega
          · have HO := hide (show overB l[i].x0 l[i].y0 l[i].x1 l[i].y1 m[k].x0 m[k].y0 m[k].x1 m[k].y1 = true from hov)
            have HOV := hide hov
            clear hov
            go_wp2_with (go_at_call 139; refine (impl_RectsOverlap _ _ _ _ _ _ _ _ _).mono ?_; rintro e w2 ⟨he, hb2⟩; rw [HO.out] at he; subst he)
            go_ret
            refine ⟨?_, (by repeat (first | with_reducible exact Below.refl _ _ | with_reducible assumption | with_reducible refine bel_alloc ?_ _ | with_reducible refine bel_drew ?_ | with_reducible refine bel_drewN ?_ _ | with_reducible refine bel_set ?_ (by (try simp) <;> omega) _ | with_reducible refine bel_trans ?_ (by assumption)))⟩
            have : meetL l m = true := List.any_eq_true.2 ⟨l[i], List.getElem_mem hy, List.any_eq_true.2 ⟨m[k], List.getElem_mem hx, HOV.out⟩⟩
            rw [this]; rfl
        · go_wp2_with fail
          go_roundw
          case rel =>
            refine ⟨i + 1, hy, by go_num, ?_, hbl2⟩
            have h2 := HA2.out
            have h1 := HA.out
            rw [List.take_of_length_le (by omega)] at h2
            unfold meetL at h1 ⊢
            rw [List.take_succ_eq_append_getElem hy, List.any_append, h1]
            simpa using h2
          case measure => simp [intOf]; omega
    · go_wp2_with fail
      go_ret
      have := HA.out
      rw [List.take_of_length_le (by omega)] at this
      exact ⟨by rw [this]; rfl, hbl⟩
set_option maxRecDepth 100000 in
set_option maxHeartbeats 800000 in
theorem impl_Overlaps (l m : List Rc) (a a' : Option Addr) (cap cap' : Nat) (w : World) (h : RectsAt w.heap.size w a l) (h' : RectsAt w.heap.size w a' m) (hn : l.length ≤ 2000000) (hn' : m.length ≤ 2000000) :
    Calls Try.prog 39 #[.slice a l.length cap, .slice a' m.length cap'] w fun e w' => e = .returned (.bool (overR l m)) ∧ Below w.heap.size w w' := by
  cases hv : isReg l
  · have hr : overR l m = false := by rw [overR, hv]; rfl
    rw [hr]
    go_enter Try.func39, Try.ntmps39
    go_wp2_with (go_at_call 30; refine (impl_IsRegion l _ _ _ h hn).mono ?_; rintro e w1 ⟨rfl, hb1⟩)
    go_ret
    exact ⟨rfl, hb1⟩
  cases hv2 : isReg m
  · have hr : overR l m = false := by rw [overR, hv, hv2]; rfl
    rw [hr]
    go_enter Try.func39, Try.ntmps39
    go_wp2_with fail
    go_at_call 30
    refine (impl_IsRegion l _ _ _ h hn).mono ?_
    rintro e w1 ⟨rfl, hb1⟩
    go_wp2_with fail
    go_at_call 30
    refine (impl_IsRegion m _ _ _ (h'.kept hb1) hn').mono ?_
    rintro e w2 ⟨rfl, hb2⟩
    go_wp2_with fail
    go_ret
    exact ⟨rfl, bel_trans hb1 hb2⟩
  · have hr : overR l m = meetL l m := by rw [overR, hv, hv2]; rfl
    rw [hr]
    clear hr
    go_enter Try.func39, Try.ntmps39
    go_wp2_with fail
    go_at_call 30
    refine (impl_IsRegion l _ _ _ h hn).mono ?_
    rintro e w1 ⟨rfl, hb1⟩
    go_wp2_with fail
    go_at_call 30
    refine (impl_IsRegion m _ _ _ (h'.kept hb1) hn').mono ?_
    rintro e w2 ⟨rfl, hb2⟩
    go_wp2_with fail
    go_at_call 97
    refine (impl_meet l m _ _ _ _ _ ((h.kept hb1).kept hb2) ((h'.kept hb1).kept hb2) hn hn').mono ?_
    rintro e w3 ⟨rfl, hb3⟩
    go_wp2_with fail
    go_ret
    exact ⟨rfl, bel3 hb1 hb2 hb3⟩
end Go.Proofs.Ytldgjocjcbhkmaa
