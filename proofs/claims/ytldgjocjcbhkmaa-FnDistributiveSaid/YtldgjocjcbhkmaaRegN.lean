/- Contracts: the union of many regions. -/
import Derived.Test.YtldgjocjcbhkmaaRegO
namespace Go.Proofs.Ytldgjocjcbhkmaa
open Go.RowKit
attribute [local go_sem low] cell_alloc_ite frozen_alloc_ite

/-- The lists lie, from the head of a block below B on, behind the slice's address a. -/
def SSAt (B : Nat) (w : World) (a : Option Addr) (ls : List (List Rc)) : Prop := ∀ i l, ls[i]? = some l → ∃ g b c, a = some ⟨g, 0, none⟩ ∧ g < B ∧
  w.cell? ⟨g, i, none⟩ = some (.slice b l.length c) ∧ l.length ≤ 2000000 ∧ RectsAt B w b l
theorem SSAt.below {B C : Nat} {w w' : World} {a : Option Addr} {ls : List (List Rc)} (h : SSAt B w a ls) (hb : Below C w w') (hc : B ≤ C) : SSAt B w' a ls := fun i l hi => by
  obtain ⟨g, b, c, ha, hg, c0, hm, hr⟩ := h i l hi
  exact ⟨g, b, c, ha, hg, (hb.cell (p := ⟨g, _, none⟩) (Nat.lt_of_lt_of_le hg hc)).trans c0, hm, hr.below hb hc⟩
theorem SSAt.kept {w w' : World} {a : Option Addr} {ls : List (List Rc)} (h : SSAt w.heap.size w a ls) (hb : Below w.heap.size w w') : SSAt w'.heap.size w' a ls := fun i l hi => by
  obtain ⟨g, b, c, ha, hg, c0, hm, hr⟩ := h i l hi
  exact ⟨g, b, c, ha, Nat.lt_of_lt_of_le hg hb.size, (hb.cell (p := ⟨g, _, none⟩) hg).trans c0, hm, hr.kept hb⟩
def allB (ls : List (List Rc)) : Bool := decide (ls.length ≤ 64) && ls.all isReg
def allR (ls : List (List Rc)) : List Rc := if allB ls then regionL (bitsOf ls.flatten) else []
theorem allR_len (ls : List (List Rc)) : (allR ls).length ≤ 2000000 := by
  unfold allR
  split
  · have := region_length (bitsOf ls.flatten); omega
  · simp
theorem flat_take {ls : List (List Rc)} {i : Nat} (hy : i < ls.length) (a c : Nat) : bitsOf (ls.take (i + 1)).flatten a c = (bitsOf (ls.take i).flatten a c || bitsOf ls[i] a c) := by
  unfold bitsOf
  rw [List.take_succ_eq_append_getElem hy, List.flatten_append, List.any_append]
  simp
theorem flat_at {ls : List (List Rc)} {i k : Nat} (hy : i < ls.length) (hk : k < ls[i].length) (a c : Nat) : bitsOf ((ls.take i).flatten ++ ls[i].take (k + 1)) a c = (bitsOf ((ls.take i).flatten ++ ls[i].take k) a c || ls[i][k].has a c) := by
  unfold bitsOf
  rw [List.take_succ_eq_append_getElem hk, ← List.append_assoc, List.any_append]
  simp
theorem flat_full {ls : List (List Rc)} {i : Nat} (hy : i < ls.length) : (ls.take i).flatten ++ ls[i].take ls[i].length = (ls.take (i + 1)).flatten := by
  rw [List.take_length, List.take_succ_eq_append_getElem hy, List.flatten_append]
  simp
theorem regs_take {ls : List (List Rc)} {i : Nat} (hy : i < ls.length) (h : (ls.take i).all isReg = true) (hr : isReg ls[i] = true) : (ls.take (i + 1)).all isReg = true := by
  rw [List.take_succ_eq_append_getElem hy, List.all_append, h]
  simp [hr]
theorem all_no {ls : List (List Rc)} {i : Nat} (hy : i < ls.length) (hr : isReg ls[i] = false) : allR ls = [] := by
  have : ls.all isReg = false := by
    rw [Bool.eq_false_iff]
    intro h
    rw [List.all_eq_true] at h
    rw [h _ (List.getElem_mem hy)] at hr
    cases hr
  simp [allR, allB, this]
theorem all_yes {ls : List (List Rc)} (hl : ls.length ≤ 64) (h : ls.all isReg = true) : allR ls = regionL (bitsOf ls.flatten) := by simp [allR, allB, hl, h]
set_option maxRecDepth 100000 in
set_option maxHeartbeats 3200000 in
theorem spec_UnionAll (ls : List (List Rc)) (a : Option Addr) (cap : Nat) (w : World) (h : SSAt w.heap.size w a ls) (hn : ls.length ≤ 2000000) :
    Calls Try.prog 16 #[.slice a ls.length cap] w (RetS w (allR ls)) := by
  by_cases hl : (ls.length : Int) ≤ 64
  · have hz := World.rowIs_made w (.bool false) 6400 4
    have hm : ∀ w : World, (Instr.makeSlice 72 (.int .i64 6400) (.int .i64 6400)).run Try.prog w = .ok (.slice (some ⟨w.heap.size, 0, none⟩) 6400 6400) (w.alloc (.cells (madeCells #[.bool false] 6400) 4)) :=
      fun w => run_make_row' (P := Try.prog) 72 4 (.bool false) 1 Try.underlying72 bool_info rfl .i64 .i64 6400 (by omega) (by omega) w
    go_enter Try.func16, Try.ntmps16
    go_wp2_with fail
    go_loopw [3, 4] (fun s3 s wr => ∃ (i b : Nat) (g : Grid), i ≤ ls.length ∧ s = .int .i64 i ∧ s3 = .slice (some ⟨b, 0, none⟩) 6400 6400 ∧ w.heap.size ≤ b ∧ wr.rowIs b 4 6400 (gv g) ∧ Hid (GEq g (bitsOf (ls.take i).flatten)) ∧ Hid ((ls.take i).all isReg = true) ∧ Below w.heap.size w wr) (fun _ s _ => ls.length - (intOf s).toNat)
    case atStart => exact ⟨0, _, bitsOf [], Nat.zero_le _, rfl, rfl, Nat.le_refl _, hz, GEq.refl _, rfl, (by repeat (first | with_reducible exact Below.refl _ _ | with_reducible assumption | with_reducible refine bel_alloc ?_ _ | with_reducible refine bel_drew ?_ | with_reducible refine bel_drewN ?_ _ | with_reducible refine bel_set ?_ (by (try simp) <;> omega) _ | with_reducible refine bel_trans ?_ (by assumption)))⟩
    case round =>
      clear hz
      obtain ⟨i, b, g, hi, rfl, rfl, hbb, hrow, HG, HA, hbl⟩ := hrel
      by_cases hy : i < ls.length
      · obtain ⟨p, q, c, ha, hp, c0, hlm, hr⟩ := h.below hbl (Nat.le_refl _) i ls[i] (List.getElem?_eq_getElem hy)
        subst ha
        have hx1 : (i : Int) < (ls.length : Int) := by omega
        have hr' := hr
        have hrB : RectsAt _ _ q ls[i] := hr.mono hbl.size
        clear hr hr'
        cases hv : isReg ls[i]
        · have HV := hide hv
          clear hv
          go_wp2_with fail
          go_at_call 75
          refine (spec_l03Ok ls[i] _ _ _ hrB hlm).mono ?_
          rintro e w1 ⟨he, hb1⟩
          rw [HV.out] at he
          subst he
          go_wp2_with fail
          go_ret
          rw [all_no hy HV.out]
          exact retS_nil rfl (bel_trans hbl hb1)
        · have HV := hide hv
          have HK := hide (isReg_iff.1 hv)
          clear hv
          go_wp2_with fail
          go_at_call 75
          refine (spec_l03Ok ls[i] _ _ _ hrB hlm).mono ?_
          rintro e w1 ⟨he, hb1⟩
          rw [HV.out] at he
          subst he
          have c1 := keep_cell hb1 c0
          have hrow1 := hrow.of_block (hb1.block b hrow.lt)
          have hr1 := hrB.kept hb1
          clear c0 hrow hrB
          go_wp2_with fail
          go_at_call 77
          refine (spec_l03Bits ls[i] _ _ _ hr1 (by have := HK.out.1; omega) HK.out.2.1).mono ?_
          rintro e w2 ⟨b2, rfl, hb2l, hrow2, hb2⟩
          have hrow3 := hrow1.of_block (hb2.block b hrow1.lt)
          clear hrow1 hr1 c1
          go_wp2_with fail
          go_at_call 76
          refine (spec_l04Combine _ _ _ _ _ _ 14 (by omega) w2 hrow3 hrow2).mono ?_
          rintro e w3 ⟨b3, rfl, hb3l, hrow4, hb3⟩
          have hbb3 := bel_trans (bel_trans (bel_trans hbl hb1) hb2) hb3
          have hsz := (bel_trans (bel_trans hbl hb1) hb2).size
          have hge : Hid (GEq (opG 14 g (bitsOf ls[i])) (bitsOf (ls.take (i + 1)).flatten)) := fun u v hu hv => by rw [opG, opB_or, HG.out u v hu hv, flat_take hy]
          clear hrow3 hrow2
          go_wp2_with fail
          go_roundw
          case rel => exact ⟨i + 1, b3, _, hy, by go_num, rfl, by omega, hrow4, hge, regs_take hy HA.out HV.out, hbb3⟩
          case measure => simp [intOf]; omega
      · obtain rfl : i = ls.length := by omega
        have hx1 : ¬ (ls.length : Int) < (ls.length : Int) := by omega
        have HR : Hid (allR ls = regionL g) := by
          have h1 := HA.out
          have h2 := HG.out
          rw [List.take_length] at h1 h2
          rw [Hid, all_yes (by omega) h1, regionL_congr h2]
        clear HG HA
        go_wp2_with fail
        go_at_call 78
        refine ((spec_l03Canon _ _ _ _ hrow).mono fun _ _ => retS_of).mono ?_
        rintro e w2 ⟨a2, c2, rfl, ho2, hb2⟩
        go_wp2_with fail
        go_ret
        rw [HR.out]
        exact ⟨a2, c2, rfl, own_base ho2 hbl.size, bel_trans hbl hb2⟩
  · have hno : allR ls = [] := by
      have : ¬ ls.length ≤ 64 := by omega
      simp [allR, allB, this]
    rw [hno]
    clear hno
    go_enter Try.func16, Try.ntmps16
    go_wp2_with fail
    go_ret
    exact retS_nil rfl (Below.refl _ _)
set_option maxRecDepth 100000 in
set_option maxHeartbeats 3200000 in
theorem impl_unionAll (ls : List (List Rc)) (a : Option Addr) (cap : Nat) (w : World) (h : SSAt w.heap.size w a ls) (hn : ls.length ≤ 2000000) :
    Calls Try.prog 79 #[.slice a ls.length cap] w (RetS w (regionL (bitsOf ls.flatten))) := by
  go_enter Try.func79, Try.ntmps79
  go_upto_region 2 with fail
  have hz := zero_row w
  go_wp2_with fail
  go_loopw [12] (fun s wr => ∃ i : Nat, i ≤ ls.length ∧ s = .int .i64 i ∧ wr.rowIs w.heap.size 103 6400 (gv (bitsOf (ls.take i).flatten)) ∧ Below w.heap.size w wr) (fun s _ => ls.length - (intOf s).toNat)
  case atStart => exact ⟨0, Nat.zero_le _, rfl, hz, (by repeat (first | with_reducible exact Below.refl _ _ | with_reducible assumption | with_reducible refine bel_alloc ?_ _ | with_reducible refine bel_drew ?_ | with_reducible refine bel_drewN ?_ _ | with_reducible refine bel_set ?_ (by (try simp) <;> omega) _ | with_reducible refine bel_trans ?_ (by assumption)))⟩
  case round =>
    clear hz
    obtain ⟨i, hi, rfl, hrow, hbl⟩ := hrel
    by_cases hy : i < ls.length
    · obtain ⟨p, q, c, ha, hp, c0w, hlm, hrw⟩ := h i ls[i] (List.getElem?_eq_getElem hy)
      subst ha
      have c0 := (hbl.cell (p := ⟨p, i, none⟩) hp).trans c0w
      have hx1 : (i : Int) < (ls.length : Int) := by omega
      clear c0w
      go_wp2_with fail
      go_loopw [18] (fun s wz => ∃ k : Nat, k ≤ ls[i].length ∧ s = .int .i64 k ∧ wz.rowIs w.heap.size 103 6400 (gv (bitsOf ((ls.take i).flatten ++ ls[i].take k))) ∧ Below w.heap.size w wz) (fun s _ => ls[i].length - (intOf s).toNat)
      case atStart => exact ⟨0, Nat.zero_le _, rfl, by simpa using hrow, hbl⟩
      case round =>
        clear hrow c0 hbl
        obtain ⟨k, hk, rfl, hrow, hblz⟩ := hrel
        by_cases hyk : k < ls[i].length
        · obtain ⟨g, hg0, hg, d0, d1, d2, d3⟩ := hrw.below hblz (Nat.le_refl _) k ls[i][k] (List.getElem?_eq_getElem hyk)
          subst hg0
          have hx2 : (k : Int) < (ls[i].length : Int) := by omega
          have hsz := hrow.lt
          go_wp2_with (go_at_call 121; refine (impl_put _ _ _ _ _ _ _ _ (hrow.alloc _)).mono ?_; rintro e w1 ⟨rfl, hrow1, hb1⟩)
          go_roundw
          case rel =>
            refine ⟨k + 1, hyk, by go_num, hrow1.congr fun n hn => ?_, (hblz.alloc hblz.size _).trans (hb1.mono (Nat.le_refl _))⟩
            simp only [gv]
            rw [flat_at hy hyk]
          case measure => simp [intOf]; omega
        · obtain rfl : k = ls[i].length := by omega
          rw [flat_full hy] at hrow
          have hx2 : ¬ (ls[i].length : Int) < (ls[i].length : Int) := by omega
          go_wp2_with fail
          go_roundw
          case rel => exact ⟨i + 1, hy, by go_num, hrow, hblz⟩
          case measure => simp [intOf]; omega
    · obtain rfl : i = ls.length := by omega
      rw [List.take_length] at hrow
      have hx2 : ¬ (ls.length : Int) < (ls.length : Int) := by omega
      go_wp2_with fail
      go_at_call 89
      refine ((impl_region _ _ _ _ hrow).mono fun _ _ => retS_of).mono ?_
      rintro e w5 ⟨a5, c5, rfl, ho5, hb5⟩
      go_wp2_with fail
      go_ret
      exact ⟨a5, c5, rfl, own_base ho5 hbl.size, bel_trans hbl hb5⟩
set_option maxRecDepth 100000 in
set_option maxHeartbeats 3200000 in
theorem impl_UnionAll (ls : List (List Rc)) (a : Option Addr) (cap : Nat) (w : World) (h : SSAt w.heap.size w a ls) (hn : ls.length ≤ 2000000) :
    Calls Try.prog 18 #[.slice a ls.length cap] w (RetS w (allR ls)) := by
  by_cases hl : (ls.length : Int) ≤ 64
  · go_enter Try.func18, Try.ntmps18
    go_wp2_with fail
    go_loopw [10] (fun s wr => ∃ i : Nat, i ≤ ls.length ∧ s = .int .i64 i ∧ Hid ((ls.take i).all isReg = true) ∧ Below w.heap.size w wr) (fun s _ => ls.length - (intOf s).toNat)
    case atStart => exact ⟨0, Nat.zero_le _, rfl, rfl, (by repeat (first | with_reducible exact Below.refl _ _ | with_reducible assumption | with_reducible refine bel_alloc ?_ _ | with_reducible refine bel_drew ?_ | with_reducible refine bel_drewN ?_ _ | with_reducible refine bel_set ?_ (by (try simp) <;> omega) _ | with_reducible refine bel_trans ?_ (by assumption)))⟩
    case round =>
      obtain ⟨i, hi, rfl, HA, hbl⟩ := hrel
      by_cases hy : i < ls.length
      · obtain ⟨p, q, c, ha, hp, c0, hlm, hr⟩ := h.below hbl (Nat.le_refl _) i ls[i] (List.getElem?_eq_getElem hy)
        subst ha
        have hx1 : (i : Int) < (ls.length : Int) := by omega
        have hrB : RectsAt _ _ q ls[i] := hr.mono hbl.size
        clear hr
        cases hv : isReg ls[i]
        · have HV := hide hv
          clear hv
          go_wp2_with fail
          go_at_call 30
          refine (impl_IsRegion ls[i] _ _ _ hrB hlm).mono ?_
          rintro e w1 ⟨he, hb1⟩
          rw [HV.out] at he
          subst he
          go_wp2_with fail
          go_ret
          rw [all_no hy HV.out]
          exact retS_nil rfl (bel_trans hbl hb1)
        · have HV := hide hv
          clear hv
          go_wp2_with fail
          go_at_call 30
          refine (impl_IsRegion ls[i] _ _ _ hrB hlm).mono ?_
          rintro e w1 ⟨he, hb1⟩
          rw [HV.out] at he
          subst he
          go_wp2_with fail
          go_roundw
          case rel => exact ⟨i + 1, hy, by go_num, regs_take hy HA.out HV.out, bel_trans hbl hb1⟩
          case measure => simp [intOf]; omega
      · obtain rfl : i = ls.length := by omega
        have hx1 : ¬ (ls.length : Int) < (ls.length : Int) := by omega
        have HR : Hid (allR ls = regionL (bitsOf ls.flatten)) := by
          have h1 := HA.out
          rw [List.take_length] at h1
          exact all_yes (by omega) h1
        clear HA
        go_wp2_with fail
        go_at_call 79
        refine (impl_unionAll ls _ _ _ (h.kept hbl) hn).mono ?_
        rintro e w2 ⟨a2, c2, rfl, ho2, hb2⟩
        go_wp2_with fail
        go_ret
        rw [HR.out]
        exact ⟨a2, c2, rfl, own_base ho2 hbl.size, bel_trans hbl hb2⟩
  · have hno : allR ls = [] := by
      have : ¬ ls.length ≤ 64 := by omega
      simp [allR, allB, this]
    rw [hno]
    clear hno
    go_enter Try.func18, Try.ntmps18
    go_wp2_with fail
    go_ret
    exact retS_nil rfl (Below.refl _ _)
end Go.Proofs.Ytldgjocjcbhkmaa
