/- Contracts: the part of a region in a box. -/
import Derived.Test.YtdnbocngbmbofaaRegH
namespace Go.Proofs.Ytdnbocngbmbofaa
open Go.RowKit
attribute [local go_sem high] run_max2 run_min2
attribute [local go_sem low] cell_alloc_ite frozen_alloc_ite

def boxG (b : Rc) (g : Grid) : Grid := fun i k => g i k && b.has i k
def clipB (l : List Rc) (b : Rc) : Bool := isReg l && b.ok
def clipR (l : List Rc) (b : Rc) : List Rc := if clipB l b then regionL (boxG b (bitsOf l)) else []
theorem clipR_len (l : List Rc) (b : Rc) : (clipR l b).length ≤ 2000000 := by
  unfold clipR
  split
  · have := region_length (boxG b (bitsOf l)); omega
  · simp
theorem common_has {r b : Rc} {i k : Nat} : (Rc.mk (max r.x0 b.x0) (max r.y0 b.y0) (min r.x1 b.x1) (min r.y1 b.y1)).has i k = (r.has i k && b.has i k) := by
  rw [Bool.eq_iff_iff, Bool.and_eq_true, Rc.has_iff, Rc.has_iff, Rc.has_iff]
  simp only
  omega
def comR (b r : Rc) : Rc := ⟨max r.x0 b.x0, max r.y0 b.y0, min r.x1 b.x1, min r.y1 b.y1⟩
theorem bits_com {l : List Rc} {b : Rc} : bitsOf (l.map (comR b)) = boxG b (bitsOf l) := by
  funext i k
  simp only [bitsOf, boxG, List.any_map]
  induction l with
  | nil => simp
  | cons r l ih =>
    simp only [List.any_cons, ih, Function.comp]
    rw [show (comR b r).has i k = (r.has i k && b.has i k) from common_has]
    cases r.has i k <;> cases b.has i k <;> simp
theorem com_take {l : List Rc} {b : Rc} {i : Nat} (hy : i < l.length) (u v : Nat) : bitsOf ((l.take (i + 1)).map (comR b)) u v = (bitsOf ((l.take i).map (comR b)) u v || (comR b l[i]).has u v) := by
  unfold bitsOf
  rw [List.take_succ_eq_append_getElem hy, List.map_append, List.any_append]
  simp only [List.map_cons, List.map_nil, List.any_cons, List.any_nil, Bool.or_false]
set_option maxHeartbeats 1600000 in
theorem impl_ClipRegion (l : List Rc) (b : Rc) (a : Option Addr) (cap : Nat) (w : World) (h : RectsAt w.heap.size w a l) (hn : l.length ≤ 2000000) :
    Calls Try.prog 26 #[.slice a l.length cap, .agg #[.int .i64 b.x0, .int .i64 b.y0, .int .i64 b.x1, .int .i64 b.y1]] w (RetS w (clipR l b)) := by
  have hbox : RectsAt (w.alloc (.cells #[.int .i64 b.x0, .int .i64 b.y0, .int .i64 b.x1, .int .i64 b.y1] 36)).heap.size (w.alloc (.cells #[.int .i64 b.x0, .int .i64 b.y0, .int .i64 b.x1, .int .i64 b.y1] 36)) a l := h.kept (by repeat (first | with_reducible exact Below.refl _ _ | with_reducible assumption | with_reducible refine bel_alloc ?_ _ | with_reducible refine bel_drew ?_ | with_reducible refine bel_drewN ?_ _ | with_reducible refine bel_set ?_ (by (try simp) <;> omega) _ | with_reducible refine bel_trans ?_ (by assumption)))
  have b1 := ((Below.refl w.heap.size w).alloc (Nat.le_refl _) (.cells #[.int .i64 b.x0, .int .i64 b.y0, .int .i64 b.x1, .int .i64 b.y1] 36))
  cases hv : isReg l
  · rw [show clipR l b = [] from by simp [clipR, clipB, hv]]
    go_enter Try.func26, Try.ntmps26
    go_wp2_with fail
    go_at_call 52
    refine (impl_IsRegion l _ _ _ hbox hn).mono ?_
    rintro e w1 ⟨rfl, hb1⟩
    go_wp2_with fail
    go_ret
    exact retS_nil rfl (bel_trans b1 hb1)
  cases hb : vRect b.x0 b.y0 b.x1 b.y1
  · rw [show clipR l b = [] from by simp [clipR, clipB, Rc.ok, hb]]
    go_enter Try.func26, Try.ntmps26
    go_wp2_with fail
    go_at_call 52
    refine (impl_IsRegion l _ _ _ hbox hn).mono ?_
    rintro e w1 ⟨rfl, hb1⟩
    have e0 := (hb1.cell (p := ⟨w.heap.size, 0, none⟩) (by simp)).trans (show _ = some (.int .i64 b.x0) by simp [go_sem])
    have e1 := (hb1.cell (p := ⟨w.heap.size, 1, none⟩) (by simp)).trans (show _ = some (.int .i64 b.y0) by simp [go_sem])
    have e2 := (hb1.cell (p := ⟨w.heap.size, 2, none⟩) (by simp)).trans (show _ = some (.int .i64 b.x1) by simp [go_sem])
    have e3 := (hb1.cell (p := ⟨w.heap.size, 3, none⟩) (by simp)).trans (show _ = some (.int .i64 b.y1) by simp [go_sem])
    go_wp2_with (go_at_call 58; refine (impl_IsValidRect _ _ _ _ _).mono ?_; rintro e w2 ⟨rfl, hb2⟩)
    go_ret
    exact retS_nil rfl (bel_trans (bel_trans b1 hb1) hb2)
  rw [show clipR l b = regionL (boxG b (bitsOf l)) from by simp [clipR, clipB, Rc.ok, hv, hb]]
  go_enter Try.func26, Try.ntmps26
  go_wp2_with fail
  go_at_call 52
  refine (impl_IsRegion l _ _ _ hbox hn).mono ?_
  rintro e w1 ⟨rfl, hb1⟩
  have e0 := (hb1.cell (p := ⟨w.heap.size, 0, none⟩) (by simp)).trans (show _ = some (.int .i64 b.x0) by simp [go_sem])
  have e1 := (hb1.cell (p := ⟨w.heap.size, 1, none⟩) (by simp)).trans (show _ = some (.int .i64 b.y0) by simp [go_sem])
  have e2 := (hb1.cell (p := ⟨w.heap.size, 2, none⟩) (by simp)).trans (show _ = some (.int .i64 b.x1) by simp [go_sem])
  have e3 := (hb1.cell (p := ⟨w.heap.size, 3, none⟩) (by simp)).trans (show _ = some (.int .i64 b.y1) by simp [go_sem])
  go_wp2_with fail
  go_at_call 58
  refine (impl_IsValidRect _ _ _ _ _).mono ?_
  rintro e w2 ⟨rfl, hb2⟩
  have hs1 := hb1.size
  simp only [World.size_alloc] at hs1
  have hs2 := hb2.size
  replace e0 := keep_cell hb2 e0
  replace e1 := keep_cell hb2 e1
  replace e2 := keep_cell hb2 e2
  replace e3 := keep_cell hb2 e3
  have hbb := bel_trans (bel_trans b1 hb1) hb2
  have hz := zero_rowF w2
  clear hb1 hb2 b1 hbox
  go_wp2_with fail
  clear hv hb
  go_loopw [20] (fun s wr => ∃ i : Nat, i ≤ l.length ∧ s = .int .i64 i ∧ wr.rowIs w2.heap.size 58 6400 (gv (bitsOf ((l.take i).map (comR b)))) ∧ Below w2.heap.size w2 wr) (fun s _ => l.length - (intOf s).toNat)
  case atStart => exact ⟨0, Nat.zero_le _, rfl, hz, (by repeat (first | with_reducible exact Below.refl _ _ | with_reducible assumption | with_reducible refine bel_alloc ?_ _ | with_reducible refine bel_drew ?_ | with_reducible refine bel_drewN ?_ _ | with_reducible refine bel_set ?_ (by (try simp) <;> omega) _ | with_reducible refine bel_trans ?_ (by assumption)))⟩
  case round =>
    obtain ⟨i, hi, rfl, hrow, hbl⟩ := hrel
    clear hz
    by_cases hy : i < l.length
    · obtain ⟨g, ha, hg, c0, c1, c2, c3⟩ := h.below (bel_trans hbb hbl) (Nat.le_refl _) i l[i] (List.getElem?_eq_getElem hy)
      subst ha
      have t0 := keep_cell hbl e0
      have t1 := keep_cell hbl e1
      have t2 := keep_cell hbl e2
      have t3 := keep_cell hbl e3
      have hs3 := hbl.size
      go_wp2_with fail
      go_at_call 60
      refine (impl_common _ _ _ _ _ _ _ _ _).mono ?_
      rintro e w3 ⟨rfl, hb3⟩
      have hrow3 := rowIs_kept (hrow.alloc _) hb3
      have hbq := bel_trans (bel_alloc hbl _) hb3
      clear hb3
      go_wp2_with (go_at_call 59; refine (impl_put _ _ _ _ _ _ _ _ hrow3).mono ?_; rintro e w5 ⟨rfl, hrow5, hb5⟩)
      go_roundw
      case rel =>
        refine ⟨i + 1, hy, by go_num, hrow5.congr fun n hn => ?_, hbq.trans hb5⟩
        simp only [gv]
        rw [com_take hy]
        rfl
      case measure => simp [intOf]; omega
    · rw [List.take_of_length_le (by omega), bits_com] at hrow
      go_wp2_with fail
      go_at_call 61
      refine ((impl_region _ _ _ _ hrow).mono fun _ _ => retS_of).mono ?_
      rintro e w3 ⟨a3, c3, rfl, ho3, hb3⟩
      have hbq := bel_trans hbb hbl
      go_wp2_with fail
      go_ret
      exact ⟨a3, c3, rfl, own_base ho3 hbq.size, bel_trans hbq hb3⟩
set_option maxHeartbeats 3200000 in
theorem spec_ClipRegion (l : List Rc) (b : Rc) (a : Option Addr) (cap : Nat) (w : World) (h : RectsAt w.heap.size w a l) (hn : l.length ≤ 2000000) :
    Calls Try.prog 24 #[.slice a l.length cap, .agg #[.int .i64 b.x0, .int .i64 b.y0, .int .i64 b.x1, .int .i64 b.y1]] w (RetS w (clipR l b)) := by
  have hbox : RectsAt (w.alloc (.cells #[.int .i64 b.x0, .int .i64 b.y0, .int .i64 b.x1, .int .i64 b.y1] 36)).heap.size (w.alloc (.cells #[.int .i64 b.x0, .int .i64 b.y0, .int .i64 b.x1, .int .i64 b.y1] 36)) a l := h.kept (by repeat (first | with_reducible exact Below.refl _ _ | with_reducible assumption | with_reducible refine bel_alloc ?_ _ | with_reducible refine bel_drew ?_ | with_reducible refine bel_drewN ?_ _ | with_reducible refine bel_set ?_ (by (try simp) <;> omega) _ | with_reducible refine bel_trans ?_ (by assumption)))
  have b1 := ((Below.refl w.heap.size w).alloc (Nat.le_refl _) (.cells #[.int .i64 b.x0, .int .i64 b.y0, .int .i64 b.x1, .int .i64 b.y1] 36))
  cases hv : isReg l
  · rw [show clipR l b = [] from by simp [clipR, clipB, hv]]
    go_enter Try.func24, Try.ntmps24
    go_wp2_with fail
    go_at_call 48
    refine (spec_l03Ok l _ _ _ hbox hn).mono ?_
    rintro e w1 ⟨rfl, hb1⟩
    go_wp2_with fail
    go_ret
    exact retS_nil rfl (bel_trans b1 hb1)
  cases hb : vRect b.x0 b.y0 b.x1 b.y1
  · rw [show clipR l b = [] from by simp [clipR, clipB, Rc.ok, hb]]
    go_enter Try.func24, Try.ntmps24
    go_wp2_with fail
    go_at_call 48
    refine (spec_l03Ok l _ _ _ hbox hn).mono ?_
    rintro e w1 ⟨rfl, hb1⟩
    have e0 := (hb1.cell (p := ⟨w.heap.size, 0, none⟩) (by simp)).trans (show _ = some (.int .i64 b.x0) by simp [go_sem])
    have e1 := (hb1.cell (p := ⟨w.heap.size, 1, none⟩) (by simp)).trans (show _ = some (.int .i64 b.y0) by simp [go_sem])
    have e2 := (hb1.cell (p := ⟨w.heap.size, 2, none⟩) (by simp)).trans (show _ = some (.int .i64 b.x1) by simp [go_sem])
    have e3 := (hb1.cell (p := ⟨w.heap.size, 3, none⟩) (by simp)).trans (show _ = some (.int .i64 b.y1) by simp [go_sem])
    go_wp2_with (go_at_call 55; refine (spec_IsValidRect _ _ _ _ _).mono ?_; rintro e w2 ⟨rfl, hb2⟩)
    go_ret
    exact retS_nil rfl (bel_trans (bel_trans b1 hb1) hb2)
  rw [show clipR l b = regionL (boxG b (bitsOf l)) from by simp [clipR, clipB, Rc.ok, hv, hb]]
  have k := isReg_iff.1 hv
  have HK := hide k
  obtain ⟨x1, x2, x3, y1, y2, y3⟩ := vRect_iff.1 hb
  clear k
  have hm : ∀ w : World, (Instr.makeSlice 49 (.int .i64 6400) (.int .i64 6400)).run Try.prog w = .ok (.slice (some ⟨w.heap.size, 0, none⟩) 6400 6400) (w.alloc (.cells (madeCells #[.bool false] 6400) 4)) :=
    fun w => run_make_row' (P := Try.prog) 49 4 (.bool false) 1 Try.underlying49 bool_info rfl .i64 .i64 6400 (by omega) (by omega) w
  go_enter Try.func24, Try.ntmps24
  go_wp2_with fail
  go_at_call 48
  refine (spec_l03Ok l _ _ _ hbox hn).mono ?_
  rintro e w1 ⟨rfl, hb1⟩
  have e0 := (hb1.cell (p := ⟨w.heap.size, 0, none⟩) (by simp)).trans (show _ = some (.int .i64 b.x0) by simp [go_sem])
  have e1 := (hb1.cell (p := ⟨w.heap.size, 1, none⟩) (by simp)).trans (show _ = some (.int .i64 b.y0) by simp [go_sem])
  have e2 := (hb1.cell (p := ⟨w.heap.size, 2, none⟩) (by simp)).trans (show _ = some (.int .i64 b.x1) by simp [go_sem])
  have e3 := (hb1.cell (p := ⟨w.heap.size, 3, none⟩) (by simp)).trans (show _ = some (.int .i64 b.y1) by simp [go_sem])
  go_wp2_with fail
  go_at_call 55
  refine (spec_IsValidRect _ _ _ _ _).mono ?_
  rintro e w2 ⟨rfl, hb2⟩
  have hs1 := hb1.size
  simp only [World.size_alloc] at hs1
  have hs2 := hb2.size
  replace e0 := keep_cell hb2 e0
  replace e1 := keep_cell hb2 e1
  replace e2 := keep_cell hb2 e2
  replace e3 := keep_cell hb2 e3
  have hbb := bel_trans (bel_trans b1 hb1) hb2
  clear hb1 hb2 b1 hbox
  go_wp2_with fail
  go_at_call 51
  refine (spec_l03Bits l _ _ _ (h.kept hbb) (by have := HK.out.1; omega) HK.out.2.1).mono ?_
  rintro e w3 ⟨bb, rfl, _, r3, hb3⟩
  have lb3 := r3.lt
  have hs3 := hb3.size
  replace e0 := keep_cell hb3 e0
  replace e1 := keep_cell hb3 e1
  replace e2 := keep_cell hb3 e2
  replace e3 := keep_cell hb3 e3
  replace hbb := bel_trans hbb hb3
  have hz := World.rowIs_made w3 (.bool false) 6400 4
  obtain ⟨g, hg⟩ : ∃ g, g = bitsOf l := ⟨_, rfl⟩
  rw [← hg] at r3
  have HG := hide hg
  obtain ⟨p0, hp0⟩ : ∃ p0 : Nat, b.y0 = (p0 : Int) - 40 := ⟨(b.y0 + 40).toNat, by omega⟩
  obtain ⟨q0, hq0⟩ : ∃ q0 : Nat, b.x0 = (q0 : Int) - 40 := ⟨(b.x0 + 40).toNat, by omega⟩
  have HP := hide hp0
  have HQ := hide hq0
  clear hb3 hg hp0 hq0 hv hb
  go_wp2_with fail
  clear hm
  go_loopw [7] (fun s wr => ∃ (p : Nat) (f : Grid), p0 ≤ p ∧ p ≤ 80 ∧ s = .int .i64 ((p : Int) - 40) ∧ wr.rowIs w3.heap.size 4 6400 (gv f) ∧ (∀ u v, u < 80 → v < 80 → f u v = (boxG b g u v && decide (u < p))) ∧ Below w3.heap.size w3 wr) (fun s _ => (40 - intOf s).toNat)
  case atStart =>
    refine ⟨p0, fun _ _ => false, Nat.le_refl _, by have := HP.out; omega, by rw [HP.out], hz, fun u v _ _ => ?_, (by repeat (first | with_reducible exact Below.refl _ _ | with_reducible assumption | with_reducible refine bel_alloc ?_ _ | with_reducible refine bel_drew ?_ | with_reducible refine bel_drewN ?_ _ | with_reducible refine bel_set ?_ (by (try simp) <;> omega) _ | with_reducible refine bel_trans ?_ (by assumption)))⟩
    have := HP.out
    symm
    rw [Bool.eq_false_iff]
    simp only [boxG, ne_eq, Bool.and_eq_true, decide_eq_true_eq, Rc.has_iff]
    omega
  case round =>
    obtain ⟨p, f, hp, hp80, rfl, hrow, hf, hbl⟩ := hrel
    have HF := hide hf
    clear hf hz
    have d0 := keep_cell hbl e0
    have d1 := keep_cell hbl e1
    have d2 := keep_cell hbl e2
    have d3 := keep_cell hbl e3
    by_cases hy : (p : Int) - 40 < b.y1
    · obtain ⟨wo, rfl⟩ : ∃ wo : World, wo = wr := ⟨_, rfl⟩
      go_wp2_with fail
      go_loopw [8] (fun s wz => ∃ (q : Nat) (f : Grid), q0 ≤ q ∧ q ≤ 80 ∧ s = .int .i64 ((q : Int) - 40) ∧ wz.rowIs w3.heap.size 4 6400 (gv f) ∧ (∀ u v, u < 80 → v < 80 → f u v = (boxG b g u v && (decide (u < p) || (decide (u = p) && decide (v < q))))) ∧ Below w3.heap.size w3 wz) (fun s _ => (40 - intOf s).toNat)
      case atStart =>
        refine ⟨q0, f, Nat.le_refl _, by have := HQ.out; omega, by rw [HQ.out], hrow, fun u v hu hv => ?_, hbl⟩
        have := HQ.out
        rw [HF.out u v hu hv, Bool.eq_iff_iff]
        simp only [boxG, Bool.and_eq_true, Bool.or_eq_true, decide_eq_true_eq, Rc.has_iff]
        constructor
        · rintro ⟨h1, h2⟩; exact ⟨h1, .inl h2⟩
        · rintro ⟨h1, h2⟩; exact ⟨h1, by omega⟩
      case round =>
        obtain ⟨q, f2, hq, hq80, rfl, hrow2, hf2, hbl2⟩ := hrel
        have HF2 := hide hf2
        clear hf2 hrow d0 d1 d2 d3
        have d0 := keep_cell hbl2 e0
        have d1 := keep_cell hbl2 e1
        have d2 := keep_cell hbl2 e2
        have d3 := keep_cell hbl2 e3
        by_cases hx : (q : Int) - 40 < b.x1
        · have hp79 : p < 80 := by omega
          have hq79 : q < 80 := by omega
          have r4 : _root_.Go.World.rowIs _ bb 4 6400 (gv g) := r3.of_block (hbl2.block bb lb3)
          have c1 := r4.cell (i := p * 80 + q) (by omega)
          rw [gv_at _ hq79] at c1
          have c2 := hrow2.cell (i := p * 80 + q) (by omega)
          have c3 := hrow2.frozen (p * 80 + q)
          have hin : boxG b g p q = g p q := by
            have := HP.out
            have := HQ.out
            rw [boxG, Rc.has_iff.2 (by omega), Bool.and_true]
          have HIN := hide hin
          clear hin r4
          go_wp2_with (go_at_call 56; refine (spec_l03At p q hp79 hq79 _).mono ?_; rintro e w4 ⟨rfl, rfl⟩)
          go_roundw
          case rel =>
            refine ⟨q + 1, upd f2 p q (g p q), by omega, by omega, by go_num, row_upd hrow2 hq79 _, fun u v hu hv => ?_, hbl2.setCell (Nat.le_refl _) _⟩
            by_cases e : u = p ∧ v = q
            · obtain ⟨rfl, rfl⟩ := e
              rw [upd_same, HIN.out]
              simp
            · rw [upd_other e, HF2.out u v hu hv, Bool.eq_iff_iff]
              simp only [Bool.and_eq_true, Bool.or_eq_true, decide_eq_true_eq]
              constructor
              · rintro ⟨h1, h2⟩; exact ⟨h1, by omega⟩
              · rintro ⟨h1, h2⟩; exact ⟨h1, by omega⟩
          case measure => simp [intOf]; omega
        · go_wp2_with fail
          go_roundw
          case rel =>
            refine ⟨p + 1, f2, by omega, by omega, by go_num, hrow2, fun u v hu hv => ?_, hbl2⟩
            rw [HF2.out u v hu hv, Bool.eq_iff_iff]
            simp only [boxG, Bool.and_eq_true, Bool.or_eq_true, decide_eq_true_eq, Rc.has_iff]
            constructor
            · rintro ⟨h1, h2⟩; exact ⟨h1, by omega⟩
            · rintro ⟨h1, h2⟩; exact ⟨h1, by omega⟩
          case measure => simp [intOf]; omega
    · go_wp2_with fail
      go_at_call 57
      refine ((spec_l03Canon _ _ _ _ hrow).mono fun _ _ => retS_of).mono ?_
      rintro e w9 ⟨a9, c9, rfl, ho9, hb9⟩
      have hge : GEq f (boxG b (bitsOf l)) := fun u v hu hv => by
        rw [HF.out u v hu hv, HG.out, Bool.eq_iff_iff]
        simp only [boxG, Bool.and_eq_true, decide_eq_true_eq, Rc.has_iff]
        constructor
        · rintro ⟨h1, h2⟩; exact h1
        · rintro h1; exact ⟨h1, by omega⟩
      rw [regionL_congr hge] at ho9 ⊢
      have hbq := bel_trans hbb hbl
      go_wp2_with fail
      go_ret
      exact ⟨a9, c9, rfl, own_base ho9 hbq.size, bel_trans hbq hb9⟩
end Go.Proofs.Ytdnbocngbmbofaa
