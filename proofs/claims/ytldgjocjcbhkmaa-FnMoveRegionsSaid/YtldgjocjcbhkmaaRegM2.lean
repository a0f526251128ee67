/- Contracts: the program's image of a region under a transform. -/
import Derived.Test.YtldgjocjcbhkmaaRegM
namespace Go.Proofs.Ytldgjocjcbhkmaa
open Go.RowKit
attribute [local go_sem low] cell_alloc_ite frozen_alloc_ite

theorem bits_map_take {o tx ty : Int} {l : List Rc} {i : Nat} (hy : i < l.length) (u v : Nat) : bitsOf ((l.take (i + 1)).map (mvRc o tx ty)) u v = (bitsOf ((l.take i).map (mvRc o tx ty)) u v || (mvRc o tx ty l[i]).has u v) := by
  unfold bitsOf
  rw [map_take1 hy, List.any_append]
  simp only [List.any_cons, List.any_nil, Bool.or_false]
set_option maxRecDepth 100000 in
set_option maxHeartbeats 3200000 in
theorem impl_MoveRegion (l : List Rc) (o tx ty : Int) (a : Option Addr) (cap : Nat) (w : World) (h : RectsAt w.heap.size w a l) (hn : l.length ≤ 2000000) :
    Calls Try.prog 63 #[.agg #[.int .i64 o, .int .i64 tx, .int .i64 ty], .slice a l.length cap] w (RetSB w (movR o tx ty l) (movB o tx ty l)) := by
  have hbox : RectsAt (w.alloc (.cells #[.int .i64 o, .int .i64 tx, .int .i64 ty] 54)).heap.size (w.alloc (.cells #[.int .i64 o, .int .i64 tx, .int .i64 ty] 54)) a l := h.kept (by repeat (first | with_reducible exact Below.refl _ _ | with_reducible assumption | with_reducible refine bel_alloc ?_ _ | with_reducible refine bel_drew ?_ | with_reducible refine bel_drewN ?_ _ | with_reducible refine bel_set ?_ (by (try simp) <;> omega) _ | with_reducible refine bel_trans ?_ (by assumption)))
  cases ht : vTr o tx ty
  · obtain ⟨m1, m2⟩ := movR_no (o := o) (tx := tx) (ty := ty) (l := l) (by rw [ht]; rfl)
    rw [m1, m2]
    clear m1 m2
    go_enter Try.func63, Try.ntmps63
    go_wp2_with (go_at_call 118; refine (impl_IsValidTransform _ _ _ _).mono ?_; rintro e w1 ⟨rfl, hb1⟩)
    go_ret2
    exact retSB_nil rfl (bel_trans ((Below.refl w.heap.size w).alloc (Nat.le_refl _) _) hb1)
  cases hv : isReg l
  · obtain ⟨m1, m2⟩ := movR_no (o := o) (tx := tx) (ty := ty) (l := l) (by rw [ht, hv]; rfl)
    rw [m1, m2]
    clear m1 m2
    go_enter Try.func63, Try.ntmps63
    go_wp2_with fail
    go_at_call 118
    refine (impl_IsValidTransform _ _ _ _).mono ?_
    rintro e w1 ⟨rfl, hb1⟩
    go_wp2_with fail
    go_at_call 30
    refine (impl_IsRegion l _ _ _ (hbox.kept hb1) hn).mono ?_
    rintro e w2 ⟨rfl, hb2⟩
    go_wp2_with fail
    go_ret2
    exact retSB_nil rfl (bel_trans (bel_trans ((Below.refl w.heap.size w).alloc (Nat.le_refl _) _) hb1) hb2)
  obtain ⟨m1, m2⟩ := movR_ok (o := o) (tx := tx) (ty := ty) (l := l) (by rw [ht, hv]; rfl)
  rw [m1, m2]
  have k := isReg_iff.1 hv
  have HK := hide k
  have htb := vTr_iff.1 ht
  have HO := hide htb.1
  have HX := hide htb.2.1
  have HY := hide htb.2.2
  clear m1 m2 k htb
  go_enter Try.func63, Try.ntmps63
  go_wp2_with fail
  go_at_call 118
  refine (impl_IsValidTransform _ _ _ _).mono ?_
  rintro e w1 ⟨rfl, hb1⟩
  have b1 := ((Below.refl w.heap.size w).alloc (Nat.le_refl _) (.cells #[.int .i64 o, .int .i64 tx, .int .i64 ty] 54))
  go_wp2_with fail
  go_at_call 30
  refine (impl_IsRegion l _ _ _ (hbox.kept hb1) hn).mono ?_
  rintro e w2 ⟨rfl, hb2⟩
  have hb12 := bel_trans hb1 hb2
  have e0 := (hb12.cell (p := ⟨w.heap.size, 0, none⟩) (by simp)).trans (show _ = some (.int .i64 o) by simp [go_sem])
  have e1 := (hb12.cell (p := ⟨w.heap.size, 1, none⟩) (by simp)).trans (show _ = some (.int .i64 tx) by simp [go_sem])
  have e2 := (hb12.cell (p := ⟨w.heap.size, 2, none⟩) (by simp)).trans (show _ = some (.int .i64 ty) by simp [go_sem])
  have hs2 := hb12.size
  simp only [World.size_alloc] at hs2
  have hbb := bel_trans b1 hb12
  have hz := zero_rowF w2
  clear hb1 hb2 hb12 b1 hbox
  go_wp2_with fail
  clear ht hv
  go_loopw [22] (fun s wr => ∃ i : Nat, i ≤ l.length ∧ s = .int .i64 i ∧ wr.rowIs w2.heap.size 103 6400 (gv (bitsOf ((l.take i).map (mvRc o tx ty)))) ∧ imgOk o tx ty (l.take i) = true ∧ Below w2.heap.size w2 wr) (fun s _ => l.length - (intOf s).toNat)
  case atStart => exact ⟨0, Nat.zero_le _, rfl, hz, rfl, (by repeat (first | with_reducible exact Below.refl _ _ | with_reducible assumption | with_reducible refine bel_alloc ?_ _ | with_reducible refine bel_drew ?_ | with_reducible refine bel_drewN ?_ _ | with_reducible refine bel_set ?_ (by (try simp) <;> omega) _ | with_reducible refine bel_trans ?_ (by assumption)))⟩
  case round =>
    obtain ⟨i, hi, rfl, hrow, himg, hbl⟩ := hrel
    have HI := hide himg
    clear himg hz
    by_cases hy : i < l.length
    · obtain ⟨g, ha, hg, c0, c1, c2, c3⟩ := h.below (bel_trans hbb hbl) (Nat.le_refl _) i l[i] (List.getElem?_eq_getElem hy)
      obtain ⟨x1, x2, x3, y1, y2, y3⟩ := vRect_iff.1 (HK.out.2.1 l[i] (List.getElem_mem hy))
      subst ha
      have t0 := keep_cell hbl e0
      have t1 := keep_cell hbl e1
      have t2 := keep_cell hbl e2
      have hs3 := hbl.size
      cases hv : (mvRc o tx ty l[i]).ok
      · have HV := hide (show vRect (mr0 o tx l[i].x0 l[i].y0 l[i].x1 l[i].y1) (mr1 o ty l[i].x0 l[i].y0 l[i].x1 l[i].y1) (mr2 o tx l[i].x0 l[i].y0 l[i].x1 l[i].y1) (mr3 o ty l[i].x0 l[i].y0 l[i].x1 l[i].y1) = false from hv)
        have HN := hide (img_no hy hv)
        clear hv
        go_wp2_with fail
        go_at_call 119
        refine (impl_moveRect _ _ _ _ _ _ _ HO.out HX.out HY.out (by omega) (by omega) (by omega) (by omega) _).mono ?_
        rintro e w3 ⟨rfl, hb3⟩
        go_wp2_with (go_at_call 120; refine (impl_IsValidRect _ _ _ _ _).mono ?_; rintro e w4 ⟨he, hb4⟩; rw [HV.out] at he; subst he)
        go_ret2
        rw [show imgR o tx ty l = [] from by simp [imgR, HN.out], HN.out]
        refine retSB_nil rfl ?_
        have hbq := bel_trans hbb hbl
        exact bel_trans (bel_alloc (bel_trans (bel_alloc hbq _) hb3) _) hb4
      · have HV := hide (show vRect (mr0 o tx l[i].x0 l[i].y0 l[i].x1 l[i].y1) (mr1 o ty l[i].x0 l[i].y0 l[i].x1 l[i].y1) (mr2 o tx l[i].x0 l[i].y0 l[i].x1 l[i].y1) (mr3 o ty l[i].x0 l[i].y0 l[i].x1 l[i].y1) = true from hv)
        have HVO := hide hv
        clear hv
        go_wp2_with fail
        go_at_call 119
        refine (impl_moveRect _ _ _ _ _ _ _ HO.out HX.out HY.out (by omega) (by omega) (by omega) (by omega) _).mono ?_
        rintro e w3 ⟨rfl, hb3⟩
        have hrow3 := rowIs_kept (hrow.alloc _) hb3
        have hs4 := hb3.size
        simp only [World.size_alloc] at hs4
        go_wp2_with fail
        go_at_call 120
        refine (impl_IsValidRect _ _ _ _ _).mono ?_
        rintro e w4 ⟨he, hb4⟩
        rw [HV.out] at he
        subst he
        have hrow4 := rowIs_kept (hrow3.alloc _) hb4
        have hs5 := hb4.size
        simp only [World.size_alloc] at hs5
        have k0 := (hb4.cell (p := ⟨w3.heap.size, 0, none⟩) (by simp)).trans (show _ = some (.int .i64 (mr0 o tx l[i].x0 l[i].y0 l[i].x1 l[i].y1)) by simp [go_sem])
        have k1 := (hb4.cell (p := ⟨w3.heap.size, 1, none⟩) (by simp)).trans (show _ = some (.int .i64 (mr1 o ty l[i].x0 l[i].y0 l[i].x1 l[i].y1)) by simp [go_sem])
        have k2 := (hb4.cell (p := ⟨w3.heap.size, 2, none⟩) (by simp)).trans (show _ = some (.int .i64 (mr2 o tx l[i].x0 l[i].y0 l[i].x1 l[i].y1)) by simp [go_sem])
        have k3 := (hb4.cell (p := ⟨w3.heap.size, 3, none⟩) (by simp)).trans (show _ = some (.int .i64 (mr3 o ty l[i].x0 l[i].y0 l[i].x1 l[i].y1)) by simp [go_sem])
        have hbq := bel_trans (bel_alloc (bel_trans (bel_alloc hbl _) hb3) _) hb4
        clear hb3 hb4
        go_wp2_with (go_at_call 121; refine (impl_put _ _ _ _ _ _ _ _ hrow4).mono ?_; rintro e w5 ⟨rfl, hrow5, hb5⟩)
        go_roundw
        case rel =>
          refine ⟨i + 1, hy, by go_num, hrow5.congr fun n hn => ?_, by rw [img_take hy, HI.out, HVO.out]; rfl, hbq.trans hb5⟩
          simp only [gv]
          rw [bits_map_take hy]
          rfl
        case measure => simp [intOf]; omega
    · have hti : l.take i = l := List.take_of_length_le (by omega)
      rw [hti] at hrow
      have hio : imgOk o tx ty l = true := by have := HI.out; rwa [hti] at this
      have HIO := hide hio
      clear hti HI hio
      go_wp2_with fail
      go_at_call 89
      refine ((impl_region _ _ _ _ hrow).mono fun _ _ => retS_of).mono ?_
      rintro e w3 ⟨a3, c3, he, ho3, hb3⟩
      have hres : regionL (bitsOf (l.map (mvRc o tx ty))) = imgR o tx ty l := by rw [imgR, if_pos HIO.out]
      rw [hres] at he ho3
      subst he
      clear hres
      have hbq := bel_trans hbb hbl
      go_wp2_with fail
      go_ret2
      rw [HIO.out]
      exact ⟨a3, c3, rfl, own_base ho3 hbq.size, bel_trans hbq hb3⟩
end Go.Proofs.Ytldgjocjcbhkmaa
