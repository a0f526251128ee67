/- Contracts: the image of a region under a transform. -/
import Derived.Test.YtldgjocjcbhkmaaMvr
import Derived.Test.YtldgjocjcbhkmaaRegL
import Derived.Deep.RegionHeld3
import Derived.Deep.DeepCutAuto
namespace Go.Proofs.Ytldgjocjcbhkmaa
open Go.RowKit
attribute [local go_sem low] cell_alloc_ite frozen_alloc_ite

def imgOk (o tx ty : Int) (l : List Rc) : Bool := l.all fun r => (mvRc o tx ty r).ok
def movB (o tx ty : Int) (l : List Rc) : Bool := vTr o tx ty && isReg l && imgOk o tx ty l
def imgR (o tx ty : Int) (l : List Rc) : List Rc := if imgOk o tx ty l then regionL (bitsOf (l.map (mvRc o tx ty))) else []
def movR (o tx ty : Int) (l : List Rc) : List Rc := if vTr o tx ty && isReg l then imgR o tx ty l else []
theorem imgR_len (o tx ty : Int) (l : List Rc) : (imgR o tx ty l).length ≤ 2000000 := by
  unfold imgR
  split
  · exact region_lenN _
  · simp
theorem movR_len (o tx ty : Int) (l : List Rc) : (movR o tx ty l).length ≤ 2000000 := by
  unfold movR
  split
  · exact imgR_len _ _ _ _
  · simp
theorem img_take {o tx ty : Int} {l : List Rc} {i : Nat} (hy : i < l.length) : imgOk o tx ty (l.take (i + 1)) = (imgOk o tx ty (l.take i) && (mvRc o tx ty l[i]).ok) := by
  unfold imgOk
  rw [List.take_succ_eq_append_getElem hy, List.all_append]
  simp only [List.all_cons, List.all_nil, Bool.and_true]
theorem img_no {o tx ty : Int} {l : List Rc} {i : Nat} (hy : i < l.length) (h : (mvRc o tx ty l[i]).ok = false) : imgOk o tx ty l = false := by
  rw [Bool.eq_false_iff]
  intro hh
  have := List.all_eq_true.1 hh l[i] (List.getElem_mem hy)
  rw [h] at this
  cases this
theorem map_take1 {o tx ty : Int} {l : List Rc} {i : Nat} (hy : i < l.length) : (l.take (i + 1)).map (mvRc o tx ty) = (l.take i).map (mvRc o tx ty) ++ [mvRc o tx ty l[i]] := by
  rw [List.take_succ_eq_append_getElem hy, List.map_append]; rfl
set_option maxRecDepth 100000 in
set_option maxHeartbeats 3200000 in
theorem spec_l03Moved (o tx ty : Int) (ht : vTr o tx ty = true) (l : List Rc) (a : Option Addr) (cap : Nat) (w : World) (h : RectsAt w.heap.size w a l) (hn : l.length ≤ 1000000) (hok : ∀ r ∈ l, r.ok = true) :
    Calls Try.prog 117 #[.agg #[.int .i64 o, .int .i64 tx, .int .i64 ty], .slice a l.length cap] w (RetSB w (imgR o tx ty l) (imgOk o tx ty l)) := by
  have htb := vTr_iff.1 ht
  have HO := hide htb.1
  have HX := hide htb.2.1
  have HY := hide htb.2.2
  have HOK := hide hok
  clear htb ht hok
  obtain ⟨ii, hii, hiz⟩ := Option.map_eq_some_iff.1 rect_info
  simp only [Prod.mk.injEq] at hiz
  obtain ⟨hz, hsz, hby⟩ := hiz
  have HZ := hide (And.intro hii (And.intro hz (And.intro hsz hby)))
  clear hii hz hsz hby
  go_enter Try.func117, Try.ntmps117
  go_wp2_with fail
  go_loopw [6, 7] (fun sv s wr => ∃ i : Nat, i ≤ l.length ∧ s = .int .i64 i ∧ OwnRects wr (w.heap.size + 1) sv ((l.take i).map (mvRc o tx ty)) ∧ imgOk o tx ty (l.take i) = true ∧
      wr.cell? ⟨w.heap.size, 0, none⟩ = some (.int .i64 o) ∧ wr.cell? ⟨w.heap.size, 1, none⟩ = some (.int .i64 tx) ∧ wr.cell? ⟨w.heap.size, 2, none⟩ = some (.int .i64 ty) ∧ w.heap.size < wr.heap.size ∧ Below w.heap.size w wr) (fun _ s _ => l.length - (intOf s).toNat)
  case atStart =>
    refine ⟨0, Nat.zero_le _, rfl, ?_, rfl, by simp [go_sem], by simp [go_sem], by simp [go_sem], by simp; omega, (by repeat (first | with_reducible exact Below.refl _ _ | with_reducible assumption | with_reducible refine bel_alloc ?_ _ | with_reducible refine bel_drew ?_ | with_reducible refine bel_drewN ?_ _ | with_reducible refine bel_set ?_ (by (try simp) <;> omega) _ | with_reducible refine bel_trans ?_ (by assumption)))⟩
    have hq := World.ownsRow_lit (base := w.heap.size + 1) (e := 39) (size := 4) (w.alloc (.cells #[.int .i64 o, .int .i64 tx, .int .i64 ty] 54)) #[] 0 (by simp) (by simp [maxLen]) rfl
    rw [World.size_alloc] at hq
    exact hq
  case round =>
    obtain ⟨i, hi, rfl, hown, himg, t0, t1, t2, hzz, hbl⟩ := hrel
    have HI := hide himg
    clear himg
    by_cases hy : i < l.length
    · obtain ⟨g, ha, hg, c0, c1, c2, c3⟩ := h.below hbl (Nat.le_refl _) i l[i] (List.getElem?_eq_getElem hy)
      obtain ⟨x1, x2, x3, y1, y2, y3⟩ := vRect_iff.1 (HOK.out l[i] (List.getElem_mem hy))
      subst ha
      have hx0 : (0 : Int) ≤ (i : Int) := Int.natCast_nonneg _
      have hx1 : (i : Int) < (l.length : Int) := by omega
      have hs1 := hbl.size
      obtain ⟨wo, rfl⟩ : ∃ wo : World, wo = wr := ⟨_, rfl⟩
      go_upto_region 5 with fail
      go_cut [8] (fun s8 wz => ∃ gg : Nat, s8 = .pointer (some ⟨gg, 0, none⟩) ∧ wz.cell? ⟨gg, 0, none⟩ = some (.int .i64 (mr0 o tx l[i].x0 l[i].y0 l[i].x1 l[i].y1)) ∧ wz.cell? ⟨gg, 1, none⟩ = some (.int .i64 (mr1 o ty l[i].x0 l[i].y0 l[i].x1 l[i].y1)) ∧
        wz.cell? ⟨gg, 2, none⟩ = some (.int .i64 (mr2 o tx l[i].x0 l[i].y0 l[i].x1 l[i].y1)) ∧ wz.cell? ⟨gg, 3, none⟩ = some (.int .i64 (mr3 o ty l[i].x0 l[i].y0 l[i].x1 l[i].y1)) ∧ gg < wz.heap.size ∧ Below wo.heap.size wo wz)
      case first =>
        go_region_held3 (fun w' => w'.cell? ⟨w.heap.size, 0, none⟩ = some (.int .i64 o) ∧ w'.cell? ⟨w.heap.size, 1, none⟩ = some (.int .i64 tx) ∧ w'.cell? ⟨w.heap.size, 2, none⟩ = some (.int .i64 ty) ∧
            w'.cell? ⟨g, i * 4, none⟩ = some (.int .i64 l[i].x0) ∧ w'.cell? ⟨g, i * 4 + 1, none⟩ = some (.int .i64 l[i].y0) ∧ w'.cell? ⟨g, i * 4 + 2, none⟩ = some (.int .i64 l[i].x1) ∧ w'.cell? ⟨g, i * 4 + 3, none⟩ = some (.int .i64 l[i].y1) ∧ Below wo.heap.size wo w')
          (((repeat' apply And.intro) <;> first | (simp [go_sem, *]; done) | (simp [go_sem, *]; intros; omega) | (((try simp [*]) <;> omega); done) | ((repeat (first | with_reducible exact Below.refl _ _ | with_reducible assumption | with_reducible refine bel_alloc ?_ _ | with_reducible refine bel_drew ?_ | with_reducible refine bel_drewN ?_ _ | with_reducible refine bel_set ?_ (by (try simp) <;> omega) _ | with_reducible refine bel_trans ?_ (by assumption))); done) | (simp [go_sem, *, ↓IntWalk.iteOmega]; done) | (simp [go_sem, *, ↓IntWalk.iteOmega]; intros; omega))) ((go_at_call 146; refine (spec_l02Move _ _ _ _ _ _ _ HO.out HX.out HY.out (by omega) (by omega) (by omega) (by omega) _).mono ?_; rintro e w1 ⟨rfl, hb⟩; obtain ⟨_, _, hc, hf⟩ := bcellI hb; have hs := hb.size; (try simp at hs)))
        all_goals
          go_wp2_with fail
          go_meet
          refine ⟨_, rfl, ?_⟩
          exact (by (((repeat' apply And.intro) <;> first | (simp [go_sem, *]; done) | (simp [go_sem, *]; intros; omega) | (((try simp [*]) <;> omega); done) | ((repeat (first | with_reducible exact Below.refl _ _ | with_reducible assumption | with_reducible refine bel_alloc ?_ _ | with_reducible refine bel_drew ?_ | with_reducible refine bel_drewN ?_ _ | with_reducible refine bel_set ?_ (by (try simp) <;> omega) _ | with_reducible refine bel_trans ?_ (by assumption))); done) | (simp [go_sem, *, ↓IntWalk.iteOmega]; done) | (simp [go_sem, *, ↓IntWalk.iteOmega]; intros; omega))))
      case rest =>
        obtain ⟨gg, rfl, d0, d1, d2, d3, hgg, hbz⟩ := hcut
        have hown1 : OwnRects _ (w.heap.size + 1) u6 ((l.take i).map (mvRc o tx ty)) := own_next hown hbz
        have hbl1 := hbl.trans (hbz.mono hs1)
        have hbo : ∀ j v, wo.cell? ⟨w.heap.size, j, none⟩ = some v → wc.cell? ⟨w.heap.size, j, none⟩ = some v := fun j v hv => keep_cell hbz hv
        have e0 := hbo 0 _ t0
        have e1 := hbo 1 _ t1
        have e2 := hbo 2 _ t2
        have hsz := hbz.size
        clear hbo t0 t1 t2 c0 c1 c2 c3 hown
        cases hv : (mvRc o tx ty l[i]).ok
        · have HV := hide (show vRect (mr0 o tx l[i].x0 l[i].y0 l[i].x1 l[i].y1) (mr1 o ty l[i].x0 l[i].y0 l[i].x1 l[i].y1) (mr2 o tx l[i].x0 l[i].y0 l[i].x1 l[i].y1) (mr3 o ty l[i].x0 l[i].y0 l[i].x1 l[i].y1) = false from hv)
          have HN := hide (img_no hy hv)
          clear hv
          go_wp2_with (go_at_call 122; refine (spec_IsValidRect _ _ _ _ _).mono ?_; rintro e w2 ⟨he, hb2⟩; rw [HV.out] at he; subst he)
          go_ret2
          rw [show imgR o tx ty l = [] from by simp [imgR, HN.out], HN.out]
          exact retSB_nil rfl (bel_trans hbl1 hb2)
        · have HV := hide (show vRect (mr0 o tx l[i].x0 l[i].y0 l[i].x1 l[i].y1) (mr1 o ty l[i].x0 l[i].y0 l[i].x1 l[i].y1) (mr2 o tx l[i].x0 l[i].y0 l[i].x1 l[i].y1) (mr3 o ty l[i].x0 l[i].y0 l[i].x1 l[i].y1) = true from hv)
          have HVO := hide hv
          have hlen : ((l.take i).map (mvRc o tx ty)).length ≤ 1000000 := by rw [List.length_map]; exact Nat.le_trans (List.length_take_le' i l) hn
          have HLEN := hide hlen
          clear hv hlen
          go_wp2_with fail
          go_at_call 122
          refine (spec_IsValidRect _ _ _ _ _).mono ?_
          rintro e w2 ⟨he, hb2⟩
          rw [HV.out] at he
          subst he
          have hown2 := own_next hown1 hb2
          have hown3 : w2.ownsRow (w.heap.size + 1) 39 4 u6 ((l.take i).map (mvRc o tx ty)).length (rowL ((l.take i).map (mvRc o tx ty))) := hown2
          have hbl2 := bel_trans hbl1 hb2
          have f0 := keep_cell hb2 d0
          have f1 := keep_cell hb2 d1
          have f2 := keep_cell hb2 d2
          have f3 := keep_cell hb2 d3
          have k0 := keep_cell hb2 e0
          have k1 := keep_cell hb2 e1
          have k2 := keep_cell hb2 e2
          have hs2 := hb2.size
          have HO3 := hide hown3
          clear hown1 hown2 hown3 d0 d1 d2 d3 e0 e1 e2
          go_wp2_with (at_builtin; refine wpList_append_own _ rfl _ _ 24 rfl (w.heap.size + 1) 39 ii (.agg #[.int .i64 0, .int .i64 0, .int .i64 0, .int .i64 0]) 4 32 Try.underlying24 HZ.out.1 HZ.out.2.1 HZ.out.2.2.1 HZ.out.2.2.2 rfl (by decide) _ _ _ rfl (HO3.out.alloc _) ⟨w2.heap.size, 0, none⟩ 1 1 (rcV (mvRc o tx ty l[i])) rfl rfl (cells_new _ _ _ _ rfl) (rcV_one _) (by have := HLEN.out; unfold maxLen; omega) (by have := HLEN.out; omega) (by simp; omega) ?_; intro v' w3 ho3 hg3 _)
          go_roundw
          case rel =>
            have hbl3 : Below w.heap.size w w3 := Below.grown (hbl2.alloc (by omega) _) hg3 (by simp; omega) (fun k hk => by have := (HO3.out.lt k hk).1; omega)
            have hfar : ∀ j v, w2.cell? ⟨w.heap.size, j, none⟩ = some v → w3.cell? ⟨w.heap.size, j, none⟩ = some v := fun j v hv =>
              hg3.cell (keep_alloc hv _) fun e => by have := (HO3.out.lt w.heap.size e.symm).1; omega
            refine ⟨i + 1, hy, by go_num, ?_, by rw [img_take hy, HI.out, HVO.out]; rfl, hfar 0 _ k0, hfar 1 _ k1, hfar 2 _ k2, by have := hg3.size; simp at this; omega, hbl3⟩
            rw [map_take1 hy, OwnRects, rowL_append, rowL_one, List.length_append]
            exact ho3
          case measure => simp [intOf]; omega
    · have hti : l.take i = l := List.take_of_length_le (by omega)
      rw [hti] at hown
      have hio : imgOk o tx ty l = true := by have := HI.out; rwa [hti] at this
      have HIO := hide hio
      obtain ⟨a4, c4, rfl⟩ := own_slice hown
      have hok2 : ∀ r ∈ l.map (mvRc o tx ty), r.ok = true := by
        intro r hr
        obtain ⟨q, hq, rfl⟩ := List.mem_map.1 hr
        exact List.all_eq_true.1 hio q hq
      have HOK2 := hide hok2
      have hln : (l.map (mvRc o tx ty)).length ≤ 1000000 := by rw [List.length_map]; exact hn
      obtain ⟨lm, hlm⟩ : ∃ lm, lm = l.map (mvRc o tx ty) := ⟨_, rfl⟩
      rw [← hlm] at hown hln ⊢
      have HLM := hide hlm
      clear hti HI hio hok2 hlm
      go_wp2_with fail
      go_at_call 77
      refine (spec_l03Bits lm _ _ _ (rects_at hown) hln (by rw [HLM.out]; exact HOK2.out)).mono ?_
      rintro e w2 ⟨b2, rfl, _, r2, hb2⟩
      go_wp2_with fail
      go_at_call 78
      refine ((spec_l03Canon _ _ _ _ r2).mono fun _ _ => retS_of).mono ?_
      rintro e w3 ⟨a3, c3, he, ho3, hb3⟩
      have hres : regionL (bitsOf lm) = imgR o tx ty l := by rw [HLM.out, imgR, if_pos HIO.out]
      rw [hres] at he ho3
      subst he
      have HRES := hide hres
      clear hres
      have hbb := bel_trans hbl hb2
      go_wp2_with fail
      go_ret2
      rw [HIO.out]
      exact ⟨a3, c3, rfl, own_base ho3 hbb.size, bel_trans hbb hb3⟩
theorem movR_no {o tx ty : Int} {l : List Rc} (h : (vTr o tx ty && isReg l) = false) : movR o tx ty l = [] ∧ movB o tx ty l = false := by simp [movR, movB, h]
theorem movR_ok {o tx ty : Int} {l : List Rc} (h : (vTr o tx ty && isReg l) = true) : movR o tx ty l = imgR o tx ty l ∧ movB o tx ty l = imgOk o tx ty l := by simp [movR, movB, h]
set_option maxRecDepth 100000 in
set_option maxHeartbeats 1600000 in
theorem spec_MoveRegion (l : List Rc) (o tx ty : Int) (a : Option Addr) (cap : Nat) (w : World) (h : RectsAt w.heap.size w a l) (hn : l.length ≤ 2000000) :
    Calls Try.prog 62 #[.agg #[.int .i64 o, .int .i64 tx, .int .i64 ty], .slice a l.length cap] w (RetSB w (movR o tx ty l) (movB o tx ty l)) := by
  have hbox : RectsAt (w.alloc (.cells #[.int .i64 o, .int .i64 tx, .int .i64 ty] 54)).heap.size (w.alloc (.cells #[.int .i64 o, .int .i64 tx, .int .i64 ty] 54)) a l := h.kept (by repeat (first | with_reducible exact Below.refl _ _ | with_reducible assumption | with_reducible refine bel_alloc ?_ _ | with_reducible refine bel_drew ?_ | with_reducible refine bel_drewN ?_ _ | with_reducible refine bel_set ?_ (by (try simp) <;> omega) _ | with_reducible refine bel_trans ?_ (by assumption)))
  cases ht : vTr o tx ty
  · obtain ⟨m1, m2⟩ := movR_no (o := o) (tx := tx) (ty := ty) (l := l) (by rw [ht]; rfl)
    rw [m1, m2]
    clear m1 m2
    go_enter Try.func62, Try.ntmps62
    go_wp2_with (go_at_call 116; refine (spec_IsValidTransform _ _ _ _).mono ?_; rintro e w1 ⟨rfl, hb1⟩)
    go_ret2
    exact retSB_nil rfl (bel_trans ((Below.refl w.heap.size w).alloc (Nat.le_refl _) _) hb1)
  cases hv : isReg l
  · obtain ⟨m1, m2⟩ := movR_no (o := o) (tx := tx) (ty := ty) (l := l) (by rw [ht, hv]; rfl)
    rw [m1, m2]
    clear m1 m2
    go_enter Try.func62, Try.ntmps62
    go_wp2_with fail
    go_at_call 116
    refine (spec_IsValidTransform _ _ _ _).mono ?_
    rintro e w1 ⟨rfl, hb1⟩
    go_wp2_with fail
    go_at_call 75
    refine (spec_l03Ok l _ _ _ (hbox.kept hb1) hn).mono ?_
    rintro e w2 ⟨rfl, hb2⟩
    go_wp2_with fail
    go_ret2
    exact retSB_nil rfl (bel_trans (bel_trans ((Below.refl w.heap.size w).alloc (Nat.le_refl _) _) hb1) hb2)
  obtain ⟨m1, m2⟩ := movR_ok (o := o) (tx := tx) (ty := ty) (l := l) (by rw [ht, hv]; rfl)
  rw [m1, m2]
  have k := isReg_iff.1 hv
  have HK := hide k
  have HT := hide ht
  clear m1 m2 k
  go_enter Try.func62, Try.ntmps62
  go_wp2_with fail
  go_at_call 116
  refine (spec_IsValidTransform _ _ _ _).mono ?_
  rintro e w1 ⟨rfl, hb1⟩
  have b1 := ((Below.refl w.heap.size w).alloc (Nat.le_refl _) (.cells #[.int .i64 o, .int .i64 tx, .int .i64 ty] 54))
  have hs1 := hb1.size
  simp only [World.size_alloc] at hs1
  go_wp2_with fail
  go_at_call 75
  refine (spec_l03Ok l _ _ _ (hbox.kept hb1) hn).mono ?_
  rintro e w2 ⟨rfl, hb2⟩
  have hb12 := bel_trans hb1 hb2
  have e0 := (hb12.cell (p := ⟨w.heap.size, 0, none⟩) (by simp)).trans (show _ = some (.int .i64 o) by simp [go_sem])
  have e1 := (hb12.cell (p := ⟨w.heap.size, 1, none⟩) (by simp)).trans (show _ = some (.int .i64 tx) by simp [go_sem])
  have e2 := (hb12.cell (p := ⟨w.heap.size, 2, none⟩) (by simp)).trans (show _ = some (.int .i64 ty) by simp [go_sem])
  go_wp2_with fail
  go_at_call 117
  refine (spec_l03Moved o tx ty HT.out l _ _ _ (hbox.kept hb12) (by have := HK.out.1; omega) HK.out.2.1).mono ?_
  rintro e w3 ⟨a3, c3, rfl, ho3, hb3⟩
  have hbb := bel_trans b1 hb12
  go_wp2_with fail
  go_ret2
  exact ⟨a3, c3, rfl, own_base ho3 hbb.size, bel_trans hbb hb3⟩
end Go.Proofs.Ytldgjocjcbhkmaa
