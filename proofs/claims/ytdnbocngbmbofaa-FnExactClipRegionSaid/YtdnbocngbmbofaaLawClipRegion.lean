/- The program's ClipRegion returns what the reference's returns, for all arguments. No condition. -/
import Derived.Test.YtdnbocngbmbofaaRows
import Derived.Test.YtdnbocngbmbofaaLawS
import Derived.Deep.RegionHeld3
import Derived.Test.YtdnbocngbmbofaaRegP
import Derived.Test.YtdnbocngbmbofaaLawT
namespace Go.Proofs.Ytdnbocngbmbofaa.lawFnExactClipRegion
open Go.ChangeShapes Go.WideShapes Go.ChangeAt Go.RowKit Go.Joins

theorem own : ownKnob Try.prog.godebug = none := by kernel_rfl
theorem laidOut : laidOutB Try.prog = true := by kernel_rfl

set_option maxHeartbeats 3200000 in
theorem walk (l0 : List Rc) (a0 : Option Addr) (c0 : Nat) (s1_0 s1_1 s1_2 s1_3 : Int) (hl0 : l0.length ≤ maxLen) (w : World) (hin0 : InRects w.heap.size w a0 l0) :
    Calls Try.prog 4 #[.slice a0 l0.length c0, .agg #[.int .i64 s1_0, .int .i64 s1_1, .int .i64 s1_2, .int .i64 s1_3]] w fun e w' => e = .returned (.bool true) ∧ Below w.heap.size w w' := by
  by_cases hn0 : l0.length ≤ 1048576
  · skip
    go_enter Try.func4, Try.ntmps4
    go_wp2_with fail
    have hb0 : Below w.heap.size w (w.alloc (.cells #[.int .i64 s1_0, .int .i64 s1_1, .int .i64 s1_2, .int .i64 s1_3] 34)) := (by repeat (first | with_reducible exact Below.refl _ _ | with_reducible assumption | with_reducible refine bel_alloc ?_ _ | with_reducible refine bel_drew ?_ | with_reducible refine bel_drewN ?_ _ | with_reducible refine bel_set ?_ (by (try simp) <;> omega) _ | with_reducible refine bel_trans ?_ (by assumption)))
    replace hin0 := in_at hin0 hb0
    have hs1_0 : (w.alloc (.cells #[.int .i64 s1_0, .int .i64 s1_1, .int .i64 s1_2, .int .i64 s1_3] 34)).cell? ⟨w.heap.size, 0, none⟩ = some (.int .i64 s1_0) := by simp [go_sem]
    have hs1_1 : (w.alloc (.cells #[.int .i64 s1_0, .int .i64 s1_1, .int .i64 s1_2, .int .i64 s1_3] 34)).cell? ⟨w.heap.size, 1, none⟩ = some (.int .i64 s1_1) := by simp [go_sem]
    have hs1_2 : (w.alloc (.cells #[.int .i64 s1_0, .int .i64 s1_1, .int .i64 s1_2, .int .i64 s1_3] 34)).cell? ⟨w.heap.size, 2, none⟩ = some (.int .i64 s1_2) := by simp [go_sem]
    have hs1_3 : (w.alloc (.cells #[.int .i64 s1_0, .int .i64 s1_1, .int .i64 s1_2, .int .i64 s1_3] 34)).cell? ⟨w.heap.size, 3, none⟩ = some (.int .i64 s1_3) := by simp [go_sem]
    have hlt : w.heap.size < (w.alloc (.cells #[.int .i64 s1_0, .int .i64 s1_1, .int .i64 s1_2, .int .i64 s1_3] 34)).heap.size := by simp
    generalize hW : (w.alloc (.cells #[.int .i64 s1_0, .int .i64 s1_1, .int .i64 s1_2, .int .i64 s1_3] 34)) = wb at *
    have HW := hide hW
    clear hW
    have hbel := Below.refl wb.heap.size wb
    go_at_call 15
    refine (laws_szRectS_ok _ _ _ (1048576) (by omega) (by omega) _).mono ?_
    rintro e w' ⟨rfl, rfl⟩
    have hz0 := not_neg_left (1048576) l0.length (by omega)
    go_wp2_with fail
    go_region_held3 (fun w' => w'.cell? ⟨w.heap.size, 0, none⟩ = some (.int .i64 s1_0) ∧ w'.cell? ⟨w.heap.size, 1, none⟩ = some (.int .i64 s1_1) ∧ w'.cell? ⟨w.heap.size, 2, none⟩ = some (.int .i64 s1_2) ∧ w'.cell? ⟨w.heap.size, 3, none⟩ = some (.int .i64 s1_3) ∧ Below wb.heap.size wb w') (first | (go_split_ands; ((repeat' apply And.intro) <;> first | exact keep_cell hb (by assumption) | exact bel_trans (by assumption) hb | exact bel_trans (bel_drew (by assumption)) hb)) | ((repeat' apply And.intro) <;> first | (simp [go_sem, *]; done) | exact (by repeat (first | with_reducible exact Below.refl _ _ | with_reducible assumption | with_reducible refine bel_alloc ?_ _ | with_reducible refine bel_drew ?_ | with_reducible refine bel_drewN ?_ _ | with_reducible refine bel_set ?_ (by (try simp) <;> omega) _ | with_reducible refine bel_trans ?_ (by assumption))))) ((first | (go_at_call 17; refine (laws_toRectS l0 _ _ _ (in_at hin0 (by repeat (first | with_reducible exact Below.refl _ _ | with_reducible assumption | with_reducible refine bel_alloc ?_ _ | with_reducible refine bel_drew ?_ | with_reducible refine bel_drewN ?_ _ | with_reducible refine bel_set ?_ (by (try simp) <;> omega) _ | with_reducible refine bel_trans ?_ (by assumption)))) hn0).mono ?_; rintro e w1 ⟨a_p, c_p, rfl, ho_p, hb⟩; have hA : Below wb.heap.size wb w1 := bel_trans (by repeat (first | with_reducible exact Below.refl _ _ | with_reducible assumption | with_reducible refine bel_alloc ?_ _ | with_reducible refine bel_drew ?_ | with_reducible refine bel_drewN ?_ _ | with_reducible refine bel_set ?_ (by (try simp) <;> omega) _ | with_reducible refine bel_trans ?_ (by assumption))) hb) | (go_at_call 25; refine (laws_toRect _ _ _ _ _).mono ?_; rintro e w2 ⟨rfl, hb⟩; have hB : Below w1.heap.size w1 w2 := bel_trans (by repeat (first | with_reducible exact Below.refl _ _ | with_reducible assumption | with_reducible refine bel_alloc ?_ _ | with_reducible refine bel_drew ?_ | with_reducible refine bel_drewN ?_ _ | with_reducible refine bel_set ?_ (by (try simp) <;> omega) _ | with_reducible refine bel_trans ?_ (by assumption))) hb; have ho_q := own_next ho_p hB) | (go_at_call 24; refine (spec_ClipRegion l0 ⟨s1_0, s1_1, s1_2, s1_3⟩ _ _ _ (rects_at ho_q) (by omega)).mono ?_; rintro e w3 ⟨a_w, c_w, rfl, ho_w, hb⟩; have hC : Below w2.heap.size w2 w3 := bel_trans (by repeat (first | with_reducible exact Below.refl _ _ | with_reducible assumption | with_reducible refine bel_alloc ?_ _ | with_reducible refine bel_drew ?_ | with_reducible refine bel_drewN ?_ _ | with_reducible refine bel_set ?_ (by (try simp) <;> omega) _ | with_reducible refine bel_trans ?_ (by assumption))) hb)))
    have hbel2 := bel_trans (bel_trans hbel hA) hB
    replace ho_w := own_base ho_w hbel2.size
    replace hs1_0 := keep_cell hC (keep_cell hB (keep_cell hA hs1_0))
    replace hs1_1 := keep_cell hC (keep_cell hB (keep_cell hA hs1_1))
    replace hs1_2 := keep_cell hC (keep_cell hB (keep_cell hA hs1_2))
    replace hs1_3 := keep_cell hC (keep_cell hB (keep_cell hA hs1_3))
    replace hbel := bel_trans hbel2 hC
    clear hA hB hC hbel2 ho_p ho_q
    go_wp2_with fail
    go_at_call 17
    refine (laws_toRectS l0 _ _ _ (in_at hin0 hbel) hn0).mono ?_
    rintro e w4 ⟨a_x0, c_x0, rfl, ho_x0, hb⟩
    have ne_w_x0 := hide (own_ne ho_w ho_x0)
    replace ho_w := own_next ho_w hb
    replace ho_x0 := own_base ho_x0 hbel.size
    replace hs1_0 := keep_cell hb hs1_0
    replace hs1_1 := keep_cell hb hs1_1
    replace hs1_2 := keep_cell hb hs1_2
    replace hs1_3 := keep_cell hb hs1_3
    replace hbel := hbel.trans (hb.mono hbel.size)
    clear hb
    go_wp2_with fail
    go_at_call 25
    refine (laws_toRect _ _ _ _ _).mono ?_
    rintro e w5 ⟨rfl, hb⟩
    replace ho_w := own_next ho_w hb
    replace ho_x0 := own_next ho_x0 hb
    replace hs1_0 := keep_cell hb hs1_0
    replace hs1_1 := keep_cell hb hs1_1
    replace hs1_2 := keep_cell hb hs1_2
    replace hs1_3 := keep_cell hb hs1_3
    replace hbel := hbel.trans (hb.mono hbel.size)
    clear hb
    go_wp2_with fail
    go_at_call 26
    refine (impl_ClipRegion l0 ⟨s1_0, s1_1, s1_2, s1_3⟩ _ _ _ (rects_at ho_x0) (by omega)).mono ?_
    rintro e w6 ⟨a_g, c_g, rfl, ho_g, hb⟩
    have ne_w_g := hide (own_ne ho_w ho_g)
    replace ho_w := own_next ho_w hb
    have ne_x0_g := hide (own_ne ho_x0 ho_g)
    replace ho_x0 := own_next ho_x0 hb
    replace ho_g := own_base ho_g hbel.size
    replace hs1_0 := keep_cell hb hs1_0
    replace hs1_1 := keep_cell hb hs1_1
    replace hs1_2 := keep_cell hb hs1_2
    replace hs1_3 := keep_cell hb hs1_3
    replace hbel := hbel.trans (hb.mono hbel.size)
    clear hb
    have hlen : (clipR l0 ⟨s1_0, s1_1, s1_2, s1_3⟩).length ≤ 2000000 := clipR_len l0 ⟨s1_0, s1_1, s1_2, s1_3⟩
    have HLEN := hide hlen
    clear hlen
    go_wp2_with fail
    go_at_call 20
    refine (laws_eqRectS (clipR l0 ⟨s1_0, s1_1, s1_2, s1_3⟩) _ _ _ _ _ (rects_at ho_g) (rects_at ho_w) HLEN.out).mono ?_
    rintro e w7 ⟨rfl, hb⟩
    replace ho_w := own_next ho_w hb
    replace ho_x0 := own_next ho_x0 hb
    replace ho_g := own_next ho_g hb
    replace hs1_0 := keep_cell hb hs1_0
    replace hs1_1 := keep_cell hb hs1_1
    replace hs1_2 := keep_cell hb hs1_2
    replace hs1_3 := keep_cell hb hs1_3
    replace hbel := hbel.trans (hb.mono hbel.size)
    clear hb
    go_wp2_with fail
    go_at_call 17
    refine (laws_toRectS l0 _ _ _ (in_at hin0 hbel) hn0).mono ?_
    rintro e w8 ⟨a_t, c_t, rfl, ho_t, hb⟩
    have ne_w_t := hide (own_ne ho_w ho_t)
    replace ho_w := own_next ho_w hb
    have ne_x0_t := hide (own_ne ho_x0 ho_t)
    replace ho_x0 := own_next ho_x0 hb
    have ne_g_t := hide (own_ne ho_g ho_t)
    replace ho_g := own_next ho_g hb
    replace ho_t := own_base ho_t hbel.size
    replace hs1_0 := keep_cell hb hs1_0
    replace hs1_1 := keep_cell hb hs1_1
    replace hs1_2 := keep_cell hb hs1_2
    replace hs1_3 := keep_cell hb hs1_3
    replace hbel := hbel.trans (hb.mono hbel.size)
    clear hb
    go_wp2_with fail
    go_at_call 20
    refine (laws_eqRectS (l0) _ _ _ _ _ (rects_at ho_x0) (rects_at ho_t) (by omega)).mono ?_
    rintro e w9 ⟨rfl, hb⟩
    replace ho_w := own_next ho_w hb
    replace ho_x0 := own_next ho_x0 hb
    replace ho_g := own_next ho_g hb
    replace ho_t := own_next ho_t hb
    replace hs1_0 := keep_cell hb hs1_0
    replace hs1_1 := keep_cell hb hs1_1
    replace hs1_2 := keep_cell hb hs1_2
    replace hs1_3 := keep_cell hb hs1_3
    replace hbel := hbel.trans (hb.mono hbel.size)
    clear hb
    clear ho_t
    go_wp2_with fail
    go_at_call 21
    refine (laws_markRectS_at (1) (by omega) l0 _ _ _ _ ho_x0 (by omega)).mono ?_
    rintro e w10 ⟨rfl, ho, hg⟩
    replace ho_w := own_marked ho_w hg ne_w_x0.out
    replace ho_g := own_marked ho_g hg (or_symm_ne ne_x0_g.out)
    replace hs1_0 := cell_marked ho_x0 hg hs1_0 hlt
    replace hs1_1 := cell_marked ho_x0 hg hs1_1 hlt
    replace hs1_2 := cell_marked ho_x0 hg hs1_2 hlt
    replace hs1_3 := cell_marked ho_x0 hg hs1_3 hlt
    replace hbel := below_marked hbel ho_x0 hg
    clear hg ho
    clear ho_x0
    have hk : ¬ (1 + 4 * (l0.length : Int) < 0) := by omega
    go_wp2_with fail
    go_at_call 20
    refine (laws_eqRectS (clipR l0 ⟨s1_0, s1_1, s1_2, s1_3⟩) _ _ _ _ _ (rects_at ho_g) (rects_at ho_w) HLEN.out).mono ?_
    rintro e w11 ⟨rfl, hb⟩
    replace ho_w := own_next ho_w hb
    replace ho_g := own_next ho_g hb
    replace hs1_0 := keep_cell hb hs1_0
    replace hs1_1 := keep_cell hb hs1_1
    replace hs1_2 := keep_cell hb hs1_2
    replace hs1_3 := keep_cell hb hs1_3
    replace hbel := hbel.trans (hb.mono hbel.size)
    clear hb
    go_wp2_with fail
    go_at_call 21
    refine (laws_markRectS (clipR l0 ⟨s1_0, s1_1, s1_2, s1_3⟩) _ _ _ _ ho_g HLEN.out).mono ?_
    rintro e w12 ⟨rfl, ho, hg⟩
    replace ho_w := own_marked ho_w hg (ne_w_g.out)
    replace hs1_0 := cell_marked ho_g hg hs1_0 hlt
    replace hs1_1 := cell_marked ho_g hg hs1_1 hlt
    replace hs1_2 := cell_marked ho_g hg hs1_2 hlt
    replace hs1_3 := cell_marked ho_g hg hs1_3 hlt
    replace hbel := below_marked hbel ho_g hg
    clear hg ho_g
    have ho_g := ho
    clear ho
    have hkL := not_neg_len (clipR l0 ⟨s1_0, s1_1, s1_2, s1_3⟩).length
    go_wp2_with fail
    go_at_call 27
    refine (laws_heldRectS (clipR l0 ⟨s1_0, s1_1, s1_2, s1_3⟩).length _ _ _ (rects_at ho_g) HLEN.out).mono ?_
    rintro e w13 ⟨rfl, rfl⟩
    go_wp2_with fail
    go_region_held3 (fun w' => w'.cell? ⟨w.heap.size, 0, none⟩ = some (.int .i64 s1_0) ∧ w'.cell? ⟨w.heap.size, 1, none⟩ = some (.int .i64 s1_1) ∧ w'.cell? ⟨w.heap.size, 2, none⟩ = some (.int .i64 s1_2) ∧ w'.cell? ⟨w.heap.size, 3, none⟩ = some (.int .i64 s1_3) ∧ Below w12.heap.size w12 w') (first | (go_split_ands; ((repeat' apply And.intro) <;> first | exact keep_cell hb (by assumption) | exact bel_trans (by assumption) hb | exact bel_trans (bel_drew (by assumption)) hb)) | ((repeat' apply And.intro) <;> first | (simp [go_sem, *]; done) | exact (by repeat (first | with_reducible exact Below.refl _ _ | with_reducible assumption | with_reducible refine bel_alloc ?_ _ | with_reducible refine bel_drew ?_ | with_reducible refine bel_drewN ?_ _ | with_reducible refine bel_set ?_ (by (try simp) <;> omega) _ | with_reducible refine bel_trans ?_ (by assumption))))) ((first | (go_at_call 17; refine (laws_toRectS l0 _ _ _ (in_at hin0 (by repeat (first | with_reducible exact Below.refl _ _ | with_reducible assumption | with_reducible refine bel_alloc ?_ _ | with_reducible refine bel_drew ?_ | with_reducible refine bel_drewN ?_ _ | with_reducible refine bel_set ?_ (by (try simp) <;> omega) _ | with_reducible refine bel_trans ?_ (by assumption)))) hn0).mono ?_; rintro e w14 ⟨a_y, c_y, rfl, ho_y, hb⟩; have hA : Below w12.heap.size w12 w14 := bel_trans (by repeat (first | with_reducible exact Below.refl _ _ | with_reducible assumption | with_reducible refine bel_alloc ?_ _ | with_reducible refine bel_drew ?_ | with_reducible refine bel_drewN ?_ _ | with_reducible refine bel_set ?_ (by (try simp) <;> omega) _ | with_reducible refine bel_trans ?_ (by assumption))) hb) | (go_at_call 25; refine (laws_toRect _ _ _ _ _).mono ?_; rintro e w15 ⟨rfl, hb⟩; have hB : Below w14.heap.size w14 w15 := bel_trans (by repeat (first | with_reducible exact Below.refl _ _ | with_reducible assumption | with_reducible refine bel_alloc ?_ _ | with_reducible refine bel_drew ?_ | with_reducible refine bel_drewN ?_ _ | with_reducible refine bel_set ?_ (by (try simp) <;> omega) _ | with_reducible refine bel_trans ?_ (by assumption))) hb; have ho_q := own_next ho_y hB) | (go_at_call 26; refine (impl_ClipRegion l0 ⟨s1_0, s1_1, s1_2, s1_3⟩ _ _ _ (rects_at ho_q) (by omega)).mono ?_; rintro e w16 ⟨a_h, c_h, rfl, ho_h, hb⟩; have hC : Below w15.heap.size w15 w16 := bel_trans (by repeat (first | with_reducible exact Below.refl _ _ | with_reducible assumption | with_reducible refine bel_alloc ?_ _ | with_reducible refine bel_drew ?_ | with_reducible refine bel_drewN ?_ _ | with_reducible refine bel_set ?_ (by (try simp) <;> omega) _ | with_reducible refine bel_trans ?_ (by assumption))) hb)))
    replace ho_w := own_next (own_next ho_w hA) hB
    have ne_w_h := hide (own_ne ho_w ho_h)
    replace ho_w := own_next ho_w hC
    replace ho_g := own_next (own_next ho_g hA) hB
    have ne_g_h := hide (own_ne ho_g ho_h)
    replace ho_g := own_next ho_g hC
    have hbel2 := bel_trans (bel_trans hbel hA) hB
    replace ho_h := own_base ho_h hbel2.size
    replace hs1_0 := keep_cell hC (keep_cell hB (keep_cell hA hs1_0))
    replace hs1_1 := keep_cell hC (keep_cell hB (keep_cell hA hs1_1))
    replace hs1_2 := keep_cell hC (keep_cell hB (keep_cell hA hs1_2))
    replace hs1_3 := keep_cell hC (keep_cell hB (keep_cell hA hs1_3))
    replace hbel := bel_trans hbel2 hC
    clear hA hB hC hbel2 ho_y ho_q
    go_wp2_with fail
    go_at_call 20
    refine (laws_eqRectS (clipR l0 ⟨s1_0, s1_1, s1_2, s1_3⟩) _ _ _ _ _ (rects_at ho_h) (rects_at ho_w) HLEN.out).mono ?_
    rintro e w17 ⟨rfl, hb⟩
    replace ho_w := own_next ho_w hb
    replace ho_g := own_next ho_g hb
    replace ho_h := own_next ho_h hb
    replace hs1_0 := keep_cell hb hs1_0
    replace hs1_1 := keep_cell hb hs1_1
    replace hs1_2 := keep_cell hb hs1_2
    replace hs1_3 := keep_cell hb hs1_3
    replace hbel := hbel.trans (hb.mono hbel.size)
    clear hb
    go_wp2_with fail
    go_at_call 27
    refine (laws_heldRectS (clipR l0 ⟨s1_0, s1_1, s1_2, s1_3⟩).length _ _ _ (rects_at ho_g) HLEN.out).mono ?_
    rintro e w18 ⟨rfl, rfl⟩
    go_wp2_with fail
    go_ret
    exact ⟨rfl, bel_trans hb0 hbel⟩
  · go_enter Try.func4, Try.ntmps4
    go_wp2_with fail
    go_at_call 15
    refine (laws_szRectS_no _ _ _ (1048576) (by omega) (by omega) hl0 _).mono ?_
    rintro e w' ⟨rfl, rfl⟩
    go_wp2_with fail
    go_ret
    exact ⟨rfl, (by repeat (first | with_reducible exact Below.refl _ _ | with_reducible assumption | with_reducible refine bel_alloc ?_ _ | with_reducible refine bel_drew ?_ | with_reducible refine bel_drewN ?_ _ | with_reducible refine bel_set ?_ (by (try simp) <;> omega) _ | with_reducible refine bel_trans ?_ (by assumption)))⟩

set_option maxRecDepth 100000 in
theorem lifted (os : Os) (started : os.Started) (H : Type) (enc : TypeId × Value → H) :
    ReturnsInHanded {} Try.checked os 4 .any (Rows.fnExactClipRegionSpec.pre6 enc Try.prog Try.f4 Rows.fnExactClipRegionRow.domain false) (Rows.fnExactClipRegionSpec.post enc Try.prog Try.f4 false true false false) := by
  refine law_lifted (C := Try.checked) (tb := 4) own started (by kernel_rfl) Try.func4 laidOut (by kernel_rfl) Try.underlying4 (by kernel_rfl) rfl
    (ChangeSpec.witness6 (enc := enc) (C := Try.checked) false ⟨#[], #[.slice none 0 0, .agg #[.int .i64 0, .int .i64 0, .int .i64 0, .int .i64 0]], []⟩ 8 (by kernel_rfl) (by kernel_rfl) (by kernel_rfl) (by kernel_rfl)) ?_
  intro W base args ds ps hval hA hlt
  have hA : DataW.TrodAll enc Try.prog W 0 (fun _ => true) true Try.f4.params.toList args.toList ds ps := hA
  have hval : ∀ (j : Nat) t v, Try.f4.params[j]? = some t → args[j]? = some v → Value.okWide Try.prog W .any base t v := hval
  rw [Try.params4] at hA hval
  obtain ⟨v0, vs0, d0, ds0, p0, q0, hargs, rfl, rfl, h0, r0⟩ := trodAll_cons hA
  obtain ⟨v1, vs1, d1, ds1, p1, q1, rfl, rfl, rfl, h1, r1⟩ := trodAll_cons r0
  obtain ⟨rfl, rfl, rfl⟩ := trodAll_nil r1
  obtain rfl : args = #[v0, v1] := by cases args; simp_all
  refine ⟨rfl, ?_⟩
  obtain ⟨a0, l0, c0, rfl, hl0, hin0⟩ := open_rects Try.underlying22 Try.underlying34 (by kernel_rfl) (by kernel_rfl) Try.underlying2 rfl rfl rfl rfl (okWide_slice Try.underlying22 (hval 0 22 v0 rfl rfl)) h0
  obtain ⟨s1_0, s1_1, s1_2, s1_3, rfl, _, _, _, _⟩ := open_struct4 Try.underlying34 (by kernel_rfl) (by kernel_rfl) Try.underlying2 rfl rfl rfl rfl (hval 1 34 v1 rfl rfl) h1
  exact walk l0 a0 c0 s1_0 s1_1 s1_2 s1_3 hl0 W hin0

theorem proved : Rows.FnExactClipRegionSaid :=
  OpenClaim.holds_of_wide 4 Try.f4 rfl rfl rfl rfl rfl rfl rfl ⟨rfl, rfl, rfl, rfl, rfl⟩ rfl rfl rfl rfl rfl (by kernel_rfl) Try.func4 (by kernel_rfl)
    (of_decide_eq_true (by kernel_rfl)) (by unfold Func.isWrapper; first | (rw [if_pos (by decide +kernel)]; kernel_rfl) | (rw [if_neg (by decide +kernel)]; exact ⟨rfl, rfl⟩))
    (fun os started H enc _ => lifted os started H enc)

#print axioms proved
end Go.Proofs.Ytdnbocngbmbofaa.lawFnExactClipRegion
