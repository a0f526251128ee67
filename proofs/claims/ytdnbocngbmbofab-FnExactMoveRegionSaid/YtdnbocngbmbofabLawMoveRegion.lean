/- The program's MoveRegion returns what the reference's returns, for all arguments. No condition. -/
import Derived.Test.YtdnbocngbmbofabRows
import Derived.Test.YtdnbocngbmbofabLawS
import Derived.Deep.RegionHeld3
import Derived.Test.YtdnbocngbmbofabRegM2
import Derived.Test.YtdnbocngbmbofabLawT
namespace Go.Proofs.Ytdnbocngbmbofab.lawFnExactMoveRegion
open Go.ChangeShapes Go.WideShapes Go.ChangeAt Go.RowKit Go.Joins

theorem own : ownKnob Try.prog.godebug = none := by kernel_rfl
theorem laidOut : laidOutB Try.prog = true := by kernel_rfl

set_option maxRecDepth 100000 in
set_option maxHeartbeats 3200000 in
theorem walk (l1 : List Rc) (a1 : Option Addr) (c1 : Nat) (s0_0 s0_1 s0_2 : Int) (hl1 : l1.length ≤ maxLen) (w : World) (hin1 : InRects w.heap.size w a1 l1) :
    Calls Try.prog 5 #[.agg #[.int .i64 s0_0, .int .i64 s0_1, .int .i64 s0_2], .slice a1 l1.length c1] w fun e w' => e = .returned (.bool true) ∧ Below w.heap.size w w' := by
  by_cases hn1 : l1.length ≤ 1048576
  · skip
    go_enter Try.func5, Try.ntmps5
    go_wp2_with fail
    have hb0 : Below w.heap.size w (w.alloc (.cells #[.int .i64 s0_0, .int .i64 s0_1, .int .i64 s0_2] 34)) := (by repeat (first | with_reducible exact Below.refl _ _ | with_reducible assumption | with_reducible refine bel_alloc ?_ _ | with_reducible refine bel_drew ?_ | with_reducible refine bel_drewN ?_ _ | with_reducible refine bel_set ?_ (by (try simp) <;> omega) _ | with_reducible refine bel_trans ?_ (by assumption)))
    replace hin1 := in_at hin1 hb0
    have hs0_0 : (w.alloc (.cells #[.int .i64 s0_0, .int .i64 s0_1, .int .i64 s0_2] 34)).cell? ⟨w.heap.size, 0, none⟩ = some (.int .i64 s0_0) := by simp [go_sem]
    have hs0_1 : (w.alloc (.cells #[.int .i64 s0_0, .int .i64 s0_1, .int .i64 s0_2] 34)).cell? ⟨w.heap.size, 1, none⟩ = some (.int .i64 s0_1) := by simp [go_sem]
    have hs0_2 : (w.alloc (.cells #[.int .i64 s0_0, .int .i64 s0_1, .int .i64 s0_2] 34)).cell? ⟨w.heap.size, 2, none⟩ = some (.int .i64 s0_2) := by simp [go_sem]
    have hlt : w.heap.size < (w.alloc (.cells #[.int .i64 s0_0, .int .i64 s0_1, .int .i64 s0_2] 34)).heap.size := by simp
    generalize hW : (w.alloc (.cells #[.int .i64 s0_0, .int .i64 s0_1, .int .i64 s0_2] 34)) = wb at *
    have HW := hide hW
    clear hW
    have hbel := Below.refl wb.heap.size wb
    go_at_call 15
    refine (laws_szRectS_ok _ _ _ (1048576) (by omega) (by omega) _).mono ?_
    rintro e w' ⟨rfl, rfl⟩
    have hz1 := not_neg_left (1048576) l1.length (by omega)
    go_wp2_with fail
    go_at_call 25
    refine (laws_toTransform _ _ _ _).mono ?_
    rintro e w1 ⟨rfl, hb⟩
    replace hs0_0 := keep_cell hb hs0_0
    replace hs0_1 := keep_cell hb hs0_1
    replace hs0_2 := keep_cell hb hs0_2
    replace hbel := hbel.trans (hb.mono hbel.size)
    clear hb
    go_wp2_with fail
    go_at_call 17
    refine (laws_toRectS l1 _ _ _ (in_at hin1 hbel) hn1).mono ?_
    rintro e w2 ⟨a_p1, c_p1, rfl, ho_p1, hb⟩
    replace ho_p1 := own_base ho_p1 hbel.size
    replace hs0_0 := keep_cell hb hs0_0
    replace hs0_1 := keep_cell hb hs0_1
    replace hs0_2 := keep_cell hb hs0_2
    replace hbel := hbel.trans (hb.mono hbel.size)
    clear hb
    go_wp2_with fail
    go_at_call 24
    refine (spec_MoveRegion l1 s0_0 s0_1 s0_2 _ _ _ (rects_at ho_p1) (by omega)).mono ?_
    rintro e w3 ⟨a_w, c_w, rfl, ho_w, hb⟩
    have ne_p1_w := hide (own_ne ho_p1 ho_w)
    replace ho_p1 := own_next ho_p1 hb
    replace ho_w := own_base ho_w hbel.size
    replace hs0_0 := keep_cell hb hs0_0
    replace hs0_1 := keep_cell hb hs0_1
    replace hs0_2 := keep_cell hb hs0_2
    replace hbel := hbel.trans (hb.mono hbel.size)
    clear hb
    clear ho_p1
    go_wp2_with fail
    go_at_call 17
    refine (laws_toRectS l1 _ _ _ (in_at hin1 hbel) hn1).mono ?_
    rintro e w4 ⟨a_x1, c_x1, rfl, ho_x1, hb⟩
    have ne_w_x1 := hide (own_ne ho_w ho_x1)
    replace ho_w := own_next ho_w hb
    replace ho_x1 := own_base ho_x1 hbel.size
    replace hs0_0 := keep_cell hb hs0_0
    replace hs0_1 := keep_cell hb hs0_1
    replace hs0_2 := keep_cell hb hs0_2
    replace hbel := hbel.trans (hb.mono hbel.size)
    clear hb
    go_wp2_with fail
    go_at_call 25
    refine (laws_toTransform _ _ _ _).mono ?_
    rintro e w5 ⟨rfl, hb⟩
    replace ho_w := own_next ho_w hb
    replace ho_x1 := own_next ho_x1 hb
    replace hs0_0 := keep_cell hb hs0_0
    replace hs0_1 := keep_cell hb hs0_1
    replace hs0_2 := keep_cell hb hs0_2
    replace hbel := hbel.trans (hb.mono hbel.size)
    clear hb
    go_wp2_with fail
    go_at_call 26
    refine (impl_MoveRegion l1 s0_0 s0_1 s0_2 _ _ _ (rects_at ho_x1) (by omega)).mono ?_
    rintro e w6 ⟨a_g, c_g, rfl, ho_g, hb⟩
    have ne_w_g := hide (own_ne ho_w ho_g)
    replace ho_w := own_next ho_w hb
    have ne_x1_g := hide (own_ne ho_x1 ho_g)
    replace ho_x1 := own_next ho_x1 hb
    replace ho_g := own_base ho_g hbel.size
    replace hs0_0 := keep_cell hb hs0_0
    replace hs0_1 := keep_cell hb hs0_1
    replace hs0_2 := keep_cell hb hs0_2
    replace hbel := hbel.trans (hb.mono hbel.size)
    clear hb
    have hlen : (movR s0_0 s0_1 s0_2 l1).length ≤ 2000000 := movR_len s0_0 s0_1 s0_2 l1
    have HLEN := hide hlen
    clear hlen
    go_wp2_with fail
    go_at_call 19
    refine (laws_eqRectS (movR s0_0 s0_1 s0_2 l1) _ _ _ _ _ (rects_at ho_g) (rects_at ho_w) HLEN.out).mono ?_
    rintro e w7 ⟨rfl, hb⟩
    replace ho_w := own_next ho_w hb
    replace ho_x1 := own_next ho_x1 hb
    replace ho_g := own_next ho_g hb
    replace hs0_0 := keep_cell hb hs0_0
    replace hs0_1 := keep_cell hb hs0_1
    replace hs0_2 := keep_cell hb hs0_2
    replace hbel := hbel.trans (hb.mono hbel.size)
    clear hb
    go_wp2_with fail
    go_at_call 17
    refine (laws_toRectS l1 _ _ _ (in_at hin1 hbel) hn1).mono ?_
    rintro e w8 ⟨a_t, c_t, rfl, ho_t, hb⟩
    have ne_w_t := hide (own_ne ho_w ho_t)
    replace ho_w := own_next ho_w hb
    have ne_x1_t := hide (own_ne ho_x1 ho_t)
    replace ho_x1 := own_next ho_x1 hb
    have ne_g_t := hide (own_ne ho_g ho_t)
    replace ho_g := own_next ho_g hb
    replace ho_t := own_base ho_t hbel.size
    replace hs0_0 := keep_cell hb hs0_0
    replace hs0_1 := keep_cell hb hs0_1
    replace hs0_2 := keep_cell hb hs0_2
    replace hbel := hbel.trans (hb.mono hbel.size)
    clear hb
    go_wp2_with fail
    go_at_call 19
    refine (laws_eqRectS (l1) _ _ _ _ _ (rects_at ho_x1) (rects_at ho_t) (by omega)).mono ?_
    rintro e w9 ⟨rfl, hb⟩
    replace ho_w := own_next ho_w hb
    replace ho_x1 := own_next ho_x1 hb
    replace ho_g := own_next ho_g hb
    replace ho_t := own_next ho_t hb
    replace hs0_0 := keep_cell hb hs0_0
    replace hs0_1 := keep_cell hb hs0_1
    replace hs0_2 := keep_cell hb hs0_2
    replace hbel := hbel.trans (hb.mono hbel.size)
    clear hb
    clear ho_t
    go_wp2_with fail
    go_at_call 20
    refine (laws_markRectS_at (1) (by omega) l1 _ _ _ _ ho_x1 (by omega)).mono ?_
    rintro e w10 ⟨rfl, ho, hg⟩
    replace ho_w := own_marked ho_w hg ne_w_x1.out
    replace ho_g := own_marked ho_g hg (or_symm_ne ne_x1_g.out)
    replace hs0_0 := cell_marked ho_x1 hg hs0_0 hlt
    replace hs0_1 := cell_marked ho_x1 hg hs0_1 hlt
    replace hs0_2 := cell_marked ho_x1 hg hs0_2 hlt
    replace hbel := below_marked hbel ho_x1 hg
    clear hg ho
    clear ho_x1
    have hk : ¬ (1 + 4 * (l1.length : Int) < 0) := by omega
    go_wp2_with fail
    go_at_call 19
    refine (laws_eqRectS (movR s0_0 s0_1 s0_2 l1) _ _ _ _ _ (rects_at ho_g) (rects_at ho_w) HLEN.out).mono ?_
    rintro e w11 ⟨rfl, hb⟩
    replace ho_w := own_next ho_w hb
    replace ho_g := own_next ho_g hb
    replace hs0_0 := keep_cell hb hs0_0
    replace hs0_1 := keep_cell hb hs0_1
    replace hs0_2 := keep_cell hb hs0_2
    replace hbel := hbel.trans (hb.mono hbel.size)
    clear hb
    go_wp2_with fail
    go_at_call 20
    refine (laws_markRectS (movR s0_0 s0_1 s0_2 l1) _ _ _ _ ho_g HLEN.out).mono ?_
    rintro e w12 ⟨rfl, ho, hg⟩
    replace ho_w := own_marked ho_w hg (ne_w_g.out)
    replace hs0_0 := cell_marked ho_g hg hs0_0 hlt
    replace hs0_1 := cell_marked ho_g hg hs0_1 hlt
    replace hs0_2 := cell_marked ho_g hg hs0_2 hlt
    replace hbel := below_marked hbel ho_g hg
    clear hg ho_g
    have ho_g := ho
    clear ho
    have hkL := not_neg_len (movR s0_0 s0_1 s0_2 l1).length
    go_wp2_with fail
    go_at_call 21
    refine (laws_heldRectS (movR s0_0 s0_1 s0_2 l1).length _ _ _ (rects_at ho_g) HLEN.out).mono ?_
    rintro e w13 ⟨rfl, rfl⟩
    go_wp2_with fail
    go_at_call 25
    refine (laws_toTransform _ _ _ _).mono ?_
    rintro e w14 ⟨rfl, hb⟩
    replace ho_w := own_next ho_w hb
    replace ho_g := own_next ho_g hb
    replace hs0_0 := keep_cell hb hs0_0
    replace hs0_1 := keep_cell hb hs0_1
    replace hs0_2 := keep_cell hb hs0_2
    replace hbel := hbel.trans (hb.mono hbel.size)
    clear hb
    go_wp2_with fail
    go_at_call 17
    refine (laws_toRectS l1 _ _ _ (in_at hin1 hbel) hn1).mono ?_
    rintro e w15 ⟨a_y1, c_y1, rfl, ho_y1, hb⟩
    have ne_w_y1 := hide (own_ne ho_w ho_y1)
    replace ho_w := own_next ho_w hb
    have ne_g_y1 := hide (own_ne ho_g ho_y1)
    replace ho_g := own_next ho_g hb
    replace ho_y1 := own_base ho_y1 hbel.size
    replace hs0_0 := keep_cell hb hs0_0
    replace hs0_1 := keep_cell hb hs0_1
    replace hs0_2 := keep_cell hb hs0_2
    replace hbel := hbel.trans (hb.mono hbel.size)
    clear hb
    go_wp2_with fail
    go_at_call 26
    refine (impl_MoveRegion l1 s0_0 s0_1 s0_2 _ _ _ (rects_at ho_y1) (by omega)).mono ?_
    rintro e w16 ⟨a_h, c_h, rfl, ho_h, hb⟩
    have ne_w_h := hide (own_ne ho_w ho_h)
    replace ho_w := own_next ho_w hb
    have ne_g_h := hide (own_ne ho_g ho_h)
    replace ho_g := own_next ho_g hb
    have ne_y1_h := hide (own_ne ho_y1 ho_h)
    replace ho_y1 := own_next ho_y1 hb
    replace ho_h := own_base ho_h hbel.size
    replace hs0_0 := keep_cell hb hs0_0
    replace hs0_1 := keep_cell hb hs0_1
    replace hs0_2 := keep_cell hb hs0_2
    replace hbel := hbel.trans (hb.mono hbel.size)
    clear hb
    go_wp2_with fail
    go_at_call 19
    refine (laws_eqRectS (movR s0_0 s0_1 s0_2 l1) _ _ _ _ _ (rects_at ho_h) (rects_at ho_w) HLEN.out).mono ?_
    rintro e w17 ⟨rfl, hb⟩
    replace ho_w := own_next ho_w hb
    replace ho_g := own_next ho_g hb
    replace ho_y1 := own_next ho_y1 hb
    replace ho_h := own_next ho_h hb
    replace hs0_0 := keep_cell hb hs0_0
    replace hs0_1 := keep_cell hb hs0_1
    replace hs0_2 := keep_cell hb hs0_2
    replace hbel := hbel.trans (hb.mono hbel.size)
    clear hb
    go_wp2_with fail
    go_at_call 21
    refine (laws_heldRectS (movR s0_0 s0_1 s0_2 l1).length _ _ _ (rects_at ho_g) HLEN.out).mono ?_
    rintro e w18 ⟨rfl, rfl⟩
    go_wp2_with fail
    go_ret
    exact ⟨rfl, bel_trans hb0 hbel⟩
  · go_enter Try.func5, Try.ntmps5
    go_wp2_with fail
    go_at_call 15
    refine (laws_szRectS_no _ _ _ (1048576) (by omega) (by omega) hl1 _).mono ?_
    rintro e w' ⟨rfl, rfl⟩
    go_wp2_with fail
    go_ret
    exact ⟨rfl, (by repeat (first | with_reducible exact Below.refl _ _ | with_reducible assumption | with_reducible refine bel_alloc ?_ _ | with_reducible refine bel_drew ?_ | with_reducible refine bel_drewN ?_ _ | with_reducible refine bel_set ?_ (by (try simp) <;> omega) _ | with_reducible refine bel_trans ?_ (by assumption)))⟩

set_option maxRecDepth 100000 in
theorem lifted (os : Os) (started : os.Started) (H : Type) (enc : TypeId × Value → H) :
    ReturnsInHanded {} Try.checked os 5 .any (Rows.fnExactMoveRegionSpec.pre6 enc Try.prog Try.f5 Rows.fnExactMoveRegionRow.domain false) (Rows.fnExactMoveRegionSpec.post enc Try.prog Try.f5 false true false false) := by
  refine law_lifted (C := Try.checked) (tb := 4) own started (by kernel_rfl) Try.func5 laidOut (by kernel_rfl) Try.underlying4 (by kernel_rfl) rfl
    (ChangeSpec.witness6 (enc := enc) (C := Try.checked) false ⟨#[], #[.agg #[.int .i64 0, .int .i64 0, .int .i64 0], .slice none 0 0], []⟩ 8 (by kernel_rfl) (by kernel_rfl) (by kernel_rfl) (by kernel_rfl)) ?_
  intro W base args ds ps hval hA hlt
  have hA : DataW.TrodAll enc Try.prog W 0 (fun _ => true) true Try.f5.params.toList args.toList ds ps := hA
  have hval : ∀ (j : Nat) t v, Try.f5.params[j]? = some t → args[j]? = some v → Value.okWide Try.prog W .any base t v := hval
  rw [Try.params5] at hA hval
  obtain ⟨v0, vs0, d0, ds0, p0, q0, hargs, rfl, rfl, h0, r0⟩ := trodAll_cons hA
  obtain ⟨v1, vs1, d1, ds1, p1, q1, rfl, rfl, rfl, h1, r1⟩ := trodAll_cons r0
  obtain ⟨rfl, rfl, rfl⟩ := trodAll_nil r1
  obtain rfl : args = #[v0, v1] := by cases args; simp_all
  refine ⟨rfl, ?_⟩
  obtain ⟨s0_0, s0_1, s0_2, rfl, _, _, _⟩ := open_struct3 Try.underlying34 (by kernel_rfl) (by kernel_rfl) Try.underlying2 rfl rfl rfl (hval 0 34 v0 rfl rfl) h0
  obtain ⟨a1, l1, c1, rfl, hl1, hin1⟩ := open_rects Try.underlying22 Try.underlying70 (by kernel_rfl) (by kernel_rfl) Try.underlying2 rfl rfl rfl rfl (okWide_slice Try.underlying22 (hval 1 22 v1 rfl rfl)) h1
  exact walk l1 a1 c1 s0_0 s0_1 s0_2 hl1 W hin1

theorem proved : Rows.FnExactMoveRegionSaid :=
  OpenClaim.holds_of_wide 5 Try.f5 rfl rfl rfl rfl rfl rfl rfl ⟨rfl, rfl, rfl, rfl, rfl⟩ rfl rfl rfl rfl rfl (by kernel_rfl) Try.func5 (by kernel_rfl)
    (of_decide_eq_true (by kernel_rfl)) (by unfold Func.isWrapper; first | (rw [if_pos (by decide +kernel)]; kernel_rfl) | (rw [if_neg (by decide +kernel)]; exact ⟨rfl, rfl⟩))
    (fun os started H enc _ => lifted os started H enc)

#print axioms proved
end Go.Proofs.Ytdnbocngbmbofab.lawFnExactMoveRegion
