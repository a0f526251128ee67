/- The program's BoundingBox returns what the reference's returns, for all arguments. No condition. -/
import Derived.Test.YtldgjocjcbhkmaaRows
import Derived.Test.YtldgjocjcbhkmaaLawS
import Derived.Deep.RegionHeld3
import Derived.Test.YtldgjocjcbhkmaaRegBB
namespace Go.Proofs.Ytldgjocjcbhkmaa.lawFnExactBoundingBox
open Go.ChangeShapes Go.WideShapes Go.ChangeAt Go.RowKit Go.Joins

theorem own : ownKnob Try.prog.godebug = none := by kernel_rfl
theorem laidOut : laidOutB Try.prog = true := by kernel_rfl

set_option maxRecDepth 100000 in
set_option maxHeartbeats 3200000 in
theorem walk (l0 : List Rc) (a0 : Option Addr) (c0 : Nat) (hl0 : l0.length ≤ maxLen) (w : World) (hin0 : InRects w.heap.size w a0 l0) :
    Calls Try.prog 13 #[.slice a0 l0.length c0] w fun e w' => e = .returned (.bool true) ∧ Below w.heap.size w w' := by
  have hbel := Below.refl w.heap.size w
  by_cases hn0 : l0.length ≤ 1048576
  · skip
    go_enter Try.func13, Try.ntmps13
    go_wp2_with fail
    go_at_call 64
    refine (laws_szRectS_ok _ _ _ (1048576) (by omega) (by omega) _).mono ?_
    rintro e w' ⟨rfl, rfl⟩
    have hz0 := not_neg_left (1048576) l0.length (by omega)
    go_wp2_with fail
    go_at_call 66
    refine (laws_toRectS l0 _ _ _ (in_at hin0 hbel) hn0).mono ?_
    rintro e w1 ⟨a_p0, c_p0, rfl, ho_p0, hb⟩
    replace ho_p0 := own_base ho_p0 hbel.size
    replace hbel := hbel.trans (hb.mono hbel.size)
    clear hb
    go_wp2_with fail
    go_at_call 65
    refine (spec_BoundingBox l0 _ _ _ (rects_at ho_p0) (by omega)).mono ?_
    rintro e w2 ⟨rfl, hb⟩
    replace ho_p0 := own_next ho_p0 hb
    replace hbel := hbel.trans (hb.mono hbel.size)
    clear hb
    unfold rcA
    have hb : Below w2.heap.size w2 (w2.alloc (.cells #[.int .i64 (rbR (bbB l0) l0).x0, .int .i64 (rbR (bbB l0) l0).y0, .int .i64 (rbR (bbB l0) l0).x1, .int .i64 (rbR (bbB l0) l0).y1] 39)) := (Below.refl _ _).alloc (Nat.le_refl _) _
    have hc_w_0 : (w2.alloc (.cells #[.int .i64 (rbR (bbB l0) l0).x0, .int .i64 (rbR (bbB l0) l0).y0, .int .i64 (rbR (bbB l0) l0).x1, .int .i64 (rbR (bbB l0) l0).y1] 39)).cell? ⟨w2.heap.size, 0, none⟩ = some (.int .i64 (rbR (bbB l0) l0).x0) := by simp [go_sem]
    have hc_w_1 : (w2.alloc (.cells #[.int .i64 (rbR (bbB l0) l0).x0, .int .i64 (rbR (bbB l0) l0).y0, .int .i64 (rbR (bbB l0) l0).x1, .int .i64 (rbR (bbB l0) l0).y1] 39)).cell? ⟨w2.heap.size, 1, none⟩ = some (.int .i64 (rbR (bbB l0) l0).y0) := by simp [go_sem]
    have hc_w_2 : (w2.alloc (.cells #[.int .i64 (rbR (bbB l0) l0).x0, .int .i64 (rbR (bbB l0) l0).y0, .int .i64 (rbR (bbB l0) l0).x1, .int .i64 (rbR (bbB l0) l0).y1] 39)).cell? ⟨w2.heap.size, 2, none⟩ = some (.int .i64 (rbR (bbB l0) l0).x1) := by simp [go_sem]
    have hc_w_3 : (w2.alloc (.cells #[.int .i64 (rbR (bbB l0) l0).x0, .int .i64 (rbR (bbB l0) l0).y0, .int .i64 (rbR (bbB l0) l0).x1, .int .i64 (rbR (bbB l0) l0).y1] 39)).cell? ⟨w2.heap.size, 3, none⟩ = some (.int .i64 (rbR (bbB l0) l0).y1) := by simp [go_sem]
    replace ho_p0 := own_next ho_p0 hb
    replace hbel := hbel.trans (hb.mono hbel.size)
    clear hb
    clear ho_p0
    go_wp2_with fail
    go_at_call 66
    refine (laws_toRectS l0 _ _ _ (in_at hin0 hbel) hn0).mono ?_
    rintro e w3 ⟨a_x0, c_x0, rfl, ho_x0, hb⟩
    replace ho_x0 := own_base ho_x0 hbel.size
    replace hc_w_0 := keep_cell hb hc_w_0
    replace hc_w_1 := keep_cell hb hc_w_1
    replace hc_w_2 := keep_cell hb hc_w_2
    replace hc_w_3 := keep_cell hb hc_w_3
    replace hbel := hbel.trans (hb.mono hbel.size)
    clear hb
    go_wp2_with fail
    go_at_call 67
    refine (impl_BoundingBox l0 _ _ _ (rects_at ho_x0) (by omega)).mono ?_
    rintro e w4 ⟨rfl, hb⟩
    replace ho_x0 := own_next ho_x0 hb
    replace hc_w_0 := keep_cell hb hc_w_0
    replace hc_w_1 := keep_cell hb hc_w_1
    replace hc_w_2 := keep_cell hb hc_w_2
    replace hc_w_3 := keep_cell hb hc_w_3
    replace hbel := hbel.trans (hb.mono hbel.size)
    clear hb
    unfold rcA
    have hb : Below w4.heap.size w4 (w4.alloc (.cells #[.int .i64 (rbR (bbB l0) l0).x0, .int .i64 (rbR (bbB l0) l0).y0, .int .i64 (rbR (bbB l0) l0).x1, .int .i64 (rbR (bbB l0) l0).y1] 39)) := (Below.refl _ _).alloc (Nat.le_refl _) _
    have hc_g_0 : (w4.alloc (.cells #[.int .i64 (rbR (bbB l0) l0).x0, .int .i64 (rbR (bbB l0) l0).y0, .int .i64 (rbR (bbB l0) l0).x1, .int .i64 (rbR (bbB l0) l0).y1] 39)).cell? ⟨w4.heap.size, 0, none⟩ = some (.int .i64 (rbR (bbB l0) l0).x0) := by simp [go_sem]
    have hc_g_1 : (w4.alloc (.cells #[.int .i64 (rbR (bbB l0) l0).x0, .int .i64 (rbR (bbB l0) l0).y0, .int .i64 (rbR (bbB l0) l0).x1, .int .i64 (rbR (bbB l0) l0).y1] 39)).cell? ⟨w4.heap.size, 1, none⟩ = some (.int .i64 (rbR (bbB l0) l0).y0) := by simp [go_sem]
    have hc_g_2 : (w4.alloc (.cells #[.int .i64 (rbR (bbB l0) l0).x0, .int .i64 (rbR (bbB l0) l0).y0, .int .i64 (rbR (bbB l0) l0).x1, .int .i64 (rbR (bbB l0) l0).y1] 39)).cell? ⟨w4.heap.size, 2, none⟩ = some (.int .i64 (rbR (bbB l0) l0).x1) := by simp [go_sem]
    have hc_g_3 : (w4.alloc (.cells #[.int .i64 (rbR (bbB l0) l0).x0, .int .i64 (rbR (bbB l0) l0).y0, .int .i64 (rbR (bbB l0) l0).x1, .int .i64 (rbR (bbB l0) l0).y1] 39)).cell? ⟨w4.heap.size, 3, none⟩ = some (.int .i64 (rbR (bbB l0) l0).y1) := by simp [go_sem]
    replace ho_x0 := own_next ho_x0 hb
    replace hc_w_0 := keep_cell hb hc_w_0
    replace hc_w_1 := keep_cell hb hc_w_1
    replace hc_w_2 := keep_cell hb hc_w_2
    replace hc_w_3 := keep_cell hb hc_w_3
    replace hbel := hbel.trans (hb.mono hbel.size)
    clear hb
    go_wp2_with fail
    go_at_call 68
    refine (laws_eqRect _ _ _ _ _).mono ?_
    rintro e w5 ⟨rfl, hb⟩
    replace ho_x0 := own_next ho_x0 hb
    replace hc_w_0 := keep_cell hb hc_w_0
    replace hc_w_1 := keep_cell hb hc_w_1
    replace hc_w_2 := keep_cell hb hc_w_2
    replace hc_w_3 := keep_cell hb hc_w_3
    replace hc_g_0 := keep_cell hb hc_g_0
    replace hc_g_1 := keep_cell hb hc_g_1
    replace hc_g_2 := keep_cell hb hc_g_2
    replace hc_g_3 := keep_cell hb hc_g_3
    replace hbel := hbel.trans (hb.mono hbel.size)
    clear hb
    go_wp2_with fail
    go_at_call 66
    refine (laws_toRectS l0 _ _ _ (in_at hin0 hbel) hn0).mono ?_
    rintro e w6 ⟨a_t, c_t, rfl, ho_t, hb⟩
    have ne_x0_t := hide (own_ne ho_x0 ho_t)
    replace ho_x0 := own_next ho_x0 hb
    replace ho_t := own_base ho_t hbel.size
    replace hc_w_0 := keep_cell hb hc_w_0
    replace hc_w_1 := keep_cell hb hc_w_1
    replace hc_w_2 := keep_cell hb hc_w_2
    replace hc_w_3 := keep_cell hb hc_w_3
    replace hc_g_0 := keep_cell hb hc_g_0
    replace hc_g_1 := keep_cell hb hc_g_1
    replace hc_g_2 := keep_cell hb hc_g_2
    replace hc_g_3 := keep_cell hb hc_g_3
    replace hbel := hbel.trans (hb.mono hbel.size)
    clear hb
    go_wp2_with fail
    go_at_call 19
    refine (laws_eqRectS (l0) _ _ _ _ _ (rects_at ho_x0) (rects_at ho_t) (by omega)).mono ?_
    rintro e w7 ⟨rfl, hb⟩
    replace ho_x0 := own_next ho_x0 hb
    replace ho_t := own_next ho_t hb
    replace hc_w_0 := keep_cell hb hc_w_0
    replace hc_w_1 := keep_cell hb hc_w_1
    replace hc_w_2 := keep_cell hb hc_w_2
    replace hc_w_3 := keep_cell hb hc_w_3
    replace hc_g_0 := keep_cell hb hc_g_0
    replace hc_g_1 := keep_cell hb hc_g_1
    replace hc_g_2 := keep_cell hb hc_g_2
    replace hc_g_3 := keep_cell hb hc_g_3
    replace hbel := hbel.trans (hb.mono hbel.size)
    clear hb
    clear ho_t
    go_wp2_with fail
    go_ret
    exact ⟨rfl, hbel⟩
  · go_enter Try.func13, Try.ntmps13
    go_wp2_with fail
    go_at_call 64
    refine (laws_szRectS_no _ _ _ (1048576) (by omega) (by omega) hl0 _).mono ?_
    rintro e w' ⟨rfl, rfl⟩
    go_wp2_with fail
    go_ret
    exact ⟨rfl, (by repeat (first | with_reducible exact Below.refl _ _ | with_reducible assumption | with_reducible refine bel_alloc ?_ _ | with_reducible refine bel_drew ?_ | with_reducible refine bel_drewN ?_ _ | with_reducible refine bel_set ?_ (by (try simp) <;> omega) _ | with_reducible refine bel_trans ?_ (by assumption)))⟩

set_option maxRecDepth 100000 in
theorem lifted (os : Os) (started : os.Started) (H : Type) (enc : TypeId × Value → H) :
    ReturnsInHanded {} Try.checked os 13 .any (Rows.fnExactBoundingBoxSpec.pre6 enc Try.prog Try.f13 Rows.fnExactBoundingBoxRow.domain false) (Rows.fnExactBoundingBoxSpec.post enc Try.prog Try.f13 false true false false) := by
  refine law_lifted (C := Try.checked) (tb := 4) own started (by kernel_rfl) Try.func13 laidOut (by kernel_rfl) Try.underlying4 (by kernel_rfl) rfl
    (ChangeSpec.witness6 (enc := enc) (C := Try.checked) false ⟨#[], #[.slice none 0 0], []⟩ 8 (by kernel_rfl) (by kernel_rfl) (by kernel_rfl) (by kernel_rfl)) ?_
  intro W base args ds ps hval hA hlt
  have hA : DataW.TrodAll enc Try.prog W 0 (fun _ => true) true Try.f13.params.toList args.toList ds ps := hA
  have hval : ∀ (j : Nat) t v, Try.f13.params[j]? = some t → args[j]? = some v → Value.okWide Try.prog W .any base t v := hval
  rw [Try.params13] at hA hval
  obtain ⟨v0, vs0, d0, ds0, p0, q0, hargs, rfl, rfl, h0, r0⟩ := trodAll_cons hA
  obtain ⟨rfl, rfl, rfl⟩ := trodAll_nil r0
  obtain rfl : args = #[v0] := by cases args; simp_all
  refine ⟨rfl, ?_⟩
  obtain ⟨a0, l0, c0, rfl, hl0, hin0⟩ := open_rects Try.underlying58 Try.underlying108 (by kernel_rfl) (by kernel_rfl) Try.underlying2 rfl rfl rfl rfl (okWide_slice Try.underlying58 (hval 0 58 v0 rfl rfl)) h0
  exact walk l0 a0 c0 hl0 W hin0

theorem proved : Rows.FnExactBoundingBoxSaid :=
  OpenClaim.holds_of_wide 13 Try.f13 rfl rfl rfl rfl rfl rfl rfl ⟨rfl, rfl, rfl, rfl, rfl⟩ rfl rfl rfl rfl rfl (by kernel_rfl) Try.func13 (by kernel_rfl)
    (of_decide_eq_true (by kernel_rfl)) (by unfold Func.isWrapper; first | (rw [if_pos (by decide +kernel)]; kernel_rfl) | (rw [if_neg (by decide +kernel)]; exact ⟨rfl, rfl⟩))
    (fun os started H enc _ => lifted os started H enc)

#print axioms proved
end Go.Proofs.Ytldgjocjcbhkmaa.lawFnExactBoundingBox
