/- The program's SymmetricDifference returns what the reference's returns, for all arguments. No condition. -/
import Derived.Test.YtdnbocngbmbofaaRows
import Derived.Test.YtdnbocngbmbofaaLawS
import Derived.Test.YtdnbocngbmbofaaRegH
namespace Go.Proofs.Ytdnbocngbmbofaa.lawFnExactSymmetricDifference
open Go.ChangeShapes Go.WideShapes Go.ChangeAt Go.RowKit Go.Joins

theorem own : ownKnob Try.prog.godebug = none := by kernel_rfl
theorem laidOut : laidOutB Try.prog = true := by kernel_rfl

set_option maxHeartbeats 3200000 in
theorem walk (l0 l1 : List Rc) (a0 a1 : Option Addr) (c0 c1 : Nat) (hl0 : l0.length ≤ maxLen) (hl1 : l1.length ≤ maxLen) (w : World) (hin0 : InRects w.heap.size w a0 l0) (hin1 : InRects w.heap.size w a1 l1) :
    Calls Try.prog 10 #[.slice a0 l0.length c0, .slice a1 l1.length c1] w fun e w' => e = .returned (.bool true) ∧ Below w.heap.size w w' := by
  have hbel := Below.refl w.heap.size w
  by_cases hn0 : l0.length ≤ 1048576
  · skip
    by_cases hn1 : (l1.length : Int) ≤ 1048576 - (l0.length : Int)
    · skip
      have hn1' : l1.length ≤ 1048576 := by omega
      go_enter Try.func10, Try.ntmps10
      go_wp2_with fail
      go_at_call 15
      refine (laws_szRectS_ok _ _ _ (1048576) (by omega) (by omega) _).mono ?_
      rintro e w' ⟨rfl, rfl⟩
      have hz0 := not_neg_left (1048576) l0.length (by omega)
      go_wp2_with fail
      go_at_call 15
      refine (laws_szRectS_ok _ _ _ (1048576 - (l0.length : Int)) (by omega) (by omega) _).mono ?_
      rintro e w' ⟨rfl, rfl⟩
      have hz1 := not_neg_left (1048576 - (l0.length : Int)) l1.length (by omega)
      go_wp2_with fail
      go_at_call 17
      refine (laws_toRectS l0 _ _ _ (in_at hin0 hbel) hn0).mono ?_
      rintro e w1 ⟨a_p0, c_p0, rfl, ho_p0, hb⟩
      replace ho_p0 := own_base ho_p0 hbel.size
      replace hbel := hbel.trans (hb.mono hbel.size)
      clear hb
      go_wp2_with fail
      go_at_call 17
      refine (laws_toRectS l1 _ _ _ (in_at hin1 hbel) hn1').mono ?_
      rintro e w2 ⟨a_p1, c_p1, rfl, ho_p1, hb⟩
      have ne_p0_p1 := hide (own_ne ho_p0 ho_p1)
      replace ho_p0 := own_next ho_p0 hb
      replace ho_p1 := own_base ho_p1 hbel.size
      replace hbel := hbel.trans (hb.mono hbel.size)
      clear hb
      go_wp2_with fail
      go_at_call 38
      refine (spec_SymmetricDifference l0 l1 _ _ _ _ _ (rects_at ho_p0) (rects_at ho_p1) (by omega) (by omega)).mono ?_
      rintro e w3 ⟨a_w, c_w, rfl, ho_w, hb⟩
      have ne_p0_w := hide (own_ne ho_p0 ho_w)
      replace ho_p0 := own_next ho_p0 hb
      have ne_p1_w := hide (own_ne ho_p1 ho_w)
      replace ho_p1 := own_next ho_p1 hb
      replace ho_w := own_base ho_w hbel.size
      replace hbel := hbel.trans (hb.mono hbel.size)
      clear hb
      clear ho_p0
      clear ho_p1
      go_wp2_with fail
      go_at_call 17
      refine (laws_toRectS l0 _ _ _ (in_at hin0 hbel) hn0).mono ?_
      rintro e w4 ⟨a_x0, c_x0, rfl, ho_x0, hb⟩
      have ne_w_x0 := hide (own_ne ho_w ho_x0)
      replace ho_w := own_next ho_w hb
      replace ho_x0 := own_base ho_x0 hbel.size
      replace hbel := hbel.trans (hb.mono hbel.size)
      clear hb
      go_wp2_with fail
      go_at_call 17
      refine (laws_toRectS l1 _ _ _ (in_at hin1 hbel) hn1').mono ?_
      rintro e w5 ⟨a_x1, c_x1, rfl, ho_x1, hb⟩
      have ne_w_x1 := hide (own_ne ho_w ho_x1)
      replace ho_w := own_next ho_w hb
      have ne_x0_x1 := hide (own_ne ho_x0 ho_x1)
      replace ho_x0 := own_next ho_x0 hb
      replace ho_x1 := own_base ho_x1 hbel.size
      replace hbel := hbel.trans (hb.mono hbel.size)
      clear hb
      go_wp2_with fail
      go_at_call 39
      refine (impl_SymmetricDifference l0 l1 _ _ _ _ _ (rects_at ho_x0) (rects_at ho_x1) (by omega) (by omega)).mono ?_
      rintro e w6 ⟨a_g, c_g, rfl, ho_g, hb⟩
      have ne_w_g := hide (own_ne ho_w ho_g)
      replace ho_w := own_next ho_w hb
      have ne_x0_g := hide (own_ne ho_x0 ho_g)
      replace ho_x0 := own_next ho_x0 hb
      have ne_x1_g := hide (own_ne ho_x1 ho_g)
      replace ho_x1 := own_next ho_x1 hb
      replace ho_g := own_base ho_g hbel.size
      replace hbel := hbel.trans (hb.mono hbel.size)
      clear hb
      have hlen : (opR 6 l0 l1).length ≤ 2000000 := opR_len 6 l0 l1
      have HLEN := hide hlen
      clear hlen
      go_wp2_with fail
      go_at_call 20
      refine (laws_eqRectS (opR 6 l0 l1) _ _ _ _ _ (rects_at ho_g) (rects_at ho_w) HLEN.out).mono ?_
      rintro e w7 ⟨rfl, hb⟩
      replace ho_w := own_next ho_w hb
      replace ho_x0 := own_next ho_x0 hb
      replace ho_x1 := own_next ho_x1 hb
      replace ho_g := own_next ho_g hb
      replace hbel := hbel.trans (hb.mono hbel.size)
      clear hb
      go_wp2_with fail
      go_at_call 17
      refine (laws_toRectS l0 _ _ _ (in_at hin0 hbel) hn0).mono ?_
      rintro e w8 ⟨a_t, c_t, rfl, ho_t, hb⟩
      have ne_w_t := hide (own_ne ho_w ho_t)
      replace ho_w := own_next ho_w hb
      have ne_x0_t := hide (own_ne ho_x0 ho_t)
      replace ho_x0 := own_next ho_x0 hb
      have ne_x1_t := hide (own_ne ho_x1 ho_t)
      replace ho_x1 := own_next ho_x1 hb
      have ne_g_t := hide (own_ne ho_g ho_t)
      replace ho_g := own_next ho_g hb
      replace ho_t := own_base ho_t hbel.size
      replace hbel := hbel.trans (hb.mono hbel.size)
      clear hb
      go_wp2_with fail
      go_at_call 20
      refine (laws_eqRectS (l0) _ _ _ _ _ (rects_at ho_x0) (rects_at ho_t) (by omega)).mono ?_
      rintro e w9 ⟨rfl, hb⟩
      replace ho_w := own_next ho_w hb
      replace ho_x0 := own_next ho_x0 hb
      replace ho_x1 := own_next ho_x1 hb
      replace ho_g := own_next ho_g hb
      replace ho_t := own_next ho_t hb
      replace hbel := hbel.trans (hb.mono hbel.size)
      clear hb
      clear ho_t
      go_wp2_with fail
      go_at_call 17
      refine (laws_toRectS l1 _ _ _ (in_at hin1 hbel) hn1').mono ?_
      rintro e w10 ⟨a_t, c_t, rfl, ho_t, hb⟩
      have ne_w_t := hide (own_ne ho_w ho_t)
      replace ho_w := own_next ho_w hb
      have ne_x0_t := hide (own_ne ho_x0 ho_t)
      replace ho_x0 := own_next ho_x0 hb
      have ne_x1_t := hide (own_ne ho_x1 ho_t)
      replace ho_x1 := own_next ho_x1 hb
      have ne_g_t := hide (own_ne ho_g ho_t)
      replace ho_g := own_next ho_g hb
      replace ho_t := own_base ho_t hbel.size
      replace hbel := hbel.trans (hb.mono hbel.size)
      clear hb
      go_wp2_with fail
      go_at_call 20
      refine (laws_eqRectS (l1) _ _ _ _ _ (rects_at ho_x1) (rects_at ho_t) (by omega)).mono ?_
      rintro e w11 ⟨rfl, hb⟩
      replace ho_w := own_next ho_w hb
      replace ho_x0 := own_next ho_x0 hb
      replace ho_x1 := own_next ho_x1 hb
      replace ho_g := own_next ho_g hb
      replace ho_t := own_next ho_t hb
      replace hbel := hbel.trans (hb.mono hbel.size)
      clear hb
      clear ho_t
      go_wp2_with fail
      go_at_call 21
      refine (laws_markRectS_at (1) (by omega) l0 _ _ _ _ ho_x0 (by omega)).mono ?_
      rintro e w12 ⟨rfl, ho, hg⟩
      replace ho_w := own_marked ho_w hg ne_w_x0.out
      replace ho_x1 := own_marked ho_x1 hg (or_symm_ne ne_x0_x1.out)
      replace ho_g := own_marked ho_g hg (or_symm_ne ne_x0_g.out)
      replace hbel := below_marked hbel ho_x0 hg
      clear hg ho
      clear ho_x0
      go_wp2_with fail
      go_at_call 21
      refine (laws_markRectS_at (1 + 4 * (l0.length : Int)) (by omega) l1 _ _ _ _ ho_x1 (by omega)).mono ?_
      rintro e w13 ⟨rfl, ho, hg⟩
      replace ho_w := own_marked ho_w hg ne_w_x1.out
      replace ho_g := own_marked ho_g hg (or_symm_ne ne_x1_g.out)
      replace hbel := below_marked hbel ho_x1 hg
      clear hg ho
      clear ho_x1
      have hk : ¬ (1 + 4 * (l0.length : Int) + 4 * (l1.length : Int) < 0) := by omega
      go_wp2_with fail
      go_at_call 20
      refine (laws_eqRectS (opR 6 l0 l1) _ _ _ _ _ (rects_at ho_g) (rects_at ho_w) HLEN.out).mono ?_
      rintro e w14 ⟨rfl, hb⟩
      replace ho_w := own_next ho_w hb
      replace ho_g := own_next ho_g hb
      replace hbel := hbel.trans (hb.mono hbel.size)
      clear hb
      go_wp2_with fail
      go_at_call 21
      refine (laws_markRectS (opR 6 l0 l1) _ _ _ _ ho_g HLEN.out).mono ?_
      rintro e w15 ⟨rfl, ho, hg⟩
      replace ho_w := own_marked ho_w hg (ne_w_g.out)
      replace hbel := below_marked hbel ho_g hg
      clear hg ho_g
      have ho_g := ho
      clear ho
      have hkL := not_neg_len (opR 6 l0 l1).length
      go_wp2_with fail
      go_at_call 27
      refine (laws_heldRectS (opR 6 l0 l1).length _ _ _ (rects_at ho_g) HLEN.out).mono ?_
      rintro e w16 ⟨rfl, rfl⟩
      go_wp2_with fail
      go_at_call 17
      refine (laws_toRectS l0 _ _ _ (in_at hin0 hbel) hn0).mono ?_
      rintro e w17 ⟨a_y0, c_y0, rfl, ho_y0, hb⟩
      have ne_w_y0 := hide (own_ne ho_w ho_y0)
      replace ho_w := own_next ho_w hb
      have ne_g_y0 := hide (own_ne ho_g ho_y0)
      replace ho_g := own_next ho_g hb
      replace ho_y0 := own_base ho_y0 hbel.size
      replace hbel := hbel.trans (hb.mono hbel.size)
      clear hb
      go_wp2_with fail
      go_at_call 17
      refine (laws_toRectS l1 _ _ _ (in_at hin1 hbel) hn1').mono ?_
      rintro e w18 ⟨a_y1, c_y1, rfl, ho_y1, hb⟩
      have ne_w_y1 := hide (own_ne ho_w ho_y1)
      replace ho_w := own_next ho_w hb
      have ne_g_y1 := hide (own_ne ho_g ho_y1)
      replace ho_g := own_next ho_g hb
      have ne_y0_y1 := hide (own_ne ho_y0 ho_y1)
      replace ho_y0 := own_next ho_y0 hb
      replace ho_y1 := own_base ho_y1 hbel.size
      replace hbel := hbel.trans (hb.mono hbel.size)
      clear hb
      go_wp2_with fail
      go_at_call 39
      refine (impl_SymmetricDifference l0 l1 _ _ _ _ _ (rects_at ho_y0) (rects_at ho_y1) (by omega) (by omega)).mono ?_
      rintro e w19 ⟨a_h, c_h, rfl, ho_h, hb⟩
      have ne_w_h := hide (own_ne ho_w ho_h)
      replace ho_w := own_next ho_w hb
      have ne_g_h := hide (own_ne ho_g ho_h)
      replace ho_g := own_next ho_g hb
      have ne_y0_h := hide (own_ne ho_y0 ho_h)
      replace ho_y0 := own_next ho_y0 hb
      have ne_y1_h := hide (own_ne ho_y1 ho_h)
      replace ho_y1 := own_next ho_y1 hb
      replace ho_h := own_base ho_h hbel.size
      replace hbel := hbel.trans (hb.mono hbel.size)
      clear hb
      go_wp2_with fail
      go_at_call 20
      refine (laws_eqRectS (opR 6 l0 l1) _ _ _ _ _ (rects_at ho_h) (rects_at ho_w) HLEN.out).mono ?_
      rintro e w20 ⟨rfl, hb⟩
      replace ho_w := own_next ho_w hb
      replace ho_g := own_next ho_g hb
      replace ho_y0 := own_next ho_y0 hb
      replace ho_y1 := own_next ho_y1 hb
      replace ho_h := own_next ho_h hb
      replace hbel := hbel.trans (hb.mono hbel.size)
      clear hb
      go_wp2_with fail
      go_at_call 27
      refine (laws_heldRectS (opR 6 l0 l1).length _ _ _ (rects_at ho_g) HLEN.out).mono ?_
      rintro e w21 ⟨rfl, rfl⟩
      go_wp2_with fail
      go_ret
      exact ⟨rfl, hbel⟩
    · go_enter Try.func10, Try.ntmps10
      go_wp2_with fail
      go_at_call 15
      refine (laws_szRectS_ok _ _ _ (1048576) (by omega) (by omega) _).mono ?_
      rintro e w' ⟨rfl, rfl⟩
      have hz0 := not_neg_left (1048576) l0.length (by omega)
      go_wp2_with fail
      go_at_call 15
      refine (laws_szRectS_no _ _ _ (1048576 - (l0.length : Int)) (by omega) (by omega) hl1 _).mono ?_
      rintro e w' ⟨rfl, rfl⟩
      go_wp2_with fail
      go_ret
      exact ⟨rfl, hbel⟩
  · go_enter Try.func10, Try.ntmps10
    go_wp2_with fail
    go_at_call 15
    refine (laws_szRectS_no _ _ _ (1048576) (by omega) (by omega) hl0 _).mono ?_
    rintro e w' ⟨rfl, rfl⟩
    go_wp2_with fail
    go_ret
    exact ⟨rfl, hbel⟩

set_option maxRecDepth 100000 in
theorem lifted (os : Os) (started : os.Started) (H : Type) (enc : TypeId × Value → H) :
    ReturnsInHanded {} Try.checked os 10 .any (Rows.fnExactSymmetricDifferenceSpec.pre6 enc Try.prog Try.f10 Rows.fnExactSymmetricDifferenceRow.domain false) (Rows.fnExactSymmetricDifferenceSpec.post enc Try.prog Try.f10 false true false false) := by
  refine law_lifted (C := Try.checked) (tb := 4) own started (by kernel_rfl) Try.func10 laidOut (by kernel_rfl) Try.underlying4 (by kernel_rfl) rfl
    (ChangeSpec.witness6 (enc := enc) (C := Try.checked) false ⟨#[], #[.slice none 0 0, .slice none 0 0], []⟩ 8 (by kernel_rfl) (by kernel_rfl) (by kernel_rfl) (by kernel_rfl)) ?_
  intro W base args ds ps hval hA hlt
  have hA : DataW.TrodAll enc Try.prog W 0 (fun _ => true) true Try.f10.params.toList args.toList ds ps := hA
  have hval : ∀ (j : Nat) t v, Try.f10.params[j]? = some t → args[j]? = some v → Value.okWide Try.prog W .any base t v := hval
  rw [Try.params10] at hA hval
  obtain ⟨v0, vs0, d0, ds0, p0, q0, hargs, rfl, rfl, h0, r0⟩ := trodAll_cons hA
  obtain ⟨v1, vs1, d1, ds1, p1, q1, rfl, rfl, rfl, h1, r1⟩ := trodAll_cons r0
  obtain ⟨rfl, rfl, rfl⟩ := trodAll_nil r1
  obtain rfl : args = #[v0, v1] := by cases args; simp_all
  refine ⟨rfl, ?_⟩
  obtain ⟨a0, l0, c0, rfl, hl0, hin0⟩ := open_rects Try.underlying22 Try.underlying34 (by kernel_rfl) (by kernel_rfl) Try.underlying2 rfl rfl rfl rfl (okWide_slice Try.underlying22 (hval 0 22 v0 rfl rfl)) h0
  obtain ⟨a1, l1, c1, rfl, hl1, hin1⟩ := open_rects Try.underlying22 Try.underlying34 (by kernel_rfl) (by kernel_rfl) Try.underlying2 rfl rfl rfl rfl (okWide_slice Try.underlying22 (hval 1 22 v1 rfl rfl)) h1
  exact walk l0 l1 a0 a1 c0 c1 hl0 hl1 W hin0 hin1

theorem proved : Rows.FnExactSymmetricDifferenceSaid :=
  OpenClaim.holds_of_wide 10 Try.f10 rfl rfl rfl rfl rfl rfl rfl ⟨rfl, rfl, rfl, rfl, rfl⟩ rfl rfl rfl rfl rfl (by kernel_rfl) Try.func10 (by kernel_rfl)
    (of_decide_eq_true (by kernel_rfl)) (by unfold Func.isWrapper; first | (rw [if_pos (by decide +kernel)]; kernel_rfl) | (rw [if_neg (by decide +kernel)]; exact ⟨rfl, rfl⟩))
    (fun os started H enc _ => lifted os started H enc)

#print axioms proved
end Go.Proofs.Ytdnbocngbmbofaa.lawFnExactSymmetricDifference
