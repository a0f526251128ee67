/- The program's ShiftRegion returns what the reference's returns, for all arguments. No condition. -/
import Derived.Test.YtdnbocngbmbofabRows
import Derived.Test.YtdnbocngbmbofabLawS
import Derived.Test.YtdnbocngbmbofabRegM2
namespace Go.Proofs.Ytdnbocngbmbofab.lawFnExactShiftRegion
open Go.ChangeShapes Go.WideShapes Go.ChangeAt Go.RowKit Go.Joins

theorem own : ownKnob Try.prog.godebug = none := by kernel_rfl
theorem laidOut : laidOutB Try.prog = true := by kernel_rfl

set_option maxRecDepth 100000 in
set_option maxHeartbeats 3200000 in
theorem walk (l0 : List Rc) (a0 : Option Addr) (c0 : Nat) (n1 n2 : Int) (hl0 : l0.length ≤ maxLen) (w : World) (hin0 : InRects w.heap.size w a0 l0) :
    Calls Try.prog 4 #[.slice a0 l0.length c0, .int .i64 n1, .int .i64 n2] w fun e w' => e = .returned (.bool true) ∧ Below w.heap.size w w' := by
  have hbel := Below.refl w.heap.size w
  by_cases hn0 : l0.length ≤ 1048576
  · skip
    go_enter Try.func4, Try.ntmps4
    go_wp2_with fail
    go_at_call 15
    refine (laws_szRectS_ok _ _ _ (1048576) (by omega) (by omega) _).mono ?_
    rintro e w' ⟨rfl, rfl⟩
    have hz0 := not_neg_left (1048576) l0.length (by omega)
    go_wp2_with fail
    go_at_call 17
    refine (laws_toRectS l0 _ _ _ (in_at hin0 hbel) hn0).mono ?_
    rintro e w1 ⟨a_p0, c_p0, rfl, ho_p0, hb⟩
    replace ho_p0 := own_base ho_p0 hbel.size
    replace hbel := hbel.trans (hb.mono hbel.size)
    clear hb
    go_wp2_with fail
    go_at_call 22
    refine (spec_ShiftRegion l0 n1 n2 _ _ _ (rects_at ho_p0) (by omega)).mono ?_
    rintro e w2 ⟨a_w, c_w, rfl, ho_w, hb⟩
    have ne_p0_w := hide (own_ne ho_p0 ho_w)
    replace ho_p0 := own_next ho_p0 hb
    replace ho_w := own_base ho_w hbel.size
    replace hbel := hbel.trans (hb.mono hbel.size)
    clear hb
    clear ho_p0
    go_wp2_with fail
    go_at_call 17
    refine (laws_toRectS l0 _ _ _ (in_at hin0 hbel) hn0).mono ?_
    rintro e w3 ⟨a_x0, c_x0, rfl, ho_x0, hb⟩
    have ne_w_x0 := hide (own_ne ho_w ho_x0)
    replace ho_w := own_next ho_w hb
    replace ho_x0 := own_base ho_x0 hbel.size
    replace hbel := hbel.trans (hb.mono hbel.size)
    clear hb
    go_wp2_with fail
    go_at_call 23
    refine (impl_ShiftRegion l0 n1 n2 _ _ _ (rects_at ho_x0) (by omega)).mono ?_
    rintro e w4 ⟨a_g, c_g, rfl, ho_g, hb⟩
    have ne_w_g := hide (own_ne ho_w ho_g)
    replace ho_w := own_next ho_w hb
    have ne_x0_g := hide (own_ne ho_x0 ho_g)
    replace ho_x0 := own_next ho_x0 hb
    replace ho_g := own_base ho_g hbel.size
    replace hbel := hbel.trans (hb.mono hbel.size)
    clear hb
    have hlen : (movR 0 n1 n2 l0).length ≤ 2000000 := movR_len 0 n1 n2 l0
    have HLEN := hide hlen
    clear hlen
    go_wp2_with fail
    go_at_call 19
    refine (laws_eqRectS (movR 0 n1 n2 l0) _ _ _ _ _ (rects_at ho_g) (rects_at ho_w) HLEN.out).mono ?_
    rintro e w5 ⟨rfl, hb⟩
    replace ho_w := own_next ho_w hb
    replace ho_x0 := own_next ho_x0 hb
    replace ho_g := own_next ho_g hb
    replace hbel := hbel.trans (hb.mono hbel.size)
    clear hb
    go_wp2_with fail
    go_at_call 17
    refine (laws_toRectS l0 _ _ _ (in_at hin0 hbel) hn0).mono ?_
    rintro e w6 ⟨a_t, c_t, rfl, ho_t, hb⟩
    have ne_w_t := hide (own_ne ho_w ho_t)
    replace ho_w := own_next ho_w hb
    have ne_x0_t := hide (own_ne ho_x0 ho_t)
    replace ho_x0 := own_next ho_x0 hb
    have ne_g_t := hide (own_ne ho_g ho_t)
    replace ho_g := own_next ho_g hb
    replace ho_t := own_base ho_t hbel.size
    replace hbel := hbel.trans (hb.mono hbel.size)
    clear hb
    go_wp2_with fail
    go_at_call 19
    refine (laws_eqRectS (l0) _ _ _ _ _ (rects_at ho_x0) (rects_at ho_t) (by omega)).mono ?_
    rintro e w7 ⟨rfl, hb⟩
    replace ho_w := own_next ho_w hb
    replace ho_x0 := own_next ho_x0 hb
    replace ho_g := own_next ho_g hb
    replace ho_t := own_next ho_t hb
    replace hbel := hbel.trans (hb.mono hbel.size)
    clear hb
    clear ho_t
    go_wp2_with fail
    go_at_call 20
    refine (laws_markRectS_at (1) (by omega) l0 _ _ _ _ ho_x0 (by omega)).mono ?_
    rintro e w8 ⟨rfl, ho, hg⟩
    replace ho_w := own_marked ho_w hg ne_w_x0.out
    replace ho_g := own_marked ho_g hg (or_symm_ne ne_x0_g.out)
    replace hbel := below_marked hbel ho_x0 hg
    clear hg ho
    clear ho_x0
    have hk : ¬ (1 + 4 * (l0.length : Int) < 0) := by omega
    go_wp2_with fail
    go_at_call 19
    refine (laws_eqRectS (movR 0 n1 n2 l0) _ _ _ _ _ (rects_at ho_g) (rects_at ho_w) HLEN.out).mono ?_
    rintro e w9 ⟨rfl, hb⟩
    replace ho_w := own_next ho_w hb
    replace ho_g := own_next ho_g hb
    replace hbel := hbel.trans (hb.mono hbel.size)
    clear hb
    go_wp2_with fail
    go_at_call 20
    refine (laws_markRectS (movR 0 n1 n2 l0) _ _ _ _ ho_g HLEN.out).mono ?_
    rintro e w10 ⟨rfl, ho, hg⟩
    replace ho_w := own_marked ho_w hg (ne_w_g.out)
    replace hbel := below_marked hbel ho_g hg
    clear hg ho_g
    have ho_g := ho
    clear ho
    have hkL := not_neg_len (movR 0 n1 n2 l0).length
    go_wp2_with fail
    go_at_call 21
    refine (laws_heldRectS (movR 0 n1 n2 l0).length _ _ _ (rects_at ho_g) HLEN.out).mono ?_
    rintro e w11 ⟨rfl, rfl⟩
    go_wp2_with fail
    go_at_call 17
    refine (laws_toRectS l0 _ _ _ (in_at hin0 hbel) hn0).mono ?_
    rintro e w12 ⟨a_y0, c_y0, rfl, ho_y0, hb⟩
    have ne_w_y0 := hide (own_ne ho_w ho_y0)
    replace ho_w := own_next ho_w hb
    have ne_g_y0 := hide (own_ne ho_g ho_y0)
    replace ho_g := own_next ho_g hb
    replace ho_y0 := own_base ho_y0 hbel.size
    replace hbel := hbel.trans (hb.mono hbel.size)
    clear hb
    go_wp2_with fail
    go_at_call 23
    refine (impl_ShiftRegion l0 n1 n2 _ _ _ (rects_at ho_y0) (by omega)).mono ?_
    rintro e w13 ⟨a_h, c_h, rfl, ho_h, hb⟩
    have ne_w_h := hide (own_ne ho_w ho_h)
    replace ho_w := own_next ho_w hb
    have ne_g_h := hide (own_ne ho_g ho_h)
    replace ho_g := own_next ho_g hb
    have ne_y0_h := hide (own_ne ho_y0 ho_h)
    replace ho_y0 := own_next ho_y0 hb
    replace ho_h := own_base ho_h hbel.size
    replace hbel := hbel.trans (hb.mono hbel.size)
    clear hb
    go_wp2_with fail
    go_at_call 19
    refine (laws_eqRectS (movR 0 n1 n2 l0) _ _ _ _ _ (rects_at ho_h) (rects_at ho_w) HLEN.out).mono ?_
    rintro e w14 ⟨rfl, hb⟩
    replace ho_w := own_next ho_w hb
    replace ho_g := own_next ho_g hb
    replace ho_y0 := own_next ho_y0 hb
    replace ho_h := own_next ho_h hb
    replace hbel := hbel.trans (hb.mono hbel.size)
    clear hb
    go_wp2_with fail
    go_at_call 21
    refine (laws_heldRectS (movR 0 n1 n2 l0).length _ _ _ (rects_at ho_g) HLEN.out).mono ?_
    rintro e w15 ⟨rfl, rfl⟩
    go_wp2_with fail
    go_ret
    exact ⟨rfl, hbel⟩
  · go_enter Try.func4, Try.ntmps4
    go_wp2_with fail
    go_at_call 15
    refine (laws_szRectS_no _ _ _ (1048576) (by omega) (by omega) hl0 _).mono ?_
    rintro e w' ⟨rfl, rfl⟩
    go_wp2_with fail
    go_ret
    exact ⟨rfl, hbel⟩

set_option maxRecDepth 100000 in
theorem lifted (os : Os) (started : os.Started) (H : Type) (enc : TypeId × Value → H) :
    ReturnsInHanded {} Try.checked os 4 .any (Rows.fnExactShiftRegionSpec.pre6 enc Try.prog Try.f4 Rows.fnExactShiftRegionRow.domain false) (Rows.fnExactShiftRegionSpec.post enc Try.prog Try.f4 false true false false) := by
  refine law_lifted (C := Try.checked) (tb := 4) own started (by kernel_rfl) Try.func4 laidOut (by kernel_rfl) Try.underlying4 (by kernel_rfl) rfl
    (ChangeSpec.witness6 (enc := enc) (C := Try.checked) false ⟨#[], #[.slice none 0 0, .int .i64 0, .int .i64 0], []⟩ 8 (by kernel_rfl) (by kernel_rfl) (by kernel_rfl) (by kernel_rfl)) ?_
  intro W base args ds ps hval hA hlt
  have hA : DataW.TrodAll enc Try.prog W 0 (fun _ => true) true Try.f4.params.toList args.toList ds ps := hA
  have hval : ∀ (j : Nat) t v, Try.f4.params[j]? = some t → args[j]? = some v → Value.okWide Try.prog W .any base t v := hval
  rw [Try.params4] at hA hval
  obtain ⟨v0, vs0, d0, ds0, p0, q0, hargs, rfl, rfl, h0, r0⟩ := trodAll_cons hA
  obtain ⟨v1, vs1, d1, ds1, p1, q1, rfl, rfl, rfl, h1, r1⟩ := trodAll_cons r0
  obtain ⟨v2, vs2, d2, ds2, p2, q2, rfl, rfl, rfl, h2, r2⟩ := trodAll_cons r1
  obtain ⟨rfl, rfl, rfl⟩ := trodAll_nil r2
  obtain rfl : args = #[v0, v1, v2] := by cases args; simp_all
  refine ⟨rfl, ?_⟩
  obtain ⟨a0, l0, c0, rfl, hl0, hin0⟩ := open_rects Try.underlying22 Try.underlying70 (by kernel_rfl) (by kernel_rfl) Try.underlying2 rfl rfl rfl rfl (okWide_slice Try.underlying22 (hval 0 22 v0 rfl rfl)) h0
  obtain ⟨n1, rfl, _, _⟩ := open_i64 Try.underlying2 (hval 1 2 v1 rfl rfl) h1
  obtain ⟨n2, rfl, _, _⟩ := open_i64 Try.underlying2 (hval 2 2 v2 rfl rfl) h2
  exact walk l0 a0 c0 n1 n2 hl0 W hin0

theorem proved : Rows.FnExactShiftRegionSaid :=
  OpenClaim.holds_of_wide 4 Try.f4 rfl rfl rfl rfl rfl rfl rfl ⟨rfl, rfl, rfl, rfl, rfl⟩ rfl rfl rfl rfl rfl (by kernel_rfl) Try.func4 (by kernel_rfl)
    (of_decide_eq_true (by kernel_rfl)) (by unfold Func.isWrapper; first | (rw [if_pos (by decide +kernel)]; kernel_rfl) | (rw [if_neg (by decide +kernel)]; exact ⟨rfl, rfl⟩))
    (fun os started H enc _ => lifted os started H enc)

#print axioms proved
end Go.Proofs.Ytdnbocngbmbofab.lawFnExactShiftRegion
