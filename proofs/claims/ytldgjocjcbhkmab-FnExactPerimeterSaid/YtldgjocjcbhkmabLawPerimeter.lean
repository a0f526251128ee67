/- The program's Perimeter returns what the reference's returns, for all arguments. No condition. -/
import Derived.Test.YtldgjocjcbhkmabRows
import Derived.Test.YtldgjocjcbhkmabLawS
import Derived.Deep.RegionHeld3
import Derived.Test.YtldgjocjcbhkmabEdg7
namespace Go.Proofs.Ytldgjocjcbhkmab.lawFnExactPerimeter
open Go.ChangeShapes Go.WideShapes Go.ChangeAt Go.RowKit Go.Joins

theorem own : ownKnob Try.prog.godebug = none := by kernel_rfl
theorem laidOut : laidOutB Try.prog = true := by kernel_rfl

set_option maxRecDepth 100000 in
set_option maxHeartbeats 3200000 in
theorem walk (l0 : List Rc) (a0 : Option Addr) (c0 : Nat) (hl0 : l0.length ≤ maxLen) (w : World) (hin0 : InRects w.heap.size w a0 l0) :
    Calls Try.prog 3 #[.slice a0 l0.length c0] w fun e w' => e = .returned (.bool true) ∧ Below w.heap.size w w' := by
  have hbel := Below.refl w.heap.size w
  by_cases hn0 : l0.length ≤ 1048576
  · skip
    go_enter Try.func3, Try.ntmps3
    go_wp2_with fail
    go_at_call 5
    refine (laws_szRectS_ok _ _ _ (1048576) (by omega) (by omega) _).mono ?_
    rintro e w' ⟨rfl, rfl⟩
    have hz0 := not_neg_left (1048576) l0.length (by omega)
    go_wp2_with fail
    go_at_call 7
    refine (laws_toRectS l0 _ _ _ (in_at hin0 hbel) hn0).mono ?_
    rintro e w1 ⟨a_p0, c_p0, rfl, ho_p0, hb⟩
    replace ho_p0 := own_base ho_p0 hbel.size
    replace hbel := hbel.trans (hb.mono hbel.size)
    clear hb
    go_wp2_with fail
    go_at_call 6
    refine (spec_Perimeter l0 _ _ _ (rects_at ho_p0) (by omega)).mono ?_
    rintro e w2 ⟨rfl, hb⟩
    replace ho_p0 := own_next ho_p0 hb
    replace hbel := hbel.trans (hb.mono hbel.size)
    clear hb
    clear ho_p0
    go_wp2_with fail
    go_at_call 7
    refine (laws_toRectS l0 _ _ _ (in_at hin0 hbel) hn0).mono ?_
    rintro e w3 ⟨a_x0, c_x0, rfl, ho_x0, hb⟩
    replace ho_x0 := own_base ho_x0 hbel.size
    replace hbel := hbel.trans (hb.mono hbel.size)
    clear hb
    go_wp2_with fail
    go_at_call 8
    refine (impl_Perimeter l0 _ _ _ (rects_at ho_x0) (by omega)).mono ?_
    rintro e w4 ⟨rfl, hb⟩
    replace ho_x0 := own_next ho_x0 hb
    replace hbel := hbel.trans (hb.mono hbel.size)
    clear hb
    go_wp2_with fail
    go_at_call 7
    refine (laws_toRectS l0 _ _ _ (in_at hin0 hbel) hn0).mono ?_
    rintro e w5 ⟨a_t, c_t, rfl, ho_t, hb⟩
    have ne_x0_t := hide (own_ne ho_x0 ho_t)
    replace ho_x0 := own_next ho_x0 hb
    replace ho_t := own_base ho_t hbel.size
    replace hbel := hbel.trans (hb.mono hbel.size)
    clear hb
    go_wp2_with fail
    go_at_call 9
    refine (laws_eqRectS (l0) _ _ _ _ _ (rects_at ho_x0) (rects_at ho_t) (by omega)).mono ?_
    rintro e w6 ⟨rfl, hb⟩
    replace ho_x0 := own_next ho_x0 hb
    replace ho_t := own_next ho_t hb
    replace hbel := hbel.trans (hb.mono hbel.size)
    clear hb
    clear ho_t
    go_wp2_with fail
    go_ret
    exact ⟨rfl, hbel⟩
  · go_enter Try.func3, Try.ntmps3
    go_wp2_with fail
    go_at_call 5
    refine (laws_szRectS_no _ _ _ (1048576) (by omega) (by omega) hl0 _).mono ?_
    rintro e w' ⟨rfl, rfl⟩
    go_wp2_with fail
    go_ret
    exact ⟨rfl, (by repeat (first | with_reducible exact Below.refl _ _ | with_reducible assumption | with_reducible refine bel_alloc ?_ _ | with_reducible refine bel_drew ?_ | with_reducible refine bel_drewN ?_ _ | with_reducible refine bel_set ?_ (by (try simp) <;> omega) _ | with_reducible refine bel_trans ?_ (by assumption)))⟩

set_option maxRecDepth 100000 in
theorem lifted (os : Os) (started : os.Started) (H : Type) (enc : TypeId × Value → H) :
    ReturnsInHanded {} Try.checked os 3 .any (Rows.fnExactPerimeterSpec.pre6 enc Try.prog Try.f3 Rows.fnExactPerimeterRow.domain false) (Rows.fnExactPerimeterSpec.post enc Try.prog Try.f3 false true false false) := by
  refine law_lifted (C := Try.checked) (tb := 4) own started (by kernel_rfl) Try.func3 laidOut (by kernel_rfl) Try.underlying4 (by kernel_rfl) rfl
    (ChangeSpec.witness6 (enc := enc) (C := Try.checked) false ⟨#[], #[.slice none 0 0], []⟩ 8 (by kernel_rfl) (by kernel_rfl) (by kernel_rfl) (by kernel_rfl)) ?_
  intro W base args ds ps hval hA hlt
  have hA : DataW.TrodAll enc Try.prog W 0 (fun _ => true) true Try.f3.params.toList args.toList ds ps := hA
  have hval : ∀ (j : Nat) t v, Try.f3.params[j]? = some t → args[j]? = some v → Value.okWide Try.prog W .any base t v := hval
  rw [Try.params3] at hA hval
  obtain ⟨v0, vs0, d0, ds0, p0, q0, hargs, rfl, rfl, h0, r0⟩ := trodAll_cons hA
  obtain ⟨rfl, rfl, rfl⟩ := trodAll_nil r0
  obtain rfl : args = #[v0] := by cases args; simp_all
  refine ⟨rfl, ?_⟩
  obtain ⟨a0, l0, c0, rfl, hl0, hin0⟩ := open_rects Try.underlying22 Try.underlying46 (by kernel_rfl) (by kernel_rfl) Try.underlying2 rfl rfl rfl rfl (okWide_slice Try.underlying22 (hval 0 22 v0 rfl rfl)) h0
  exact walk l0 a0 c0 hl0 W hin0

theorem proved : Rows.FnExactPerimeterSaid :=
  OpenClaim.holds_of_wide 3 Try.f3 rfl rfl rfl rfl rfl rfl rfl ⟨rfl, rfl, rfl, rfl, rfl⟩ rfl rfl rfl rfl rfl (by kernel_rfl) Try.func3 (by kernel_rfl)
    (of_decide_eq_true (by kernel_rfl)) (by unfold Func.isWrapper; first | (rw [if_pos (by decide +kernel)]; kernel_rfl) | (rw [if_neg (by decide +kernel)]; exact ⟨rfl, rfl⟩))
    (fun os started H enc _ => lifted os started H enc)

#print axioms proved
end Go.Proofs.Ytldgjocjcbhkmab.lawFnExactPerimeter
