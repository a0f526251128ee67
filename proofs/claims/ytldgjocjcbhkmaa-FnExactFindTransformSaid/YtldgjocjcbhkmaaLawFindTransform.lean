/- The program's FindTransform returns what the reference's returns, for all arguments. No condition. -/
import Derived.Test.YtldgjocjcbhkmaaRows
import Derived.Deep.DeepCutAuto
import Derived.Test.YtldgjocjcbhkmaaFndP
namespace Go.Proofs.Ytldgjocjcbhkmaa.lawFnExactFindTransform
open Go.ChangeShapes Go.WideShapes Go.ChangeAt Go.RowKit Go.Joins

theorem own : ownKnob Try.prog.godebug = none := by kernel_rfl
theorem laidOut : laidOutB Try.prog = true := by kernel_rfl
attribute [local go_sem low] cell_alloc_ite frozen_alloc_ite

set_option maxRecDepth 100000 in
set_option maxHeartbeats 3200000 in
theorem walk (l0 l1 : Pts) (a0 a1 : Option Addr) (c0 c1 : Nat) (hl0 : l0.length ≤ maxLen) (hl1 : l1.length ≤ maxLen) (w : World) (hin0 : InPts w.heap.size w a0 l0) (hin1 : InPts w.heap.size w a1 l1) :
    Calls Try.prog 14 #[.slice a0 l0.length c0, .slice a1 l1.length c1] w fun e w' => e = .returned (.bool true) ∧ Below w.heap.size w w' := by
  have hbel := Below.refl w.heap.size w
  by_cases hn0 : l0.length ≤ 1048576
  · skip
    by_cases hn1 : (l1.length : Int) ≤ 1048576 - (l0.length : Int)
    · skip
      have hn1' : l1.length ≤ 1048576 := by omega
      go_enter Try.func14, Try.ntmps14
      go_wp2_with fail
      go_at_call 69
      refine (laws_szPointS_ok _ _ _ (1048576) (by omega) (by omega) _).mono ?_
      rintro e w' ⟨rfl, rfl⟩
      have hz0 := not_neg_left (1048576) l0.length (by omega)
      go_wp2_with fail
      go_at_call 69
      refine (laws_szPointS_ok _ _ _ (1048576 - (l0.length : Int)) (by omega) (by omega) _).mono ?_
      rintro e w' ⟨rfl, rfl⟩
      have hz1 := not_neg_left (1048576 - (l0.length : Int)) l1.length (by omega)
      go_wp2_with fail
      go_at_call 71
      refine (laws_toPointS l0 _ _ _ (inP_at hin0 hbel) hn0).mono ?_
      rintro e w1 ⟨a_p0, c_p0, rfl, ho_p0, hb⟩
      replace ho_p0 := ownP_base ho_p0 hbel.size
      replace hbel := hbel.trans (hb.mono hbel.size)
      clear hb
      go_wp2_with fail
      go_at_call 71
      refine (laws_toPointS l1 _ _ _ (inP_at hin1 hbel) hn1').mono ?_
      rintro e w2 ⟨a_p1, c_p1, rfl, ho_p1, hb⟩
      replace ho_p0 := ownP_next ho_p0 hb
      replace ho_p1 := ownP_base ho_p1 hbel.size
      replace hbel := hbel.trans (hb.mono hbel.size)
      clear hb
      go_wp2_with fail
      go_at_call 70
      refine (spec_FindTransform l0 l1 _ _ _ _ _ (pts_at ho_p0) (pts_at ho_p1) (by omega) (by omega)).mono ?_
      rintro e w3 ⟨rfl, hb⟩
      replace hbel := hbel.trans (hb.mono hbel.size)
      clear hb ho_p0 ho_p1
      have e0 : (w3.alloc (.cells #[.int .i64 (fRO l0 l1), .int .i64 (fRX l0 l1), .int .i64 (fRY l0 l1)] 54)).cell? ⟨w3.heap.size, 0, none⟩ = some (.int .i64 (fRO l0 l1)) := by simp [go_sem]
      have e1 : (w3.alloc (.cells #[.int .i64 (fRO l0 l1), .int .i64 (fRX l0 l1), .int .i64 (fRY l0 l1)] 54)).cell? ⟨w3.heap.size, 1, none⟩ = some (.int .i64 (fRX l0 l1)) := by simp [go_sem]
      have e2 : (w3.alloc (.cells #[.int .i64 (fRO l0 l1), .int .i64 (fRX l0 l1), .int .i64 (fRY l0 l1)] 54)).cell? ⟨w3.heap.size, 2, none⟩ = some (.int .i64 (fRY l0 l1)) := by simp [go_sem]
      have hbel4 := hbel.alloc hbel.size (.cells #[.int .i64 (fRO l0 l1), .int .i64 (fRX l0 l1), .int .i64 (fRY l0 l1)] 54)
      go_wp2_with fail
      generalize (w3.alloc (.cells #[.int .i64 (fRO l0 l1), .int .i64 (fRX l0 l1), .int .i64 (fRY l0 l1)] 54)) = w4 at *
      go_at_call 71
      refine (laws_toPointS l0 _ _ _ (inP_at hin0 hbel4) hn0).mono ?_
      rintro e w5 ⟨a_x0, c_x0, rfl, ho_x0, hb⟩
      replace ho_x0 := ownP_base ho_x0 hbel4.size
      replace hbel4 := hbel4.trans (hb.mono hbel4.size)
      replace e0 := keep_cell hb e0
      replace e1 := keep_cell hb e1
      replace e2 := keep_cell hb e2
      clear hb
      go_wp2_with fail
      go_at_call 71
      refine (laws_toPointS l1 _ _ _ (inP_at hin1 hbel4) hn1').mono ?_
      rintro e w6 ⟨a_x1, c_x1, rfl, ho_x1, hb⟩
      replace ho_x0 := ownP_next ho_x0 hb
      replace ho_x1 := ownP_base ho_x1 hbel4.size
      replace hbel4 := hbel4.trans (hb.mono hbel4.size)
      replace e0 := keep_cell hb e0
      replace e1 := keep_cell hb e1
      replace e2 := keep_cell hb e2
      clear hb
      go_wp2_with fail
      go_at_call 72
      refine (impl_FindTransform l0 l1 _ _ _ _ _ (pts_at ho_x0) (pts_at ho_x1) (by omega) (by omega)).mono ?_
      rintro e w7 ⟨rfl, hb⟩
      replace ho_x0 := ownP_next ho_x0 hb
      replace ho_x1 := ownP_next ho_x1 hb
      replace hbel4 := hbel4.trans (hb.mono hbel4.size)
      replace e0 := keep_cell hb e0
      replace e1 := keep_cell hb e1
      replace e2 := keep_cell hb e2
      clear hb
      have hz3 := World.block_lt_of_cell? _ _ e0
      go_wp2_with fail
      go_at_call 73
      refine (laws_eqTransform _ _ _ _).mono ?_
      rintro e w8 ⟨rfl, hb⟩
      have hbel8 : Below w.heap.size w w8 := by
        refine Below.trans ?_ (hb.mono ?_)
        · first | exact (hbel4.alloc hbel4.size _).drew | exact hbel4.alloc hbel4.size _
        · have := hbel4.size; simp; omega
      replace ho_x0 : OwnPts w8 w.heap.size (.slice a_x0 l0.length c_x0) l0 := ownP_next (World.ownsRow.alloc ho_x0 _) hb
      replace ho_x1 : OwnPts w8 w.heap.size (.slice a_x1 l1.length c_x1) l1 := ownP_next (World.ownsRow.alloc ho_x1 _) hb
      clear hb hbel4 e0 e1 e2
      go_wp2_with fail
      go_at_call 71
      refine (laws_toPointS l0 _ _ _ (inP_at hin0 hbel8) hn0).mono ?_
      rintro e w9 ⟨a_t, c_t, rfl, ho_t, hb⟩
      replace ho_x0 := ownP_next ho_x0 hb
      replace ho_x1 := ownP_next ho_x1 hb
      replace hbel8 := hbel8.trans (hb.mono hbel8.size)
      clear hb
      go_wp2_with fail
      go_at_call 74
      refine (laws_eqPointS l0 _ _ _ _ _ (pts_at ho_x0) (pts_at ho_t) (by omega)).mono ?_
      rintro e w10 ⟨rfl, hb⟩
      replace ho_x1 := ownP_next ho_x1 hb
      replace hbel8 := hbel8.trans (hb.mono hbel8.size)
      clear hb ho_t ho_x0
      go_wp2_with fail
      go_at_call 71
      refine (laws_toPointS l1 _ _ _ (inP_at hin1 hbel8) hn1').mono ?_
      rintro e w11 ⟨a_t, c_t, rfl, ho_t, hb⟩
      replace ho_x1 := ownP_next ho_x1 hb
      replace hbel8 := hbel8.trans (hb.mono hbel8.size)
      clear hb
      go_wp2_with fail
      go_at_call 74
      refine (laws_eqPointS l1 _ _ _ _ _ (pts_at ho_x1) (pts_at ho_t) (by omega)).mono ?_
      rintro e w12 ⟨rfl, hb⟩
      replace hbel8 := hbel8.trans (hb.mono hbel8.size)
      clear hb ho_t ho_x1
      go_wp2_with fail
      go_ret
      exact ⟨rfl, hbel8⟩
    · go_enter Try.func14, Try.ntmps14
      go_wp2_with fail
      go_at_call 69
      refine (laws_szPointS_ok _ _ _ (1048576) (by omega) (by omega) _).mono ?_
      rintro e w' ⟨rfl, rfl⟩
      have hz0 := not_neg_left (1048576) l0.length (by omega)
      go_wp2_with fail
      go_at_call 69
      refine (laws_szPointS_no _ _ _ (1048576 - (l0.length : Int)) (by omega) (by omega) hl1 _).mono ?_
      rintro e w' ⟨rfl, rfl⟩
      go_wp2_with fail
      go_ret
      exact ⟨rfl, (by repeat (first | with_reducible exact Below.refl _ _ | with_reducible assumption | with_reducible refine bel_alloc ?_ _ | with_reducible refine bel_drew ?_ | with_reducible refine bel_drewN ?_ _ | with_reducible refine bel_set ?_ (by (try simp) <;> omega) _ | with_reducible refine bel_trans ?_ (by assumption)))⟩
  · go_enter Try.func14, Try.ntmps14
    go_wp2_with fail
    go_at_call 69
    refine (laws_szPointS_no _ _ _ (1048576) (by omega) (by omega) hl0 _).mono ?_
    rintro e w' ⟨rfl, rfl⟩
    go_wp2_with fail
    go_ret
    exact ⟨rfl, (by repeat (first | with_reducible exact Below.refl _ _ | with_reducible assumption | with_reducible refine bel_alloc ?_ _ | with_reducible refine bel_drew ?_ | with_reducible refine bel_drewN ?_ _ | with_reducible refine bel_set ?_ (by (try simp) <;> omega) _ | with_reducible refine bel_trans ?_ (by assumption)))⟩

set_option maxRecDepth 100000 in
theorem lifted (os : Os) (started : os.Started) (H : Type) (enc : TypeId × Value → H) :
    ReturnsInHanded {} Try.checked os 14 .any (Rows.fnExactFindTransformSpec.pre6 enc Try.prog Try.f14 Rows.fnExactFindTransformRow.domain false) (Rows.fnExactFindTransformSpec.post enc Try.prog Try.f14 false true false false) := by
  refine law_lifted (C := Try.checked) (tb := 4) own started (by kernel_rfl) Try.func14 laidOut (by kernel_rfl) Try.underlying4 (by kernel_rfl) rfl
    (ChangeSpec.witness6 (enc := enc) (C := Try.checked) false ⟨#[], #[.slice none 0 0, .slice none 0 0], []⟩ 8 (by kernel_rfl) (by kernel_rfl) (by kernel_rfl) (by kernel_rfl)) ?_
  intro W base args ds ps hval hA hlt
  have hA : DataW.TrodAll enc Try.prog W 0 (fun _ => true) true Try.f14.params.toList args.toList ds ps := hA
  have hval : ∀ (j : Nat) t v, Try.f14.params[j]? = some t → args[j]? = some v → Value.okWide Try.prog W .any base t v := hval
  rw [Try.params14] at hA hval
  obtain ⟨v0, vs0, d0, ds0, p0, q0, hargs, rfl, rfl, h0, r0⟩ := trodAll_cons hA
  obtain ⟨v1, vs1, d1, ds1, p1, q1, rfl, rfl, rfl, h1, r1⟩ := trodAll_cons r0
  obtain ⟨rfl, rfl, rfl⟩ := trodAll_nil r1
  obtain rfl : args = #[v0, v1] := by cases args; simp_all
  refine ⟨rfl, ?_⟩
  obtain ⟨a0, l0, c0, rfl, hl0, hin0⟩ := open_points Try.underlying63 Try.underlying115 (by kernel_rfl) (by kernel_rfl) Try.underlying2 rfl rfl (okWide_slice Try.underlying63 (hval 0 63 v0 rfl rfl)) h0
  obtain ⟨a1, l1, c1, rfl, hl1, hin1⟩ := open_points Try.underlying63 Try.underlying115 (by kernel_rfl) (by kernel_rfl) Try.underlying2 rfl rfl (okWide_slice Try.underlying63 (hval 1 63 v1 rfl rfl)) h1
  exact walk l0 l1 a0 a1 c0 c1 hl0 hl1 W hin0 hin1

theorem proved : Rows.FnExactFindTransformSaid :=
  OpenClaim.holds_of_wide 14 Try.f14 rfl rfl rfl rfl rfl rfl rfl ⟨rfl, rfl, rfl, rfl, rfl⟩ rfl rfl rfl rfl rfl (by kernel_rfl) Try.func14 (by kernel_rfl)
    (of_decide_eq_true (by kernel_rfl)) (by unfold Func.isWrapper; first | (rw [if_pos (by decide +kernel)]; kernel_rfl) | (rw [if_neg (by decide +kernel)]; exact ⟨rfl, rfl⟩))
    (fun os started H enc _ => lifted os started H enc)

#print axioms proved
end Go.Proofs.Ytldgjocjcbhkmaa.lawFnExactFindTransform
