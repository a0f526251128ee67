/- The program's InvertTransform returns what the reference's returns, for all arguments. No condition. -/
import Derived.Test.YthpfjhijkgmglaaRows
import Derived.Deep.DeepCutAuto
import Derived.Test.YthpfjhijkgmglaaMov5
namespace Go.Proofs.Ythpfjhijkgmglaa.lawFnExactInvertTransform
open Go.ChangeShapes Go.WideShapes Go.ChangeAt Go.RowKit Go.Joins

theorem own : ownKnob Try.prog.godebug = none := by kernel_rfl
theorem laidOut : laidOutB Try.prog = true := by kernel_rfl

attribute [local go_sem low] cell_alloc_ite frozen_alloc_ite

set_option maxHeartbeats 1600000 in
theorem walk (a00 a01 a02 : Int) (w : World) :
    Calls Try.prog 5 #[.agg #[.int .i64 a00, .int .i64 a01, .int .i64 a02]] w fun e w' => e = .returned (.bool true) ∧ Below w.heap.size w w' := by
  go_enter Try.func5, Try.ntmps5
  go_wp2_with (first
    | (go_at_call 12; refine (laws_toTransform _ _ _ _).mono ?_; rintro e w1 ⟨rfl, hb⟩; obtain ⟨_, _, hc, hf⟩ := bcellI hb; have hs := hb.size; (try simp at hs))
    | (go_at_call 18; refine (spec_InvertTransform _ _ _ _).mono ?_; rintro e w1 ⟨rfl, hb⟩; obtain ⟨_, _, hc, hf⟩ := bcellI hb; have hs := hb.size; (try simp at hs))
    | (go_at_call 19; refine (impl_InvertTransform _ _ _ _).mono ?_; rintro e w1 ⟨rfl, hb⟩; obtain ⟨_, _, hc, hf⟩ := bcellI hb; have hs := hb.size; (try simp at hs))
    | (go_at_call 20; refine (laws_eqTransform _ _ _ _).mono ?_; rintro e w1 ⟨rfl, hb⟩; obtain ⟨_, _, hc, hf⟩ := bcellI hb; have hs := hb.size; (try simp at hs)))
  all_goals (go_ret; exact ⟨rfl, (by repeat (first | with_reducible exact Below.refl _ _ | with_reducible assumption | with_reducible refine bel_alloc ?_ _ | with_reducible refine bel_drew ?_ | with_reducible refine bel_drewN ?_ _ | with_reducible refine bel_set ?_ (by (try simp) <;> omega) _ | with_reducible refine bel_trans ?_ (by assumption)))⟩)

set_option maxRecDepth 100000 in
theorem lifted (os : Os) (started : os.Started) (H : Type) (enc : TypeId × Value → H) :
    ReturnsInHanded {} Try.checked os 5 .any (Rows.fnExactInvertTransformSpec.pre6 enc Try.prog Try.f5 Rows.fnExactInvertTransformRow.domain false) (Rows.fnExactInvertTransformSpec.post enc Try.prog Try.f5 false true false false) := by
  refine law_lifted (C := Try.checked) (tb := 4) own started (by kernel_rfl) Try.func5 laidOut (by kernel_rfl) Try.underlying4 (by kernel_rfl) rfl
    (ChangeSpec.witness6 (enc := enc) (C := Try.checked) false ⟨#[], #[.agg #[.int .i64 0, .int .i64 0, .int .i64 0]], []⟩ 8 (by kernel_rfl) (by kernel_rfl) (by kernel_rfl) (by kernel_rfl)) ?_
  intro W base args ds ps hval hA hlt
  have hA : DataW.TrodAll enc Try.prog W 0 (fun _ => true) true Try.f5.params.toList args.toList ds ps := hA
  have hval : ∀ (j : Nat) t v, Try.f5.params[j]? = some t → args[j]? = some v → Value.okWide Try.prog W .any base t v := hval
  rw [Try.params5] at hA hval
  obtain ⟨v0, vs0, d0, ds0, p0, q0, hargs, rfl, rfl, h0, r0⟩ := trodAll_cons hA
  obtain ⟨rfl, rfl, rfl⟩ := trodAll_nil r0
  obtain rfl : args = #[v0] := by cases args; simp_all
  refine ⟨rfl, ?_⟩
  obtain ⟨a00, a01, a02, rfl, _, _, _⟩ := open_struct3 Try.underlying23 (by kernel_rfl) (by kernel_rfl) Try.underlying2 rfl rfl rfl (hval 0 23 v0 rfl rfl) h0
  exact walk a00 a01 a02 W

theorem proved : Rows.FnExactInvertTransformSaid :=
  OpenClaim.holds_of_wide 5 Try.f5 rfl rfl rfl rfl rfl rfl rfl ⟨rfl, rfl, rfl, rfl, rfl⟩ rfl rfl rfl rfl rfl (by kernel_rfl) Try.func5 (by kernel_rfl)
    (of_decide_eq_true (by kernel_rfl)) (by unfold Func.isWrapper; first | (rw [if_pos (by decide +kernel)]; kernel_rfl) | (rw [if_neg (by decide +kernel)]; exact ⟨rfl, rfl⟩))
    (fun os started H enc _ => lifted os started H enc)

#print axioms proved
end Go.Proofs.Ythpfjhijkgmglaa.lawFnExactInvertTransform
