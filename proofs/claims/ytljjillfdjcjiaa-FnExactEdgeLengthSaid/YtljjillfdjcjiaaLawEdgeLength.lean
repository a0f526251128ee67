/- The program's EdgeLength returns what the reference's returns, for all arguments. No condition. -/
import Derived.Test.YtljjillfdjcjiaaRows
import Derived.Deep.DeepCutAuto
import Derived.Test.YtljjillfdjcjiaaGeo3
namespace Go.Proofs.Ytljjillfdjcjiaa.lawFnExactEdgeLength
open Go.ChangeShapes Go.WideShapes Go.ChangeAt Go.RowKit Go.Joins

theorem own : ownKnob Try.prog.godebug = none := by kernel_rfl
theorem laidOut : laidOutB Try.prog = true := by kernel_rfl

set_option maxHeartbeats 1600000 in
theorem walk (a00 a01 a02 a03 : Int) (w : World) :
    Calls Try.prog 11 #[.agg #[.int .i64 a00, .int .i64 a01, .int .i64 a02, .int .i64 a03]] w fun e w' => e = .returned (.bool true) ∧ Below w.heap.size w w' := by
  go_enter Try.func11, Try.ntmps11
  go_wp2_with (first
    | (go_at_call 32; refine (laws_toEdge _ _ _ _ _).mono ?_; rintro e w1 ⟨rfl, hb⟩; obtain ⟨hc, hf⟩ := bcell hb; have hz := sz1 (show w.heap.size + 1 ≤ w1.heap.size by have := hb.size; (try simp at this); omega))
    | (go_at_call 31; refine (spec_EdgeLength _ _ _ _ _).mono ?_; rintro e w1 ⟨rfl, hb⟩; obtain ⟨hc, hf⟩ := bcell hb; have hz := sz1 (show w.heap.size + 1 ≤ w1.heap.size by have := hb.size; (try simp at this); omega))
    | (go_at_call 33; refine (impl_EdgeLength _ _ _ _ _).mono ?_; rintro e w1 ⟨rfl, hb⟩; obtain ⟨hc, hf⟩ := bcell hb; have hz := sz1 (show w.heap.size + 1 ≤ w1.heap.size by have := hb.size; (try simp at this); omega)))
  all_goals (go_ret; exact ⟨rfl, (by repeat (first | with_reducible exact Below.refl _ _ | with_reducible assumption | with_reducible refine bel_alloc ?_ _ | with_reducible refine bel_drew ?_ | with_reducible refine bel_drewN ?_ _ | with_reducible refine bel_set ?_ (by (try simp) <;> omega) _ | with_reducible refine bel_trans ?_ (by assumption)))⟩)

set_option maxRecDepth 100000 in
theorem lifted (os : Os) (started : os.Started) (H : Type) (enc : TypeId × Value → H) :
    ReturnsInHanded {} Try.checked os 11 .any (Rows.fnExactEdgeLengthSpec.pre6 enc Try.prog Try.f11 Rows.fnExactEdgeLengthRow.domain false) (Rows.fnExactEdgeLengthSpec.post enc Try.prog Try.f11 false true false false) := by
  refine law_lifted (C := Try.checked) (tb := 4) own started (by kernel_rfl) Try.func11 laidOut (by kernel_rfl) Try.underlying4 (by kernel_rfl) rfl
    (ChangeSpec.witness6 (enc := enc) (C := Try.checked) false ⟨#[], #[.agg #[.int .i64 0, .int .i64 0, .int .i64 0, .int .i64 0]], []⟩ 8 (by kernel_rfl) (by kernel_rfl) (by kernel_rfl) (by kernel_rfl)) ?_
  intro W base args ds ps hval hA hlt
  have hA : DataW.TrodAll enc Try.prog W 0 (fun _ => true) true Try.f11.params.toList args.toList ds ps := hA
  have hval : ∀ (j : Nat) t v, Try.f11.params[j]? = some t → args[j]? = some v → Value.okWide Try.prog W .any base t v := hval
  rw [Try.params11] at hA hval
  obtain ⟨v0, vs0, d0, ds0, p0, q0, hargs, rfl, rfl, h0, r0⟩ := trodAll_cons hA
  obtain ⟨rfl, rfl, rfl⟩ := trodAll_nil r0
  obtain rfl : args = #[v0] := by cases args; simp_all
  refine ⟨rfl, ?_⟩
  obtain ⟨a00, a01, a02, a03, rfl, _, _, _, _⟩ := open_struct4 Try.underlying42 (by kernel_rfl) (by kernel_rfl) Try.underlying2 rfl rfl rfl rfl (hval 0 42 v0 rfl rfl) h0
  exact walk a00 a01 a02 a03 W

theorem proved : Rows.FnExactEdgeLengthSaid :=
  OpenClaim.holds_of_wide 11 Try.f11 rfl rfl rfl rfl rfl rfl rfl ⟨rfl, rfl, rfl, rfl, rfl⟩ rfl rfl rfl rfl rfl (by kernel_rfl) Try.func11 (by kernel_rfl)
    (of_decide_eq_true (by kernel_rfl)) (by unfold Func.isWrapper; first | (rw [if_pos (by decide +kernel)]; kernel_rfl) | (rw [if_neg (by decide +kernel)]; exact ⟨rfl, rfl⟩))
    (fun os started H enc _ => lifted os started H enc)

#print axioms proved
end Go.Proofs.Ytljjillfdjcjiaa.lawFnExactEdgeLength
