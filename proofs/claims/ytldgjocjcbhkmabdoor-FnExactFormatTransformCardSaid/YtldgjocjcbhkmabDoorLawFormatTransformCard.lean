/- The program's FormatTransform returns what the reference's returns, for all arguments. The row lists package-level variables of Go's library, tied to the program's text by the given tie. No condition besides. -/
import Derived.Test.YtldgjocjcbhkmabDoorRows
import Derived.Test.YtldgjocjcbhkmabDoorCards
import Derived.Test.YtldgjocjcbhkmabDoorTie
import Derived.Test.YtldgjocjcbhkmabDoorFrameL
import Derived.Test.YtldgjocjcbhkmabDoorTxtV
import Derived.SevenTiedAt
import Derived.MakeChecks
namespace Go.Proofs.YtldgjocjcbhkmabDoor.lawFnExactFormatTransformCard
open Go.ChangeShapes Go.WideShapes Go.ChangeAt Go.RowKit Go.Joins

theorem own : ownKnob Tryd.prog.godebug = none := by kernel_rfl
theorem laidOut : laidOutB Tryd.prog = true := by kernel_rfl
attribute [local go_sem low] cell_alloc_ite frozen_alloc_ite
def laid : List (String × DataW Unit) := [("math/bits.deBruijn32tab", Rows.laid_math_bits_deBruijn32tab), ("math/bits.deBruijn64tab", Rows.laid_math_bits_deBruijn64tab), ("internal/strconv.uint64pow10", Rows.laid_internal_strconv_uint64pow10)]
theorem pow_data : (Rows.laid_internal_strconv_uint64pow10 : DataW Unit) = Lib.tabData .u64 Lib.pow10Tab := by kernel_rfl
theorem tab_of {W : World} (h : laidMet Tryd.prog laid W) : Tab W := by
  have h2 : laidMet Tryd.prog (("internal/strconv.uint64pow10", Lib.tabData .u64 Lib.pow10Tab) :: laid.drop 3) W := by rw [← pow_data]; exact h.tail.tail
  exact Lib.tabIs_of_head (g := 0) (by kernel_rfl) (by kernel_rfl) Tryd.underlying87 Tryd.underlying69 (by kernel_rfl) (by kernel_rfl) h2

set_option maxRecDepth 100000 in
set_option maxHeartbeats 1600000 in
theorem walk (t0 t1 t2 : Int) (w : World) (htab : Tab w) :
    Calls Tryd.prog 3 #[.agg #[.int .i64 t0, .int .i64 t1, .int .i64 t2]] w fun e w' => e = .returned (.bool true) ∧ Below w.heap.size w w' := by
  go_enter Tryd.func3, Tryd.ntmps3
  go_wp2_with (first
    | (go_at_call 7; refine (laws_toTransform _ _ _ _).mono ?_; rintro e w1 ⟨rfl, hb⟩; obtain ⟨_, _, hc, hf⟩ := bcellI hb; have hs := hb.size; (try simp at hs))
    | (go_at_call 6; refine (spec_FormatTransform _ _ _ _).mono ?_; rintro e w1 ⟨rfl, hb⟩; obtain ⟨_, _, hc, hf⟩ := bcellI hb; have hs := hb.size; (try simp at hs))
    | (go_at_call 8; refine (impl_FormatTransform _ _ _ _ (htab.kept (by repeat (first | with_reducible exact Below.refl _ _ | with_reducible assumption | with_reducible refine bel_alloc ?_ _ | with_reducible refine bel_drew ?_ | with_reducible refine bel_drewN ?_ _ | with_reducible refine bel_set ?_ (by (try simp) <;> omega) _ | with_reducible refine bel_trans ?_ (by assumption))))).mono ?_; rintro e w1 ⟨rfl, hb⟩; obtain ⟨_, _, hc, hf⟩ := bcellI hb; have hs := hb.size; (try simp at hs)))
  go_ret
  exact ⟨rfl, (by repeat (first | with_reducible exact Below.refl _ _ | with_reducible assumption | with_reducible refine bel_alloc ?_ _ | with_reducible refine bel_drew ?_ | with_reducible refine bel_drewN ?_ _ | with_reducible refine bel_set ?_ (by (try simp) <;> omega) _ | with_reducible refine bel_trans ?_ (by assumption)))⟩

set_option maxRecDepth 100000 in
theorem lifted (os : Os) (started : os.Started) (H : Type) (enc : TypeId × Value → H) :
    ReturnsInHanded {} Tryd.checked os 3 .any (fun w args => (Rows.fnExactFormatTransformSpec.pre enc Tryd.prog Tryd.f3 [] false w args ∧ laidMetH Tryd.prog laid w) ∧ sizedMet enc Tryd.prog Tryd.f3 (OpenSpec.ofChange Rows.fnExactFormatTransformSpec) false w args) (Rows.fnExactFormatTransformSpec.post enc Tryd.prog Tryd.f3 false true false false) := by
  refine law_laid (C := Tryd.checked) (tb := 4) own started (by kernel_rfl) Tryd.func3 laidOut (by kernel_rfl) Tryd.underlying4 (by kernel_rfl) rfl
    (ChangeSpec.witness_shaped (enc := enc) (C := Tryd.checked) (os := os) (X := fun w _ => laidMetH Tryd.prog laid w) false (World.laidAll Tryd.prog os laid) #[.agg #[.int .i64 0, .int .i64 0, .int .i64 0]] 8 (World.laidAll_os _ _ _)
      (World.shaped_of_ZipB (by kernel_rfl) (by kernel_rfl)) (by kernel_rfl) (by kernel_rfl) (by kernel_rfl)
      (by rw [MakeChecks.laidMetH_plain _ _ _ (by kernel_rfl)]; exact laidMet_laidAll _ (by kernel_rfl) (by kernel_rfl))) ?_
  intro W base args ds ps hval hA hlt hsh hL
  have hA : DataW.TrodAll enc Tryd.prog W 0 (fun _ => true) true Tryd.f3.params.toList args.toList ds ps := hA
  have hval : ∀ (j : Nat) t v, Tryd.f3.params[j]? = some t → args[j]? = some v → Value.okWide Tryd.prog W .any base t v := hval
  rw [Tryd.params3] at hA hval
  rw [MakeChecks.laidMetH_plain _ _ _ (by kernel_rfl)] at hL
  obtain ⟨v0, vs0, d0, ds0, p0, q0, hargs, rfl, rfl, h0, r0⟩ := trodAll_cons hA
  obtain ⟨rfl, rfl, rfl⟩ := trodAll_nil r0
  obtain rfl : args = #[v0] := by cases args; simp_all
  refine ⟨rfl, ?_⟩
  obtain ⟨a0, a1, a2, rfl, _, _, _⟩ := open_struct3 Tryd.underlying23 (by kernel_rfl) (by kernel_rfl) Tryd.underlying2 rfl rfl rfl (hval 0 23 v0 rfl rfl) h0
  exact walk a0 a1 a2 W (tab_of hL)

theorem row_holds : Rows.FnExactFormatTransformSaid :=
  OpenClaim.holds_of_wide 3 Tryd.f3 rfl rfl rfl rfl rfl rfl rfl ⟨rfl, rfl, rfl, rfl, rfl⟩ rfl rfl rfl rfl rfl (by kernel_rfl) Tryd.func3 (by kernel_rfl)
    (of_decide_eq_true (by kernel_rfl)) (by unfold Func.isWrapper; first | (rw [if_pos (by decide +kernel)]; kernel_rfl) | (rw [if_neg (by decide +kernel)]; exact ⟨rfl, rfl⟩))
    (fun os started H enc _ => lifted os started H enc)
theorem proved : Rows.FnExactFormatTransformCardSaid :=
  Claim7.holds_tied_plain_at .later [] [.data, .data, .data] true (true, "0bde62939612b391efbb4310f3fe397adc3abe477e44bb6579449d10d1975fa6") true
    row_holds (fun _ h => by cases h) (by kernel_rfl) (fun _ h => by cases h) fnExactFormatTransform_row_tie rfl ⟨rfl, rfl⟩ (by kernel_rfl) rfl
    (fun f fn hf hfn => by
      obtain rfl : f = 3 := Option.some.inj ((show Tryd.prog.funcNamed Tryd.f3.name = some 3 by kernel_rfl).symm.trans hf) |>.symm
      obtain rfl : fn = Tryd.f3 := (Option.some.inj (Tryd.func3.symm.trans hfn)).symm
      exact ⟨by kernel_rfl, fun j t ht => by
        rw [Tryd.params3] at ht
        have hm : t ∈ [23] := by simpa using Array.mem_of_getElem? ht
        have hall : ([23].all fun u => !Tryd.prog.wantsStandIn u) = true := by kernel_rfl
        exact (show Tryd.prog.wantsStandIn t = false by simpa using List.all_eq_true.1 hall t hm)⟩)
    (by kernel_rfl)

#print axioms proved
end Go.Proofs.YtldgjocjcbhkmabDoor.lawFnExactFormatTransformCard
