/- The program's MoveEdge returns what the reference's returns, for all arguments. No condition. -/
import Derived.Test.YthpfjhijkgmglaaRows
import Derived.Deep.DeepCutAuto
import Derived.Test.YthpfjhijkgmglaaMov6
namespace Go.Proofs.Ythpfjhijkgmglaa.lawFnExactMoveEdge
open Go.ChangeShapes Go.WideShapes Go.ChangeAt Go.RowKit Go.Joins

theorem own : ownKnob Try.prog.godebug = none := by kernel_rfl
theorem laidOut : laidOutB Try.prog = true := by kernel_rfl

attribute [local go_sem low] cell_alloc_ite frozen_alloc_ite

set_option maxHeartbeats 1600000 in
theorem walk (a00 a01 a02 a10 a11 a12 a13 : Int) (w : World) :
    Calls Try.prog 9 #[.agg #[.int .i64 a00, .int .i64 a01, .int .i64 a02], .agg #[.int .i64 a10, .int .i64 a11, .int .i64 a12, .int .i64 a13]] w fun e w' => e = .returned (.bool true) ∧ Below w.heap.size w w' := by
  go_enter Try.func9, Try.ntmps9
  go_upto_region 1 with fail
  go_cut [5, 6] (fun s t wx => ∃ g1 : Nat, s = .pointer (some ⟨g1, 0, none⟩) ∧ t = .bool (meV a00 a01 a02 a10 a11 a12 a13) ∧ wx.cell? ⟨g1, 0, none⟩ = some (.int .i64 (zI (meV a00 a01 a02 a10 a11 a12 a13) (me0 a00 a01 a10 a11 a12 a13))) ∧ wx.cell? ⟨g1, 1, none⟩ = some (.int .i64 (zI (meV a00 a01 a02 a10 a11 a12 a13) (me1 a00 a02 a10 a11 a12 a13))) ∧ wx.cell? ⟨g1, 2, none⟩ = some (.int .i64 (zI (meV a00 a01 a02 a10 a11 a12 a13) (me2 a00 a01 a10 a11 a12 a13))) ∧ wx.cell? ⟨g1, 3, none⟩ = some (.int .i64 (zI (meV a00 a01 a02 a10 a11 a12 a13) (me3 a00 a02 a10 a11 a12 a13))) ∧ wx.cell? ⟨w.heap.size, 0, none⟩ = some (.int .i64 a00) ∧ wx.cell? ⟨w.heap.size, 1, none⟩ = some (.int .i64 a01) ∧ wx.cell? ⟨w.heap.size, 2, none⟩ = some (.int .i64 a02) ∧ wx.cell? ⟨w.heap.size + 1, 0, none⟩ = some (.int .i64 a10) ∧ wx.cell? ⟨w.heap.size + 1, 1, none⟩ = some (.int .i64 a11) ∧ wx.cell? ⟨w.heap.size + 1, 2, none⟩ = some (.int .i64 a12) ∧ wx.cell? ⟨w.heap.size + 1, 3, none⟩ = some (.int .i64 a13) ∧ g1 < wx.heap.size ∧ w.heap.size + 1 < wx.heap.size ∧ Below w.heap.size w wx)
  case first =>
    go_region_held3 (fun w' => w'.cell? ⟨w.heap.size, 0, none⟩ = some (.int .i64 a00) ∧ w'.cell? ⟨w.heap.size, 1, none⟩ = some (.int .i64 a01) ∧ w'.cell? ⟨w.heap.size, 2, none⟩ = some (.int .i64 a02) ∧ w'.cell? ⟨w.heap.size + 1, 0, none⟩ = some (.int .i64 a10) ∧ w'.cell? ⟨w.heap.size + 1, 1, none⟩ = some (.int .i64 a11) ∧ w'.cell? ⟨w.heap.size + 1, 2, none⟩ = some (.int .i64 a12) ∧ w'.cell? ⟨w.heap.size + 1, 3, none⟩ = some (.int .i64 a13) ∧ w.heap.size + 1 < w'.heap.size ∧ Below w.heap.size w w')
      (((repeat' apply And.intro) <;> first | (simp [go_sem, *, ↓IntWalk.iteOmega]; done) | (simp [go_sem, *, ↓IntWalk.iteOmega]; intros; omega) | (((try simp [*]) <;> omega); done) | (exact (by repeat (first | with_reducible exact Below.refl _ _ | with_reducible assumption | with_reducible refine bel_alloc ?_ _ | with_reducible refine bel_drew ?_ | with_reducible refine bel_drewN ?_ _ | with_reducible refine bel_set ?_ (by (try simp) <;> omega) _ | with_reducible refine bel_trans ?_ (by assumption)))))) ((first | (go_at_call 12; refine (laws_toTransform _ _ _ _).mono ?_; rintro e w1 ⟨rfl, hb⟩; obtain ⟨_, _, hc, hf⟩ := bcellI hb; have hs := hb.size; (try simp at hs)) | (go_at_call 33; refine (laws_toEdge _ _ _ _ _).mono ?_; rintro e w1 ⟨rfl, hb⟩; obtain ⟨_, _, hc, hf⟩ := bcellI hb; have hs := hb.size; (try simp at hs)) | (go_at_call 32; refine (spec_MoveEdge _ _ _ _ _ _ _ _).mono ?_; rintro e w1 ⟨rfl, hb⟩; obtain ⟨_, _, hc, hf⟩ := bcellI hb; have hs := hb.size; (try simp at hs))))
    all_goals
      go_wp2_with fail
      go_meet
      refine ⟨_, rfl, rfl, ?_⟩
      exact (by (((repeat' apply And.intro) <;> first | (simp [go_sem, *, ↓IntWalk.iteOmega]; done) | (simp [go_sem, *, ↓IntWalk.iteOmega]; intros; omega) | (((try simp [*]) <;> omega); done) | (exact (by repeat (first | with_reducible exact Below.refl _ _ | with_reducible assumption | with_reducible refine bel_alloc ?_ _ | with_reducible refine bel_drew ?_ | with_reducible refine bel_drewN ?_ _ | with_reducible refine bel_set ?_ (by (try simp) <;> omega) _ | with_reducible refine bel_trans ?_ (by assumption)))))))
  case rest =>
  obtain ⟨g1, rfl, rfl, eg10, eg11, eg12, eg13, eb0, eb1, eb2, eb3, eb4, eb5, eb6, zg1, zl, hbl⟩ := hcut
  go_upto_region 2 with fail
  go_cut [7, 8] (fun s t wx => ∃ g2 : Nat, s = .pointer (some ⟨g2, 0, none⟩) ∧ t = .bool (meV a00 a01 a02 a10 a11 a12 a13) ∧ wx.cell? ⟨g2, 0, none⟩ = some (.int .i64 (zI (meV a00 a01 a02 a10 a11 a12 a13) (me0 a00 a01 a10 a11 a12 a13))) ∧ wx.cell? ⟨g2, 1, none⟩ = some (.int .i64 (zI (meV a00 a01 a02 a10 a11 a12 a13) (me1 a00 a02 a10 a11 a12 a13))) ∧ wx.cell? ⟨g2, 2, none⟩ = some (.int .i64 (zI (meV a00 a01 a02 a10 a11 a12 a13) (me2 a00 a01 a10 a11 a12 a13))) ∧ wx.cell? ⟨g2, 3, none⟩ = some (.int .i64 (zI (meV a00 a01 a02 a10 a11 a12 a13) (me3 a00 a02 a10 a11 a12 a13))) ∧ wx.cell? ⟨g1, 0, none⟩ = some (.int .i64 (zI (meV a00 a01 a02 a10 a11 a12 a13) (me0 a00 a01 a10 a11 a12 a13))) ∧ wx.cell? ⟨g1, 1, none⟩ = some (.int .i64 (zI (meV a00 a01 a02 a10 a11 a12 a13) (me1 a00 a02 a10 a11 a12 a13))) ∧ wx.cell? ⟨g1, 2, none⟩ = some (.int .i64 (zI (meV a00 a01 a02 a10 a11 a12 a13) (me2 a00 a01 a10 a11 a12 a13))) ∧ wx.cell? ⟨g1, 3, none⟩ = some (.int .i64 (zI (meV a00 a01 a02 a10 a11 a12 a13) (me3 a00 a02 a10 a11 a12 a13))) ∧ wx.cell? ⟨w.heap.size, 0, none⟩ = some (.int .i64 a00) ∧ wx.cell? ⟨w.heap.size, 1, none⟩ = some (.int .i64 a01) ∧ wx.cell? ⟨w.heap.size, 2, none⟩ = some (.int .i64 a02) ∧ wx.cell? ⟨w.heap.size + 1, 0, none⟩ = some (.int .i64 a10) ∧ wx.cell? ⟨w.heap.size + 1, 1, none⟩ = some (.int .i64 a11) ∧ wx.cell? ⟨w.heap.size + 1, 2, none⟩ = some (.int .i64 a12) ∧ wx.cell? ⟨w.heap.size + 1, 3, none⟩ = some (.int .i64 a13) ∧ g2 < wx.heap.size ∧ w.heap.size + 1 < wx.heap.size ∧ g1 < wx.heap.size ∧ Below w.heap.size w wx)
  case first =>
    go_region_held3 (fun w' => w'.cell? ⟨g1, 0, none⟩ = some (.int .i64 (zI (meV a00 a01 a02 a10 a11 a12 a13) (me0 a00 a01 a10 a11 a12 a13))) ∧ w'.cell? ⟨g1, 1, none⟩ = some (.int .i64 (zI (meV a00 a01 a02 a10 a11 a12 a13) (me1 a00 a02 a10 a11 a12 a13))) ∧ w'.cell? ⟨g1, 2, none⟩ = some (.int .i64 (zI (meV a00 a01 a02 a10 a11 a12 a13) (me2 a00 a01 a10 a11 a12 a13))) ∧ w'.cell? ⟨g1, 3, none⟩ = some (.int .i64 (zI (meV a00 a01 a02 a10 a11 a12 a13) (me3 a00 a02 a10 a11 a12 a13))) ∧ w'.cell? ⟨w.heap.size, 0, none⟩ = some (.int .i64 a00) ∧ w'.cell? ⟨w.heap.size, 1, none⟩ = some (.int .i64 a01) ∧ w'.cell? ⟨w.heap.size, 2, none⟩ = some (.int .i64 a02) ∧ w'.cell? ⟨w.heap.size + 1, 0, none⟩ = some (.int .i64 a10) ∧ w'.cell? ⟨w.heap.size + 1, 1, none⟩ = some (.int .i64 a11) ∧ w'.cell? ⟨w.heap.size + 1, 2, none⟩ = some (.int .i64 a12) ∧ w'.cell? ⟨w.heap.size + 1, 3, none⟩ = some (.int .i64 a13) ∧ w.heap.size + 1 < w'.heap.size ∧ g1 < w'.heap.size ∧ Below w.heap.size w w')
      (((repeat' apply And.intro) <;> first | (simp [go_sem, *, ↓IntWalk.iteOmega]; done) | (simp [go_sem, *, ↓IntWalk.iteOmega]; intros; omega) | (((try simp [*]) <;> omega); done) | (exact (by repeat (first | with_reducible exact Below.refl _ _ | with_reducible assumption | with_reducible refine bel_alloc ?_ _ | with_reducible refine bel_drew ?_ | with_reducible refine bel_drewN ?_ _ | with_reducible refine bel_set ?_ (by (try simp) <;> omega) _ | with_reducible refine bel_trans ?_ (by assumption)))))) ((first | (go_at_call 12; refine (laws_toTransform _ _ _ _).mono ?_; rintro e w1 ⟨rfl, hb⟩; obtain ⟨_, _, hc, hf⟩ := bcellI hb; have hs := hb.size; (try simp at hs)) | (go_at_call 33; refine (laws_toEdge _ _ _ _ _).mono ?_; rintro e w1 ⟨rfl, hb⟩; obtain ⟨_, _, hc, hf⟩ := bcellI hb; have hs := hb.size; (try simp at hs)) | (go_at_call 34; refine (impl_MoveEdge _ _ _ _ _ _ _ _).mono ?_; rintro e w1 ⟨rfl, hb⟩; obtain ⟨_, _, hc, hf⟩ := bcellI hb; have hs := hb.size; (try simp at hs))))
    all_goals
      go_wp2_with fail
      go_meet
      refine ⟨_, rfl, rfl, ?_⟩
      exact (by (((repeat' apply And.intro) <;> first | (simp [go_sem, *, ↓IntWalk.iteOmega]; done) | (simp [go_sem, *, ↓IntWalk.iteOmega]; intros; omega) | (((try simp [*]) <;> omega); done) | (exact (by repeat (first | with_reducible exact Below.refl _ _ | with_reducible assumption | with_reducible refine bel_alloc ?_ _ | with_reducible refine bel_drew ?_ | with_reducible refine bel_drewN ?_ _ | with_reducible refine bel_set ?_ (by (try simp) <;> omega) _ | with_reducible refine bel_trans ?_ (by assumption)))))))
  case rest =>
  obtain ⟨g2, rfl, rfl, eg20', eg21', eg22', eg23', eg10', eg11', eg12', eg13', eb0', eb1', eb2', eb3', eb4', eb5', eb6', zg2', zl', zz1', hbl'⟩ := hcut
  go_wp2_with (go_at_call 35; refine (laws_eqEdge _ _ _ _ _).mono ?_; rintro e w1 ⟨rfl, hb⟩; obtain ⟨_, _, hc, hf⟩ := bcellI hb; have hs := hb.size; (try simp at hs))
  go_ret
  exact ⟨rfl, (by repeat (first | with_reducible exact Below.refl _ _ | with_reducible assumption | with_reducible refine bel_alloc ?_ _ | with_reducible refine bel_drew ?_ | with_reducible refine bel_drewN ?_ _ | with_reducible refine bel_set ?_ (by (try simp) <;> omega) _ | with_reducible refine bel_trans ?_ (by assumption)))⟩

set_option maxRecDepth 100000 in
theorem lifted (os : Os) (started : os.Started) (H : Type) (enc : TypeId × Value → H) :
    ReturnsInHanded {} Try.checked os 9 .any (Rows.fnExactMoveEdgeSpec.pre6 enc Try.prog Try.f9 Rows.fnExactMoveEdgeRow.domain false) (Rows.fnExactMoveEdgeSpec.post enc Try.prog Try.f9 false true false false) := by
  refine law_lifted (C := Try.checked) (tb := 4) own started (by kernel_rfl) Try.func9 laidOut (by kernel_rfl) Try.underlying4 (by kernel_rfl) rfl
    (ChangeSpec.witness6 (enc := enc) (C := Try.checked) false ⟨#[], #[.agg #[.int .i64 0, .int .i64 0, .int .i64 0], .agg #[.int .i64 0, .int .i64 0, .int .i64 0, .int .i64 0]], []⟩ 8 (by kernel_rfl) (by kernel_rfl) (by kernel_rfl) (by kernel_rfl)) ?_
  intro W base args ds ps hval hA hlt
  have hA : DataW.TrodAll enc Try.prog W 0 (fun _ => true) true Try.f9.params.toList args.toList ds ps := hA
  have hval : ∀ (j : Nat) t v, Try.f9.params[j]? = some t → args[j]? = some v → Value.okWide Try.prog W .any base t v := hval
  rw [Try.params9] at hA hval
  obtain ⟨v0, vs0, d0, ds0, p0, q0, hargs, rfl, rfl, h0, r0⟩ := trodAll_cons hA
  obtain ⟨v1, vs1, d1, ds1, p1, q1, rfl, rfl, rfl, h1, r1⟩ := trodAll_cons r0
  obtain ⟨rfl, rfl, rfl⟩ := trodAll_nil r1
  obtain rfl : args = #[v0, v1] := by cases args; simp_all
  refine ⟨rfl, ?_⟩
  obtain ⟨a00, a01, a02, rfl, _, _, _⟩ := open_struct3 Try.underlying23 (by kernel_rfl) (by kernel_rfl) Try.underlying2 rfl rfl rfl (hval 0 23 v0 rfl rfl) h0
  obtain ⟨a10, a11, a12, a13, rfl, _, _, _, _⟩ := open_struct4 Try.underlying55 (by kernel_rfl) (by kernel_rfl) Try.underlying2 rfl rfl rfl rfl (hval 1 55 v1 rfl rfl) h1
  exact walk a00 a01 a02 a10 a11 a12 a13 W

theorem proved : Rows.FnExactMoveEdgeSaid :=
  OpenClaim.holds_of_wide 9 Try.f9 rfl rfl rfl rfl rfl rfl rfl ⟨rfl, rfl, rfl, rfl, rfl⟩ rfl rfl rfl rfl rfl (by kernel_rfl) Try.func9 (by kernel_rfl)
    (of_decide_eq_true (by kernel_rfl)) (by unfold Func.isWrapper; first | (rw [if_pos (by decide +kernel)]; kernel_rfl) | (rw [if_neg (by decide +kernel)]; exact ⟨rfl, rfl⟩))
    (fun os started H enc _ => lifted os started H enc)

#print axioms proved
end Go.Proofs.Ythpfjhijkgmglaa.lawFnExactMoveEdge
