/- Away from the border, the opening by k is the union of the squares of side 2k + 1 in the region. No condition. -/
import Derived.Test.YtldgjocjcbhkmaaRows
import Derived.Test.YtldgjocjcbhkmaaFrameB
import Derived.Test.YtldgjocjcbhkmaaDrw4
import Derived.Deep.RegionHeld3
import Derived.Test.YtldgjocjcbhkmaaPln2
import Derived.Test.YtldgjocjcbhkmaaRegQ2
import Derived.Test.YtldgjocjcbhkmaaRegL
import Derived.Test.YtldgjocjcbhkmaaRegB
namespace Go.Proofs.Ytldgjocjcbhkmaa.lawFnSquares
open Go.ChangeShapes Go.WideShapes Go.ChangeAt Go.RowKit Go.Joins

theorem own : ownKnob Try.prog.godebug = none := by kernel_rfl
theorem laidOut : laidOutB Try.prog = true := by kernel_rfl

set_option maxRecDepth 100000 in
set_option maxHeartbeats 3200000 in
theorem walk (n c : Nat) (a : Option Addr) (hn : n ≤ maxLen) (w : World) (hin : InBytes w.heap.size w a n) :
    Calls Try.prog 11 #[.slice a n c] w fun e w' => e = .returned (.bool true) ∧ Below w.heap.size w w' := by
  have hbel := Below.refl w.heap.size w
  by_cases hbig : (n : Int) > 4096
  · go_enter Try.func11, Try.ntmps11
    go_wp2_with fail
    go_at_call 24
    refine (laws_big _ _ _ _).mono ?_
    rintro e w1 ⟨he, rfl⟩
    rw [decide_eq_true hbig] at he
    subst he
    go_wp2_with fail
    go_ret
    exact ⟨rfl, hbel⟩
  · have hn4 : n ≤ 4096 := by omega
    have hn5 : n ≤ 5000 := by omega
    go_enter Try.func11, Try.ntmps11
    go_wp2_with fail
    go_at_call 24
    refine (laws_big _ _ _ _).mono ?_
    rintro e w1 ⟨he, rfl⟩
    rw [decide_eq_false (by omega : ¬ (n : Int) > 4096)] at he
    subst he
    clear hbig
    go_wp2_with fail
    go_at_call 58
    refine (spec_DrawSquareCover n c a _ hin hn5).mono ?_
    rintro e w1 ⟨l_r, a_r, c_r, k, rfl, hr_r, hl_r, hk_lo, hk_hi, hb⟩
    replace hbel := hbel.trans (hb.mono hbel.size)
    clear hb
    cases g_r : boxB l_r
    · have G_r := hide g_r
      clear g_r
      go_wp2_with fail
      go_at_call 59
      refine (spec_RegionBox l_r _ _ _ hr_r hl_r).mono ?_
      rintro e w2 ⟨he, hb⟩
      rw [G_r.out] at he
      obtain ⟨z, hz⟩ : ∃ z, z = rbR false l_r := ⟨_, rfl⟩
      rw [← hz] at he
      unfold rcA at he
      subst he
      have HZ := hide hz
      clear hz
      replace hr_r := hr_r.kept hb
      replace hbel := hbel.trans (hb.mono hbel.size)
      clear hb
      go_wp2_with fail
      all_goals (go_ret; exact ⟨rfl, (by repeat (first | with_reducible exact Below.refl _ _ | with_reducible assumption | with_reducible refine bel_alloc ?_ _ | with_reducible refine bel_drew ?_ | with_reducible refine bel_drewN ?_ _ | with_reducible refine bel_set ?_ (by (try simp) <;> omega) _ | with_reducible refine bel_trans ?_ (by assumption)))⟩)
    have G_r := hide g_r
    clear g_r
    go_wp2_with fail
    go_at_call 59
    refine (spec_RegionBox l_r _ _ _ hr_r hl_r).mono ?_
    rintro e w2 ⟨he, hb⟩
    rw [G_r.out] at he
    obtain ⟨z, hz⟩ : ∃ z, z = rbR true l_r := ⟨_, rfl⟩
    rw [← hz] at he
    unfold rcA at he
    subst he
    have HZ := hide hz
    clear hz
    replace hr_r := hr_r.kept hb
    replace hbel := hbel.trans (hb.mono hbel.size)
    clear hb
    have hreg : isReg l_r = true := by have := G_r.out; simp only [boxB, Bool.and_eq_true] at this; exact this.1
    have HREG := hide hreg
    clear hreg
    have hzb : z = boxL l_r := by rw [HZ.out, rbR, if_pos rfl]
    have HZB := hide hzb
    clear hzb
    by_cases t0 : k < 0
    · go_wp2_with fail
      all_goals (go_ret; exact ⟨rfl, bel_alloc hbel _⟩)
    by_cases t1 : 2 * k + 1 > 10
    · go_wp2_with fail
      all_goals (go_ret; exact ⟨rfl, bel_alloc hbel _⟩)
    by_cases t2 : z.x0 < -40 + k
    · go_wp2_with fail
      all_goals (go_ret; exact ⟨rfl, bel_alloc hbel _⟩)
    by_cases t3 : z.y0 < -40 + k
    · go_wp2_with fail
      all_goals (go_ret; exact ⟨rfl, bel_alloc hbel _⟩)
    by_cases t4 : z.x1 > 40 - k
    · go_wp2_with fail
      all_goals (go_ret; exact ⟨rfl, bel_alloc hbel _⟩)
    by_cases t5 : z.y1 > 40 - k
    · go_wp2_with fail
      all_goals (go_ret; exact ⟨rfl, bel_alloc hbel _⟩)
    have hsq : sqR (2 * k + 1) l_r = openR k l_r := by
      have e := HZB.out
      subst e
      exact squares_eq HREG.out (by omega) (by omega) (by omega) (by omega) (by omega) (by omega)
    have HSQ := hide hsq
    clear hsq
    go_wp2_with fail
    have hb : Below w2.heap.size w2 (w2.alloc (.cells #[.int .i64 z.x0, .int .i64 z.y0, .int .i64 z.x1, .int .i64 z.y1] 39)) := bel_alloc (Below.refl _ _) _
    replace hr_r := hr_r.kept hb
    replace hbel := hbel.trans (hb.mono hbel.size)
    clear hb
    generalize hW : (w2.alloc (.cells #[.int .i64 z.x0, .int .i64 z.y0, .int .i64 z.x1, .int .i64 z.y1] 39)) = wz at *
    have HW := hide hW
    clear hW t2 t3 t4 t5
    go_wp2_with fail
    go_at_call 34
    refine ((laws_copyRects l_r _ _ _ hr_r hl_r).mono fun _ _ => retS_var).mono ?_
    rintro e w3 ⟨l_p, HU_p, a_p, c_p, rfl, hr_p, hb⟩
    replace hr_r := hr_r.kept hb
    replace hbel := hbel.trans (hb.mono hbel.size)
    clear hb
    have hl_p : l_p.length ≤ 2000000 := by rw [HU_p.out]; exact hl_r
    have hq := HU_p.out.symm
    subst hq
    clear HU_p
    go_wp2_with fail
    go_at_call 60
    refine ((impl_SquareCover l_r (2 * k + 1) _ _ _ hr_p hl_p).mono fun _ _ => retS_var).mono ?_
    rintro e w4 ⟨l_s, HU_s, a_s, c_s, rfl, hr_s, hb⟩
    replace hr_r := hr_r.kept hb
    replace hr_p := hr_p.kept hb
    replace hbel := hbel.trans (hb.mono hbel.size)
    clear hb
    have hl_s : l_s.length ≤ 2000000 := by rw [HU_s.out]; exact sqR_len _ _
    clear hr_p
    go_wp2_with fail
    go_at_call 34
    refine ((laws_copyRects l_r _ _ _ hr_r hl_r).mono fun _ _ => retS_var).mono ?_
    rintro e w5 ⟨l_p, HU_p, a_p, c_p, rfl, hr_p, hb⟩
    replace hr_r := hr_r.kept hb
    replace hr_s := hr_s.kept hb
    replace hbel := hbel.trans (hb.mono hbel.size)
    clear hb
    have hl_p : l_p.length ≤ 2000000 := by rw [HU_p.out]; exact hl_r
    have hq := HU_p.out.symm
    subst hq
    clear HU_p
    go_wp2_with fail
    go_at_call 47
    refine ((impl_Opening l_r k _ _ _ hr_p hl_p).mono fun _ _ => retS_var).mono ?_
    rintro e w6 ⟨l_o, HU_o, a_o, c_o, rfl, hr_o, hb⟩
    replace hr_r := hr_r.kept hb
    replace hr_s := hr_s.kept hb
    replace hr_p := hr_p.kept hb
    replace hbel := hbel.trans (hb.mono hbel.size)
    clear hb
    have hl_o : l_o.length ≤ 2000000 := by rw [HU_o.out]; exact szR_len openG k _
    clear hr_p
    go_wp2_with fail
    go_at_call 29
    refine (laws_sameRects l_s l_o _ _ _ _ _ hr_s hr_o hl_s hl_o).mono ?_
    rintro e w7 ⟨he, hb⟩
    rw [decide_eq_true (by rw [HU_s.out, HU_o.out]; exact HSQ.out : l_s = l_o)] at he
    subst he
    replace hr_r := hr_r.kept hb
    replace hr_s := hr_s.kept hb
    replace hr_o := hr_o.kept hb
    replace hbel := hbel.trans (hb.mono hbel.size)
    clear hb
    clear hr_s
    clear hr_o
    go_wp2_with fail
    go_at_call 34
    refine ((laws_copyRects l_r _ _ _ hr_r hl_r).mono fun _ _ => retS_var).mono ?_
    rintro e w8 ⟨l_p, HU_p, a_p, c_p, rfl, hr_p, hb⟩
    replace hr_r := hr_r.kept hb
    replace hbel := hbel.trans (hb.mono hbel.size)
    clear hb
    have hl_p : l_p.length ≤ 2000000 := by rw [HU_p.out]; exact hl_r
    have hq := HU_p.out.symm
    subst hq
    clear HU_p
    go_wp2_with fail
    go_at_call 47
    refine ((impl_Opening l_r k _ _ _ hr_p hl_p).mono fun _ _ => retS_var).mono ?_
    rintro e w9 ⟨l_o, HU_o, a_o, c_o, rfl, hr_o, hb⟩
    replace hr_r := hr_r.kept hb
    replace hr_p := hr_p.kept hb
    replace hbel := hbel.trans (hb.mono hbel.size)
    clear hb
    have hl_o : l_o.length ≤ 2000000 := by rw [HU_o.out]; exact szR_len openG k _
    clear hr_p
    go_wp2_with fail
    go_at_call 50
    refine ((spec_Opening l_r k _ _ _ hr_r hl_r).mono fun _ _ => retS_var).mono ?_
    rintro e w10 ⟨l_q, HU_q, a_q, c_q, rfl, hr_q, hb⟩
    replace hr_r := hr_r.kept hb
    replace hr_o := hr_o.kept hb
    replace hbel := hbel.trans (hb.mono hbel.size)
    clear hb
    have hl_q : l_q.length ≤ 2000000 := by rw [HU_q.out]; exact szR_len openG k _
    go_wp2_with fail
    go_at_call 29
    refine (laws_sameRects l_o l_q _ _ _ _ _ hr_o hr_q hl_o hl_q).mono ?_
    rintro e w11 ⟨he, hb⟩
    rw [decide_eq_true (by rw [HU_q.out, HU_o.out] : l_o = l_q)] at he
    subst he
    replace hr_r := hr_r.kept hb
    replace hr_o := hr_o.kept hb
    replace hr_q := hr_q.kept hb
    replace hbel := hbel.trans (hb.mono hbel.size)
    clear hb
    go_wp2_with fail
    all_goals (go_ret; exact ⟨rfl, hbel⟩)

set_option maxRecDepth 100000 in
theorem lifted (os : Os) (started : os.Started) (H : Type) (enc : TypeId × Value → H) :
    ReturnsInHanded {} Try.checked os 11 .any (Rows.fnSquaresSpec.pre6 enc Try.prog Try.f11 Rows.fnSquaresRow.domain false) (Rows.fnSquaresSpec.post enc Try.prog Try.f11 false true false false) := by
  refine law_lifted (C := Try.checked) (tb := 4) own started (by kernel_rfl) Try.func11 laidOut (by kernel_rfl) Try.underlying4 (by kernel_rfl) rfl
    (ChangeSpec.witness6 (enc := enc) (C := Try.checked) false ⟨#[], #[.slice none 0 0], []⟩ 8 (by kernel_rfl) (by kernel_rfl) (by kernel_rfl) (by kernel_rfl)) ?_
  intro W base args ds ps hval hA hlt
  have hA : DataW.TrodAll enc Try.prog W 0 (fun _ => true) true Try.f11.params.toList args.toList ds ps := hA
  have hval : ∀ (j : Nat) t v, Try.f11.params[j]? = some t → args[j]? = some v → Value.okWide Try.prog W .any base t v := hval
  rw [Try.params11] at hA hval
  obtain ⟨v0, vs0, d0, ds0, p0, q0, hargs, rfl, rfl, h0, r0⟩ := trodAll_cons hA
  obtain ⟨rfl, rfl, rfl⟩ := trodAll_nil r0
  obtain rfl : args = #[v0] := by cases args; simp_all
  refine ⟨rfl, ?_⟩
  obtain ⟨a0, n0, c0, rfl, hl0, hin0⟩ := open_bytes Try.underlying33 (by kernel_rfl) Try.underlying5 (okWide_slice Try.underlying33 (hval 0 33 v0 rfl rfl)) h0
  exact walk n0 c0 a0 hl0 W hin0

theorem proved : Rows.FnSquaresSaid :=
  OpenClaim.holds_of_wide 11 Try.f11 rfl rfl rfl rfl rfl rfl rfl ⟨rfl, rfl, rfl, rfl, rfl⟩ rfl rfl rfl rfl rfl (by kernel_rfl) Try.func11 (by kernel_rfl)
    (of_decide_eq_true (by kernel_rfl)) (by unfold Func.isWrapper; first | (rw [if_pos (by decide +kernel)]; kernel_rfl) | (rw [if_neg (by decide +kernel)]; exact ⟨rfl, rfl⟩))
    (fun os started H enc _ => lifted os started H enc)

#print axioms proved
end Go.Proofs.Ytldgjocjcbhkmaa.lawFnSquares
