/- Intersection distributes over union. No condition. -/
import Derived.Test.YtldgjocjcbhkmaaRows
import Derived.Test.YtldgjocjcbhkmaaFrameB
import Derived.Test.YtldgjocjcbhkmaaDrw4
import Derived.Deep.RegionHeld3
import Derived.Test.YtldgjocjcbhkmaaPln3
import Derived.Test.YtldgjocjcbhkmaaRegH
namespace Go.Proofs.Ytldgjocjcbhkmaa.lawFnDistributive
open Go.ChangeShapes Go.WideShapes Go.ChangeAt Go.RowKit Go.Joins

theorem own : ownKnob Try.prog.godebug = none := by kernel_rfl
theorem laidOut : laidOutB Try.prog = true := by kernel_rfl

set_option maxRecDepth 100000 in
set_option maxHeartbeats 3200000 in
theorem walk (n c : Nat) (a : Option Addr) (hn : n ≤ maxLen) (w : World) (hin : InBytes w.heap.size w a n) :
    Calls Try.prog 7 #[.slice a n c] w fun e w' => e = .returned (.bool true) ∧ Below w.heap.size w w' := by
  have hbel := Below.refl w.heap.size w
  by_cases hbig : (n : Int) > 4096
  · go_enter Try.func7, Try.ntmps7
    go_wp2_with fail
    go_at_call 24
    refine (laws_big _ _ _ _).mono ?_
    rintro e w1 ⟨he, rfl⟩
    rw [decide_eq_true hbig] at he
    subst he
    go_wp2_with fail
    go_ret
    exact ⟨rfl, hbel⟩
  · have hn4 : n ≤ 4096 := by omega
    have hn5 : n ≤ 5000 := by omega
    go_enter Try.func7, Try.ntmps7
    go_wp2_with fail
    go_at_call 24
    refine (laws_big _ _ _ _).mono ?_
    rintro e w1 ⟨he, rfl⟩
    rw [decide_eq_false (by omega : ¬ (n : Int) > 4096)] at he
    subst he
    clear hbig
    go_wp2_with fail
    go_at_call 42
    refine (spec_DrawUnion n c a _ hin hn5).mono ?_
    rintro e w1 ⟨l_a, a_a, c_a, l_b, a_b, c_b, rfl, hr_a, hr_b, hl_a, hl_b, hb⟩
    replace hbel := hbel.trans (hb.mono hbel.size)
    clear hb
    go_wp2_with fail
    go_at_call 43
    refine (laws_other n c 5 (by omega) a _ (bytes_at hin hbel) (by omega)).mono ?_
    rintro e w2 ⟨ao, co, rfl, hino, hb⟩
    replace hr_a := hr_a.kept hb
    replace hr_b := hr_b.kept hb
    replace hbel := hbel.trans (hb.mono hbel.size)
    clear hb
    go_wp2_with fail
    go_at_call 31
    refine (spec_DrawIntersection (3 + n) co ao _ hino (by omega)).mono ?_
    rintro e w3 ⟨l_c, a_c, c_c, l_e, a_e, c_e, rfl, hr_c, hr_e, hl_c, hl_e, hb⟩
    replace hr_a := hr_a.kept hb
    replace hr_b := hr_b.kept hb
    replace hbel := hbel.trans (hb.mono hbel.size)
    clear hb
    cases g_a : isReg l_a
    · have G_a := hide g_a
      clear g_a
      go_wp2_with fail
      go_at_call 32
      refine (spec_IsRegion l_a _ _ _ hr_a hl_a).mono ?_
      rintro e w4 ⟨he, hb⟩
      rw [G_a.out] at he
      subst he
      replace hr_a := hr_a.kept hb
      replace hr_b := hr_b.kept hb
      replace hr_c := hr_c.kept hb
      replace hr_e := hr_e.kept hb
      replace hbel := hbel.trans (hb.mono hbel.size)
      clear hb
      go_wp2_with fail
      all_goals (go_ret; exact ⟨rfl, hbel⟩)
    have G_a := hide g_a
    clear g_a
    cases g_b : isReg l_b
    · have G_b := hide g_b
      clear g_b
      go_wp2_with fail
      go_at_call 32
      refine (spec_IsRegion l_a _ _ _ hr_a hl_a).mono ?_
      rintro e w4 ⟨he, hb⟩
      rw [G_a.out] at he
      subst he
      replace hr_a := hr_a.kept hb
      replace hr_b := hr_b.kept hb
      replace hr_c := hr_c.kept hb
      replace hr_e := hr_e.kept hb
      replace hbel := hbel.trans (hb.mono hbel.size)
      clear hb
      go_wp2_with fail
      go_at_call 32
      refine (spec_IsRegion l_b _ _ _ hr_b hl_b).mono ?_
      rintro e w5 ⟨he, hb⟩
      rw [G_b.out] at he
      subst he
      replace hr_a := hr_a.kept hb
      replace hr_b := hr_b.kept hb
      replace hr_c := hr_c.kept hb
      replace hr_e := hr_e.kept hb
      replace hbel := hbel.trans (hb.mono hbel.size)
      clear hb
      go_wp2_with fail
      all_goals (go_ret; exact ⟨rfl, hbel⟩)
    have G_b := hide g_b
    clear g_b
    cases g_c : isReg l_c
    · have G_c := hide g_c
      clear g_c
      go_wp2_with fail
      go_at_call 32
      refine (spec_IsRegion l_a _ _ _ hr_a hl_a).mono ?_
      rintro e w4 ⟨he, hb⟩
      rw [G_a.out] at he
      subst he
      replace hr_a := hr_a.kept hb
      replace hr_b := hr_b.kept hb
      replace hr_c := hr_c.kept hb
      replace hr_e := hr_e.kept hb
      replace hbel := hbel.trans (hb.mono hbel.size)
      clear hb
      go_wp2_with fail
      go_at_call 32
      refine (spec_IsRegion l_b _ _ _ hr_b hl_b).mono ?_
      rintro e w5 ⟨he, hb⟩
      rw [G_b.out] at he
      subst he
      replace hr_a := hr_a.kept hb
      replace hr_b := hr_b.kept hb
      replace hr_c := hr_c.kept hb
      replace hr_e := hr_e.kept hb
      replace hbel := hbel.trans (hb.mono hbel.size)
      clear hb
      go_wp2_with fail
      go_at_call 32
      refine (spec_IsRegion l_c _ _ _ hr_c hl_c).mono ?_
      rintro e w6 ⟨he, hb⟩
      rw [G_c.out] at he
      subst he
      replace hr_a := hr_a.kept hb
      replace hr_b := hr_b.kept hb
      replace hr_c := hr_c.kept hb
      replace hr_e := hr_e.kept hb
      replace hbel := hbel.trans (hb.mono hbel.size)
      clear hb
      go_wp2_with fail
      all_goals (go_ret; exact ⟨rfl, hbel⟩)
    have G_c := hide g_c
    clear g_c
    cases g_e : isReg l_e
    · have G_e := hide g_e
      clear g_e
      go_wp2_with fail
      go_at_call 32
      refine (spec_IsRegion l_a _ _ _ hr_a hl_a).mono ?_
      rintro e w4 ⟨he, hb⟩
      rw [G_a.out] at he
      subst he
      replace hr_a := hr_a.kept hb
      replace hr_b := hr_b.kept hb
      replace hr_c := hr_c.kept hb
      replace hr_e := hr_e.kept hb
      replace hbel := hbel.trans (hb.mono hbel.size)
      clear hb
      go_wp2_with fail
      go_at_call 32
      refine (spec_IsRegion l_b _ _ _ hr_b hl_b).mono ?_
      rintro e w5 ⟨he, hb⟩
      rw [G_b.out] at he
      subst he
      replace hr_a := hr_a.kept hb
      replace hr_b := hr_b.kept hb
      replace hr_c := hr_c.kept hb
      replace hr_e := hr_e.kept hb
      replace hbel := hbel.trans (hb.mono hbel.size)
      clear hb
      go_wp2_with fail
      go_at_call 32
      refine (spec_IsRegion l_c _ _ _ hr_c hl_c).mono ?_
      rintro e w6 ⟨he, hb⟩
      rw [G_c.out] at he
      subst he
      replace hr_a := hr_a.kept hb
      replace hr_b := hr_b.kept hb
      replace hr_c := hr_c.kept hb
      replace hr_e := hr_e.kept hb
      replace hbel := hbel.trans (hb.mono hbel.size)
      clear hb
      go_wp2_with fail
      go_at_call 32
      refine (spec_IsRegion l_e _ _ _ hr_e hl_e).mono ?_
      rintro e w7 ⟨he, hb⟩
      rw [G_e.out] at he
      subst he
      replace hr_a := hr_a.kept hb
      replace hr_b := hr_b.kept hb
      replace hr_c := hr_c.kept hb
      replace hr_e := hr_e.kept hb
      replace hbel := hbel.trans (hb.mono hbel.size)
      clear hb
      go_wp2_with fail
      all_goals (go_ret; exact ⟨rfl, hbel⟩)
    have G_e := hide g_e
    clear g_e
    go_wp2_with fail
    go_at_call 32
    refine (spec_IsRegion l_a _ _ _ hr_a hl_a).mono ?_
    rintro e w4 ⟨he, hb⟩
    rw [G_a.out] at he
    subst he
    replace hr_a := hr_a.kept hb
    replace hr_b := hr_b.kept hb
    replace hr_c := hr_c.kept hb
    replace hr_e := hr_e.kept hb
    replace hbel := hbel.trans (hb.mono hbel.size)
    clear hb
    go_wp2_with fail
    go_at_call 32
    refine (spec_IsRegion l_b _ _ _ hr_b hl_b).mono ?_
    rintro e w5 ⟨he, hb⟩
    rw [G_b.out] at he
    subst he
    replace hr_a := hr_a.kept hb
    replace hr_b := hr_b.kept hb
    replace hr_c := hr_c.kept hb
    replace hr_e := hr_e.kept hb
    replace hbel := hbel.trans (hb.mono hbel.size)
    clear hb
    go_wp2_with fail
    go_at_call 32
    refine (spec_IsRegion l_c _ _ _ hr_c hl_c).mono ?_
    rintro e w6 ⟨he, hb⟩
    rw [G_c.out] at he
    subst he
    replace hr_a := hr_a.kept hb
    replace hr_b := hr_b.kept hb
    replace hr_c := hr_c.kept hb
    replace hr_e := hr_e.kept hb
    replace hbel := hbel.trans (hb.mono hbel.size)
    clear hb
    go_wp2_with fail
    go_at_call 32
    refine (spec_IsRegion l_e _ _ _ hr_e hl_e).mono ?_
    rintro e w7 ⟨he, hb⟩
    rw [G_e.out] at he
    subst he
    replace hr_a := hr_a.kept hb
    replace hr_b := hr_b.kept hb
    replace hr_c := hr_c.kept hb
    replace hr_e := hr_e.kept hb
    replace hbel := hbel.trans (hb.mono hbel.size)
    clear hb
    go_wp2_with fail
    go_at_call 34
    refine ((laws_copyRects l_c _ _ _ hr_c hl_c).mono fun _ _ => retS_var).mono ?_
    rintro e w8 ⟨l_r, HU_r, a_r, c_r, rfl, hr_r, hb⟩
    replace hr_a := hr_a.kept hb
    replace hr_b := hr_b.kept hb
    replace hr_c := hr_c.kept hb
    replace hr_e := hr_e.kept hb
    replace hbel := hbel.trans (hb.mono hbel.size)
    clear hb
    have hl_r : l_r.length ≤ 2000000 := by rw [HU_r.out]; exact hl_c
    have hq := HU_r.out.symm
    subst hq
    clear HU_r
    go_wp2_with fail
    go_at_call 34
    refine ((laws_copyRects l_a _ _ _ hr_a hl_a).mono fun _ _ => retS_var).mono ?_
    rintro e w9 ⟨l_p, HU_p, a_p, c_p, rfl, hr_p, hb⟩
    replace hr_a := hr_a.kept hb
    replace hr_b := hr_b.kept hb
    replace hr_c := hr_c.kept hb
    replace hr_e := hr_e.kept hb
    replace hr_r := hr_r.kept hb
    replace hbel := hbel.trans (hb.mono hbel.size)
    clear hb
    have hl_p : l_p.length ≤ 2000000 := by rw [HU_p.out]; exact hl_a
    have hq := HU_p.out.symm
    subst hq
    clear HU_p
    go_wp2_with fail
    go_at_call 34
    refine ((laws_copyRects l_b _ _ _ hr_b hl_b).mono fun _ _ => retS_var).mono ?_
    rintro e w10 ⟨l_q, HU_q, a_q, c_q, rfl, hr_q, hb⟩
    replace hr_a := hr_a.kept hb
    replace hr_b := hr_b.kept hb
    replace hr_c := hr_c.kept hb
    replace hr_e := hr_e.kept hb
    replace hr_r := hr_r.kept hb
    replace hr_p := hr_p.kept hb
    replace hbel := hbel.trans (hb.mono hbel.size)
    clear hb
    have hl_q : l_q.length ≤ 2000000 := by rw [HU_q.out]; exact hl_b
    have hq := HU_q.out.symm
    subst hq
    clear HU_q
    go_wp2_with fail
    go_at_call 27
    refine ((impl_Union l_a l_b _ _ _ _ _ hr_p hr_q hl_p hl_q).mono fun _ _ => retS_var).mono ?_
    rintro e w11 ⟨l_u, HU_u2, a_u, c_u, rfl, hr_u, hb⟩
    replace hr_a := hr_a.kept hb
    replace hr_b := hr_b.kept hb
    replace hr_c := hr_c.kept hb
    replace hr_e := hr_e.kept hb
    replace hr_r := hr_r.kept hb
    replace hr_p := hr_p.kept hb
    replace hr_q := hr_q.kept hb
    replace hbel := hbel.trans (hb.mono hbel.size)
    clear hb
    have hl_u : l_u.length ≤ 2000000 := by rw [HU_u2.out]; exact opR_len _ _ _
    clear hr_p
    clear hr_q
    go_wp2_with fail
    go_at_call 35
    refine ((impl_Intersection l_c l_u _ _ _ _ _ hr_r hr_u hl_r hl_u).mono fun _ _ => retS_var).mono ?_
    rintro e w12 ⟨l_left, HU_left, a_left, c_left, rfl, hr_left, hb⟩
    replace hr_a := hr_a.kept hb
    replace hr_b := hr_b.kept hb
    replace hr_c := hr_c.kept hb
    replace hr_e := hr_e.kept hb
    replace hr_r := hr_r.kept hb
    replace hr_u := hr_u.kept hb
    replace hbel := hbel.trans (hb.mono hbel.size)
    clear hb
    have hl_left : l_left.length ≤ 2000000 := by rw [HU_left.out]; exact opR_len _ _ _
    clear hr_r
    clear hr_u
    go_wp2_with fail
    go_at_call 34
    refine ((laws_copyRects l_c _ _ _ hr_c hl_c).mono fun _ _ => retS_var).mono ?_
    rintro e w13 ⟨l_r, HU_r, a_r, c_r, rfl, hr_r, hb⟩
    replace hr_a := hr_a.kept hb
    replace hr_b := hr_b.kept hb
    replace hr_c := hr_c.kept hb
    replace hr_e := hr_e.kept hb
    replace hr_left := hr_left.kept hb
    replace hbel := hbel.trans (hb.mono hbel.size)
    clear hb
    have hl_r : l_r.length ≤ 2000000 := by rw [HU_r.out]; exact hl_c
    have hq := HU_r.out.symm
    subst hq
    clear HU_r
    go_wp2_with fail
    go_at_call 34
    refine ((laws_copyRects l_a _ _ _ hr_a hl_a).mono fun _ _ => retS_var).mono ?_
    rintro e w14 ⟨l_p, HU_p, a_p, c_p, rfl, hr_p, hb⟩
    replace hr_a := hr_a.kept hb
    replace hr_b := hr_b.kept hb
    replace hr_c := hr_c.kept hb
    replace hr_e := hr_e.kept hb
    replace hr_left := hr_left.kept hb
    replace hr_r := hr_r.kept hb
    replace hbel := hbel.trans (hb.mono hbel.size)
    clear hb
    have hl_p : l_p.length ≤ 2000000 := by rw [HU_p.out]; exact hl_a
    have hq := HU_p.out.symm
    subst hq
    clear HU_p
    go_wp2_with fail
    go_at_call 35
    refine ((impl_Intersection l_c l_a _ _ _ _ _ hr_r hr_p hl_r hl_p).mono fun _ _ => retS_var).mono ?_
    rintro e w15 ⟨l_x, HU_x, a_x, c_x, rfl, hr_x, hb⟩
    replace hr_a := hr_a.kept hb
    replace hr_b := hr_b.kept hb
    replace hr_c := hr_c.kept hb
    replace hr_e := hr_e.kept hb
    replace hr_left := hr_left.kept hb
    replace hr_r := hr_r.kept hb
    replace hr_p := hr_p.kept hb
    replace hbel := hbel.trans (hb.mono hbel.size)
    clear hb
    have hl_x : l_x.length ≤ 2000000 := by rw [HU_x.out]; exact opR_len _ _ _
    clear hr_r
    clear hr_p
    go_wp2_with fail
    go_at_call 34
    refine ((laws_copyRects l_c _ _ _ hr_c hl_c).mono fun _ _ => retS_var).mono ?_
    rintro e w16 ⟨l_r, HU_r, a_r, c_r, rfl, hr_r, hb⟩
    replace hr_a := hr_a.kept hb
    replace hr_b := hr_b.kept hb
    replace hr_c := hr_c.kept hb
    replace hr_e := hr_e.kept hb
    replace hr_left := hr_left.kept hb
    replace hr_x := hr_x.kept hb
    replace hbel := hbel.trans (hb.mono hbel.size)
    clear hb
    have hl_r : l_r.length ≤ 2000000 := by rw [HU_r.out]; exact hl_c
    have hq := HU_r.out.symm
    subst hq
    clear HU_r
    go_wp2_with fail
    go_at_call 34
    refine ((laws_copyRects l_b _ _ _ hr_b hl_b).mono fun _ _ => retS_var).mono ?_
    rintro e w17 ⟨l_q, HU_q, a_q, c_q, rfl, hr_q, hb⟩
    replace hr_a := hr_a.kept hb
    replace hr_b := hr_b.kept hb
    replace hr_c := hr_c.kept hb
    replace hr_e := hr_e.kept hb
    replace hr_left := hr_left.kept hb
    replace hr_x := hr_x.kept hb
    replace hr_r := hr_r.kept hb
    replace hbel := hbel.trans (hb.mono hbel.size)
    clear hb
    have hl_q : l_q.length ≤ 2000000 := by rw [HU_q.out]; exact hl_b
    have hq := HU_q.out.symm
    subst hq
    clear HU_q
    go_wp2_with fail
    go_at_call 35
    refine ((impl_Intersection l_c l_b _ _ _ _ _ hr_r hr_q hl_r hl_q).mono fun _ _ => retS_var).mono ?_
    rintro e w18 ⟨l_y, HU_y, a_y, c_y, rfl, hr_y, hb⟩
    replace hr_a := hr_a.kept hb
    replace hr_b := hr_b.kept hb
    replace hr_c := hr_c.kept hb
    replace hr_e := hr_e.kept hb
    replace hr_left := hr_left.kept hb
    replace hr_x := hr_x.kept hb
    replace hr_r := hr_r.kept hb
    replace hr_q := hr_q.kept hb
    replace hbel := hbel.trans (hb.mono hbel.size)
    clear hb
    have hl_y : l_y.length ≤ 2000000 := by rw [HU_y.out]; exact opR_len _ _ _
    clear hr_r
    clear hr_q
    go_wp2_with fail
    go_at_call 27
    refine ((impl_Union l_x l_y _ _ _ _ _ hr_x hr_y hl_x hl_y).mono fun _ _ => retS_var).mono ?_
    rintro e w19 ⟨l_right, HU_right, a_right, c_right, rfl, hr_right, hb⟩
    replace hr_a := hr_a.kept hb
    replace hr_b := hr_b.kept hb
    replace hr_c := hr_c.kept hb
    replace hr_e := hr_e.kept hb
    replace hr_left := hr_left.kept hb
    replace hr_x := hr_x.kept hb
    replace hr_y := hr_y.kept hb
    replace hbel := hbel.trans (hb.mono hbel.size)
    clear hb
    have hl_right : l_right.length ≤ 2000000 := by rw [HU_right.out]; exact opR_len _ _ _
    clear hr_x
    clear hr_y
    go_wp2_with fail
    go_at_call 34
    refine ((laws_copyRects l_a _ _ _ hr_a hl_a).mono fun _ _ => retS_var).mono ?_
    rintro e w20 ⟨l_p, HU_p, a_p, c_p, rfl, hr_p, hb⟩
    replace hr_a := hr_a.kept hb
    replace hr_b := hr_b.kept hb
    replace hr_c := hr_c.kept hb
    replace hr_e := hr_e.kept hb
    replace hr_left := hr_left.kept hb
    replace hr_right := hr_right.kept hb
    replace hbel := hbel.trans (hb.mono hbel.size)
    clear hb
    have hl_p : l_p.length ≤ 2000000 := by rw [HU_p.out]; exact hl_a
    have hq := HU_p.out.symm
    subst hq
    clear HU_p
    go_wp2_with fail
    go_at_call 34
    refine ((laws_copyRects l_b _ _ _ hr_b hl_b).mono fun _ _ => retS_var).mono ?_
    rintro e w21 ⟨l_q, HU_q, a_q, c_q, rfl, hr_q, hb⟩
    replace hr_a := hr_a.kept hb
    replace hr_b := hr_b.kept hb
    replace hr_c := hr_c.kept hb
    replace hr_e := hr_e.kept hb
    replace hr_left := hr_left.kept hb
    replace hr_right := hr_right.kept hb
    replace hr_p := hr_p.kept hb
    replace hbel := hbel.trans (hb.mono hbel.size)
    clear hb
    have hl_q : l_q.length ≤ 2000000 := by rw [HU_q.out]; exact hl_b
    have hq := HU_q.out.symm
    subst hq
    clear HU_q
    go_wp2_with fail
    go_at_call 34
    refine ((laws_copyRects l_c _ _ _ hr_c hl_c).mono fun _ _ => retS_var).mono ?_
    rintro e w22 ⟨l_r, HU_r, a_r, c_r, rfl, hr_r, hb⟩
    replace hr_a := hr_a.kept hb
    replace hr_b := hr_b.kept hb
    replace hr_c := hr_c.kept hb
    replace hr_e := hr_e.kept hb
    replace hr_left := hr_left.kept hb
    replace hr_right := hr_right.kept hb
    replace hr_p := hr_p.kept hb
    replace hr_q := hr_q.kept hb
    replace hbel := hbel.trans (hb.mono hbel.size)
    clear hb
    have hl_r : l_r.length ≤ 2000000 := by rw [HU_r.out]; exact hl_c
    have hq := HU_r.out.symm
    subst hq
    clear HU_r
    go_wp2_with fail
    go_at_call 34
    refine ((laws_copyRects l_e _ _ _ hr_e hl_e).mono fun _ _ => retS_var).mono ?_
    rintro e w23 ⟨l_s, HU_s, a_s, c_s, rfl, hr_s, hb⟩
    replace hr_a := hr_a.kept hb
    replace hr_b := hr_b.kept hb
    replace hr_c := hr_c.kept hb
    replace hr_e := hr_e.kept hb
    replace hr_left := hr_left.kept hb
    replace hr_right := hr_right.kept hb
    replace hr_p := hr_p.kept hb
    replace hr_q := hr_q.kept hb
    replace hr_r := hr_r.kept hb
    replace hbel := hbel.trans (hb.mono hbel.size)
    clear hb
    have hl_s : l_s.length ≤ 2000000 := by rw [HU_s.out]; exact hl_e
    have hq := HU_s.out.symm
    subst hq
    clear HU_s
    go_wp2_with fail
    go_at_call 18
    refine ((impl_UnionAll [l_a, l_b, l_c, l_e] _ 4 _ (ss_four hr_p hr_q hr_r hr_s hl_p hl_q hl_r hl_s) (by simp)).mono fun _ _ => retS_var).mono ?_
    rintro e w24 ⟨l_all, HU_all, a_all, c_all, rfl, hr_all, hb0⟩
    have hb : Below w23.heap.size w23 w24 := bel_trans (bel_alloc (Below.refl _ _) _) hb0
    clear hb0
    replace hr_a := hr_a.kept hb
    replace hr_b := hr_b.kept hb
    replace hr_c := hr_c.kept hb
    replace hr_e := hr_e.kept hb
    replace hr_left := hr_left.kept hb
    replace hr_right := hr_right.kept hb
    replace hr_p := hr_p.kept hb
    replace hr_q := hr_q.kept hb
    replace hr_r := hr_r.kept hb
    replace hr_s := hr_s.kept hb
    replace hbel := hbel.trans (hb.mono hbel.size)
    clear hb
    have hl_all : l_all.length ≤ 2000000 := by rw [HU_all.out]; exact allR_len _
    clear hr_p
    clear hr_q
    clear hr_r
    clear hr_s
    go_wp2_with fail
    go_at_call 34
    refine ((laws_copyRects l_a _ _ _ hr_a hl_a).mono fun _ _ => retS_var).mono ?_
    rintro e w25 ⟨l_p, HU_p, a_p, c_p, rfl, hr_p, hb⟩
    replace hr_a := hr_a.kept hb
    replace hr_b := hr_b.kept hb
    replace hr_c := hr_c.kept hb
    replace hr_e := hr_e.kept hb
    replace hr_left := hr_left.kept hb
    replace hr_right := hr_right.kept hb
    replace hr_all := hr_all.kept hb
    replace hbel := hbel.trans (hb.mono hbel.size)
    clear hb
    have hl_p : l_p.length ≤ 2000000 := by rw [HU_p.out]; exact hl_a
    have hq := HU_p.out.symm
    subst hq
    clear HU_p
    go_wp2_with fail
    go_at_call 34
    refine ((laws_copyRects l_b _ _ _ hr_b hl_b).mono fun _ _ => retS_var).mono ?_
    rintro e w26 ⟨l_q, HU_q, a_q, c_q, rfl, hr_q, hb⟩
    replace hr_a := hr_a.kept hb
    replace hr_b := hr_b.kept hb
    replace hr_c := hr_c.kept hb
    replace hr_e := hr_e.kept hb
    replace hr_left := hr_left.kept hb
    replace hr_right := hr_right.kept hb
    replace hr_all := hr_all.kept hb
    replace hr_p := hr_p.kept hb
    replace hbel := hbel.trans (hb.mono hbel.size)
    clear hb
    have hl_q : l_q.length ≤ 2000000 := by rw [HU_q.out]; exact hl_b
    have hq := HU_q.out.symm
    subst hq
    clear HU_q
    go_wp2_with fail
    go_at_call 27
    refine ((impl_Union l_a l_b _ _ _ _ _ hr_p hr_q hl_p hl_q).mono fun _ _ => retS_var).mono ?_
    rintro e w27 ⟨l_u, HU_u, a_u, c_u, rfl, hr_u, hb⟩
    replace hr_a := hr_a.kept hb
    replace hr_b := hr_b.kept hb
    replace hr_c := hr_c.kept hb
    replace hr_e := hr_e.kept hb
    replace hr_left := hr_left.kept hb
    replace hr_right := hr_right.kept hb
    replace hr_all := hr_all.kept hb
    replace hr_p := hr_p.kept hb
    replace hr_q := hr_q.kept hb
    replace hbel := hbel.trans (hb.mono hbel.size)
    clear hb
    have hl_u : l_u.length ≤ 2000000 := by rw [HU_u.out]; exact opR_len _ _ _
    clear hr_p
    clear hr_q
    go_wp2_with fail
    go_at_call 34
    refine ((laws_copyRects l_c _ _ _ hr_c hl_c).mono fun _ _ => retS_var).mono ?_
    rintro e w28 ⟨l_p, HU_p, a_p, c_p, rfl, hr_p, hb⟩
    replace hr_a := hr_a.kept hb
    replace hr_b := hr_b.kept hb
    replace hr_c := hr_c.kept hb
    replace hr_e := hr_e.kept hb
    replace hr_left := hr_left.kept hb
    replace hr_right := hr_right.kept hb
    replace hr_all := hr_all.kept hb
    replace hr_u := hr_u.kept hb
    replace hbel := hbel.trans (hb.mono hbel.size)
    clear hb
    have hl_p : l_p.length ≤ 2000000 := by rw [HU_p.out]; exact hl_c
    have hq := HU_p.out.symm
    subst hq
    clear HU_p
    go_wp2_with fail
    go_at_call 34
    refine ((laws_copyRects l_e _ _ _ hr_e hl_e).mono fun _ _ => retS_var).mono ?_
    rintro e w29 ⟨l_q, HU_q, a_q, c_q, rfl, hr_q, hb⟩
    replace hr_a := hr_a.kept hb
    replace hr_b := hr_b.kept hb
    replace hr_c := hr_c.kept hb
    replace hr_e := hr_e.kept hb
    replace hr_left := hr_left.kept hb
    replace hr_right := hr_right.kept hb
    replace hr_all := hr_all.kept hb
    replace hr_u := hr_u.kept hb
    replace hr_p := hr_p.kept hb
    replace hbel := hbel.trans (hb.mono hbel.size)
    clear hb
    have hl_q : l_q.length ≤ 2000000 := by rw [HU_q.out]; exact hl_e
    have hq := HU_q.out.symm
    subst hq
    clear HU_q
    go_wp2_with fail
    go_at_call 27
    refine ((impl_Union l_c l_e _ _ _ _ _ hr_p hr_q hl_p hl_q).mono fun _ _ => retS_var).mono ?_
    rintro e w30 ⟨l_v, HU_v, a_v, c_v, rfl, hr_v, hb⟩
    replace hr_a := hr_a.kept hb
    replace hr_b := hr_b.kept hb
    replace hr_c := hr_c.kept hb
    replace hr_e := hr_e.kept hb
    replace hr_left := hr_left.kept hb
    replace hr_right := hr_right.kept hb
    replace hr_all := hr_all.kept hb
    replace hr_u := hr_u.kept hb
    replace hr_p := hr_p.kept hb
    replace hr_q := hr_q.kept hb
    replace hbel := hbel.trans (hb.mono hbel.size)
    clear hb
    have hl_v : l_v.length ≤ 2000000 := by rw [HU_v.out]; exact opR_len _ _ _
    clear hr_p
    clear hr_q
    go_wp2_with fail
    go_at_call 27
    refine ((impl_Union l_u l_v _ _ _ _ _ hr_u hr_v hl_u hl_v).mono fun _ _ => retS_var).mono ?_
    rintro e w31 ⟨l_pair, HU_pair, a_pair, c_pair, rfl, hr_pair, hb⟩
    replace hr_a := hr_a.kept hb
    replace hr_b := hr_b.kept hb
    replace hr_c := hr_c.kept hb
    replace hr_e := hr_e.kept hb
    replace hr_left := hr_left.kept hb
    replace hr_right := hr_right.kept hb
    replace hr_all := hr_all.kept hb
    replace hr_u := hr_u.kept hb
    replace hr_v := hr_v.kept hb
    replace hbel := hbel.trans (hb.mono hbel.size)
    clear hb
    have hl_pair : l_pair.length ≤ 2000000 := by rw [HU_pair.out]; exact opR_len _ _ _
    go_wp2_with fail
    go_at_call 29
    refine (laws_sameRects l_left l_right _ _ _ _ _ hr_left hr_right hl_left hl_right).mono ?_
    rintro e w32 ⟨he, hb⟩
    rw [decide_eq_true (by rw [HU_left.out, HU_right.out, HU_u2.out, HU_x.out, HU_y.out]; exact distrib_eq G_a.out G_b.out G_c.out : l_left = l_right)] at he
    subst he
    replace hr_a := hr_a.kept hb
    replace hr_b := hr_b.kept hb
    replace hr_c := hr_c.kept hb
    replace hr_e := hr_e.kept hb
    replace hr_left := hr_left.kept hb
    replace hr_right := hr_right.kept hb
    replace hr_all := hr_all.kept hb
    replace hr_u := hr_u.kept hb
    replace hr_v := hr_v.kept hb
    replace hr_pair := hr_pair.kept hb
    replace hbel := hbel.trans (hb.mono hbel.size)
    clear hb
    go_wp2_with fail
    go_at_call 29
    refine (laws_sameRects l_all l_pair _ _ _ _ _ hr_all hr_pair hl_all hl_pair).mono ?_
    rintro e w33 ⟨he, hb⟩
    rw [decide_eq_true (by rw [HU_all.out, HU_pair.out, HU_u.out, HU_v.out]; exact all_four G_a.out G_b.out G_c.out G_e.out : l_all = l_pair)] at he
    subst he
    replace hr_a := hr_a.kept hb
    replace hr_b := hr_b.kept hb
    replace hr_c := hr_c.kept hb
    replace hr_e := hr_e.kept hb
    replace hr_left := hr_left.kept hb
    replace hr_right := hr_right.kept hb
    replace hr_all := hr_all.kept hb
    replace hr_u := hr_u.kept hb
    replace hr_v := hr_v.kept hb
    replace hr_pair := hr_pair.kept hb
    replace hbel := hbel.trans (hb.mono hbel.size)
    clear hb
    go_wp2_with fail
    go_at_call 45
    refine ((spec_Union l_a l_b _ _ _ _ _ hr_a hr_b hl_a hl_b).mono fun _ _ => retS_var).mono ?_
    rintro e w34 ⟨l_t, HU_t, a_t, c_t, rfl, hr_t, hb⟩
    replace hr_a := hr_a.kept hb
    replace hr_b := hr_b.kept hb
    replace hr_c := hr_c.kept hb
    replace hr_e := hr_e.kept hb
    replace hr_left := hr_left.kept hb
    replace hr_right := hr_right.kept hb
    replace hr_all := hr_all.kept hb
    replace hr_u := hr_u.kept hb
    replace hr_v := hr_v.kept hb
    replace hr_pair := hr_pair.kept hb
    replace hbel := hbel.trans (hb.mono hbel.size)
    clear hb
    have hl_t : l_t.length ≤ 2000000 := by rw [HU_t.out]; exact opR_len _ _ _
    go_wp2_with fail
    go_at_call 44
    refine ((spec_Intersection l_c l_t _ _ _ _ _ hr_c hr_t hl_c hl_t).mono fun _ _ => retS_var).mono ?_
    rintro e w35 ⟨l_z, HU_z, a_z, c_z, rfl, hr_z, hb⟩
    replace hr_a := hr_a.kept hb
    replace hr_b := hr_b.kept hb
    replace hr_c := hr_c.kept hb
    replace hr_e := hr_e.kept hb
    replace hr_left := hr_left.kept hb
    replace hr_right := hr_right.kept hb
    replace hr_all := hr_all.kept hb
    replace hr_u := hr_u.kept hb
    replace hr_v := hr_v.kept hb
    replace hr_pair := hr_pair.kept hb
    replace hr_t := hr_t.kept hb
    replace hbel := hbel.trans (hb.mono hbel.size)
    clear hb
    have hl_z : l_z.length ≤ 2000000 := by rw [HU_z.out]; exact opR_len _ _ _
    go_wp2_with fail
    go_at_call 29
    refine (laws_sameRects l_left l_z _ _ _ _ _ hr_left hr_z hl_left hl_z).mono ?_
    rintro e w36 ⟨he, hb⟩
    rw [decide_eq_true (by rw [HU_left.out, HU_u2.out, HU_z.out, HU_t.out] : l_left = l_z)] at he
    subst he
    replace hr_a := hr_a.kept hb
    replace hr_b := hr_b.kept hb
    replace hr_c := hr_c.kept hb
    replace hr_e := hr_e.kept hb
    replace hr_left := hr_left.kept hb
    replace hr_right := hr_right.kept hb
    replace hr_all := hr_all.kept hb
    replace hr_u := hr_u.kept hb
    replace hr_v := hr_v.kept hb
    replace hr_pair := hr_pair.kept hb
    replace hr_t := hr_t.kept hb
    replace hr_z := hr_z.kept hb
    replace hbel := hbel.trans (hb.mono hbel.size)
    clear hb
    go_wp2_with fail
    all_goals (go_ret; exact ⟨rfl, hbel⟩)

set_option maxRecDepth 100000 in
theorem lifted (os : Os) (started : os.Started) (H : Type) (enc : TypeId × Value → H) :
    ReturnsInHanded {} Try.checked os 7 .any (Rows.fnDistributiveSpec.pre6 enc Try.prog Try.f7 Rows.fnDistributiveRow.domain false) (Rows.fnDistributiveSpec.post enc Try.prog Try.f7 false true false false) := by
  refine law_lifted (C := Try.checked) (tb := 4) own started (by kernel_rfl) Try.func7 laidOut (by kernel_rfl) Try.underlying4 (by kernel_rfl) rfl
    (ChangeSpec.witness6 (enc := enc) (C := Try.checked) false ⟨#[], #[.slice none 0 0], []⟩ 8 (by kernel_rfl) (by kernel_rfl) (by kernel_rfl) (by kernel_rfl)) ?_
  intro W base args ds ps hval hA hlt
  have hA : DataW.TrodAll enc Try.prog W 0 (fun _ => true) true Try.f7.params.toList args.toList ds ps := hA
  have hval : ∀ (j : Nat) t v, Try.f7.params[j]? = some t → args[j]? = some v → Value.okWide Try.prog W .any base t v := hval
  rw [Try.params7] at hA hval
  obtain ⟨v0, vs0, d0, ds0, p0, q0, hargs, rfl, rfl, h0, r0⟩ := trodAll_cons hA
  obtain ⟨rfl, rfl, rfl⟩ := trodAll_nil r0
  obtain rfl : args = #[v0] := by cases args; simp_all
  refine ⟨rfl, ?_⟩
  obtain ⟨a0, n0, c0, rfl, hl0, hin0⟩ := open_bytes Try.underlying33 (by kernel_rfl) Try.underlying5 (okWide_slice Try.underlying33 (hval 0 33 v0 rfl rfl)) h0
  exact walk n0 c0 a0 hl0 W hin0

theorem proved : Rows.FnDistributiveSaid :=
  OpenClaim.holds_of_wide 7 Try.f7 rfl rfl rfl rfl rfl rfl rfl ⟨rfl, rfl, rfl, rfl, rfl⟩ rfl rfl rfl rfl rfl (by kernel_rfl) Try.func7 (by kernel_rfl)
    (of_decide_eq_true (by kernel_rfl)) (by unfold Func.isWrapper; first | (rw [if_pos (by decide +kernel)]; kernel_rfl) | (rw [if_neg (by decide +kernel)]; exact ⟨rfl, rfl⟩))
    (fun os started H enc _ => lifted os started H enc)

#print axioms proved
end Go.Proofs.Ytldgjocjcbhkmaa.lawFnDistributive
