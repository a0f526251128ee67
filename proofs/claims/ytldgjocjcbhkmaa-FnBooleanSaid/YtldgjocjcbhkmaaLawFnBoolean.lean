/- The Boolean operations satisfy de Morgan's laws, absorption and the definition of the symmetric difference. No condition. -/
import Derived.Test.YtldgjocjcbhkmaaRows
import Derived.Test.YtldgjocjcbhkmaaFrameB
import Derived.Test.YtldgjocjcbhkmaaDrw4
import Derived.Deep.RegionHeld3
import Derived.Test.YtldgjocjcbhkmaaPln
import Derived.Test.YtldgjocjcbhkmaaRegH
import Derived.Test.YtldgjocjcbhkmaaRegV
namespace Go.Proofs.Ytldgjocjcbhkmaa.lawFnBoolean
open Go.ChangeShapes Go.WideShapes Go.ChangeAt Go.RowKit Go.Joins

theorem own : ownKnob Try.prog.godebug = none := by kernel_rfl
theorem laidOut : laidOutB Try.prog = true := by kernel_rfl

set_option maxRecDepth 100000 in
set_option maxHeartbeats 3200000 in
theorem walk (n c : Nat) (a : Option Addr) (hn : n ≤ maxLen) (w : World) (hin : InBytes w.heap.size w a n) :
    Calls Try.prog 9 #[.slice a n c] w fun e w' => e = .returned (.bool true) ∧ Below w.heap.size w w' := by
  have hbel := Below.refl w.heap.size w
  by_cases hbig : (n : Int) > 4096
  · go_enter Try.func9, Try.ntmps9
    go_wp2_with fail
    go_at_call 24
    refine (laws_big _ _ _ _).mono ?_
    rintro e w1 ⟨he, rfl⟩
    rw [decide_eq_true hbig] at he
    subst he
    go_wp2_with fail
    go_ret
    exact ⟨rfl, hbel⟩
  · have hn4 : n ≤ 4096 := by omega
    have hn5 : n ≤ 5000 := by omega
    go_enter Try.func9, Try.ntmps9
    go_wp2_with fail
    go_at_call 24
    refine (laws_big _ _ _ _).mono ?_
    rintro e w1 ⟨he, rfl⟩
    rw [decide_eq_false (by omega : ¬ (n : Int) > 4096)] at he
    subst he
    clear hbig
    go_wp2_with fail
    go_at_call 42
    refine (spec_DrawUnion n c a _ hin hn5).mono ?_
    rintro e w1 ⟨l_a, a_a, c_a, l_b, a_b, c_b, rfl, hr_a, hr_b, hl_a, hl_b, hb⟩
    replace hbel := hbel.trans (hb.mono hbel.size)
    clear hb
    cases g_a : isReg l_a
    · have G_a := hide g_a
      clear g_a
      go_wp2_with fail
      go_at_call 32
      refine (spec_IsRegion l_a _ _ _ hr_a hl_a).mono ?_
      rintro e w2 ⟨he, hb⟩
      rw [G_a.out] at he
      subst he
      replace hr_a := hr_a.kept hb
      replace hr_b := hr_b.kept hb
      replace hbel := hbel.trans (hb.mono hbel.size)
      clear hb
      go_wp2_with fail
      all_goals (go_ret; exact ⟨rfl, hbel⟩)
    have G_a := hide g_a
    clear g_a
    cases g_b : isReg l_b
    · have G_b := hide g_b
      clear g_b
      go_wp2_with fail
      go_at_call 32
      refine (spec_IsRegion l_a _ _ _ hr_a hl_a).mono ?_
      rintro e w2 ⟨he, hb⟩
      rw [G_a.out] at he
      subst he
      replace hr_a := hr_a.kept hb
      replace hr_b := hr_b.kept hb
      replace hbel := hbel.trans (hb.mono hbel.size)
      clear hb
      go_wp2_with fail
      go_at_call 32
      refine (spec_IsRegion l_b _ _ _ hr_b hl_b).mono ?_
      rintro e w3 ⟨he, hb⟩
      rw [G_b.out] at he
      subst he
      replace hr_a := hr_a.kept hb
      replace hr_b := hr_b.kept hb
      replace hbel := hbel.trans (hb.mono hbel.size)
      clear hb
      go_wp2_with fail
      all_goals (go_ret; exact ⟨rfl, hbel⟩)
    have G_b := hide g_b
    clear g_b
    go_wp2_with fail
    go_at_call 32
    refine (spec_IsRegion l_a _ _ _ hr_a hl_a).mono ?_
    rintro e w2 ⟨he, hb⟩
    rw [G_a.out] at he
    subst he
    replace hr_a := hr_a.kept hb
    replace hr_b := hr_b.kept hb
    replace hbel := hbel.trans (hb.mono hbel.size)
    clear hb
    go_wp2_with fail
    go_at_call 32
    refine (spec_IsRegion l_b _ _ _ hr_b hl_b).mono ?_
    rintro e w3 ⟨he, hb⟩
    rw [G_b.out] at he
    subst he
    replace hr_a := hr_a.kept hb
    replace hr_b := hr_b.kept hb
    replace hbel := hbel.trans (hb.mono hbel.size)
    clear hb
    go_wp2_with fail
    go_at_call 34
    refine ((laws_copyRects l_a _ _ _ hr_a hl_a).mono fun _ _ => retS_var).mono ?_
    rintro e w4 ⟨l_p, HU_p, a_p, c_p, rfl, hr_p, hb⟩
    replace hr_a := hr_a.kept hb
    replace hr_b := hr_b.kept hb
    replace hbel := hbel.trans (hb.mono hbel.size)
    clear hb
    have hl_p : l_p.length ≤ 2000000 := by rw [HU_p.out]; exact hl_a
    have hq := HU_p.out.symm
    subst hq
    clear HU_p
    go_wp2_with fail
    go_at_call 34
    refine ((laws_copyRects l_b _ _ _ hr_b hl_b).mono fun _ _ => retS_var).mono ?_
    rintro e w5 ⟨l_q, HU_q, a_q, c_q, rfl, hr_q, hb⟩
    replace hr_a := hr_a.kept hb
    replace hr_b := hr_b.kept hb
    replace hr_p := hr_p.kept hb
    replace hbel := hbel.trans (hb.mono hbel.size)
    clear hb
    have hl_q : l_q.length ≤ 2000000 := by rw [HU_q.out]; exact hl_b
    have hq := HU_q.out.symm
    subst hq
    clear HU_q
    go_wp2_with fail
    go_at_call 27
    refine ((impl_Union l_a l_b _ _ _ _ _ hr_p hr_q hl_p hl_q).mono fun _ _ => retS_var).mono ?_
    rintro e w6 ⟨l_u, HU_u, a_u, c_u, rfl, hr_u, hb⟩
    replace hr_a := hr_a.kept hb
    replace hr_b := hr_b.kept hb
    replace hr_p := hr_p.kept hb
    replace hr_q := hr_q.kept hb
    replace hbel := hbel.trans (hb.mono hbel.size)
    clear hb
    have hl_u : l_u.length ≤ 2000000 := by rw [HU_u.out]; exact opR_len _ _ _
    clear hr_p
    clear hr_q
    go_wp2_with fail
    go_at_call 34
    refine ((laws_copyRects l_a _ _ _ hr_a hl_a).mono fun _ _ => retS_var).mono ?_
    rintro e w7 ⟨l_p, HU_p, a_p, c_p, rfl, hr_p, hb⟩
    replace hr_a := hr_a.kept hb
    replace hr_b := hr_b.kept hb
    replace hr_u := hr_u.kept hb
    replace hbel := hbel.trans (hb.mono hbel.size)
    clear hb
    have hl_p : l_p.length ≤ 2000000 := by rw [HU_p.out]; exact hl_a
    have hq := HU_p.out.symm
    subst hq
    clear HU_p
    go_wp2_with fail
    go_at_call 34
    refine ((laws_copyRects l_b _ _ _ hr_b hl_b).mono fun _ _ => retS_var).mono ?_
    rintro e w8 ⟨l_q, HU_q, a_q, c_q, rfl, hr_q, hb⟩
    replace hr_a := hr_a.kept hb
    replace hr_b := hr_b.kept hb
    replace hr_u := hr_u.kept hb
    replace hr_p := hr_p.kept hb
    replace hbel := hbel.trans (hb.mono hbel.size)
    clear hb
    have hl_q : l_q.length ≤ 2000000 := by rw [HU_q.out]; exact hl_b
    have hq := HU_q.out.symm
    subst hq
    clear HU_q
    go_wp2_with fail
    go_at_call 35
    refine ((impl_Intersection l_a l_b _ _ _ _ _ hr_p hr_q hl_p hl_q).mono fun _ _ => retS_var).mono ?_
    rintro e w9 ⟨l_i, HU_i, a_i, c_i, rfl, hr_i, hb⟩
    replace hr_a := hr_a.kept hb
    replace hr_b := hr_b.kept hb
    replace hr_u := hr_u.kept hb
    replace hr_p := hr_p.kept hb
    replace hr_q := hr_q.kept hb
    replace hbel := hbel.trans (hb.mono hbel.size)
    clear hb
    have hl_i : l_i.length ≤ 2000000 := by rw [HU_i.out]; exact opR_len _ _ _
    clear hr_p
    clear hr_q
    go_wp2_with fail
    go_at_call 34
    refine ((laws_copyRects l_a _ _ _ hr_a hl_a).mono fun _ _ => retS_var).mono ?_
    rintro e w10 ⟨l_p, HU_p, a_p, c_p, rfl, hr_p, hb⟩
    replace hr_a := hr_a.kept hb
    replace hr_b := hr_b.kept hb
    replace hr_u := hr_u.kept hb
    replace hr_i := hr_i.kept hb
    replace hbel := hbel.trans (hb.mono hbel.size)
    clear hb
    have hl_p : l_p.length ≤ 2000000 := by rw [HU_p.out]; exact hl_a
    have hq := HU_p.out.symm
    subst hq
    clear HU_p
    go_wp2_with fail
    go_at_call 34
    refine ((laws_copyRects l_b _ _ _ hr_b hl_b).mono fun _ _ => retS_var).mono ?_
    rintro e w11 ⟨l_q, HU_q, a_q, c_q, rfl, hr_q, hb⟩
    replace hr_a := hr_a.kept hb
    replace hr_b := hr_b.kept hb
    replace hr_u := hr_u.kept hb
    replace hr_i := hr_i.kept hb
    replace hr_p := hr_p.kept hb
    replace hbel := hbel.trans (hb.mono hbel.size)
    clear hb
    have hl_q : l_q.length ≤ 2000000 := by rw [HU_q.out]; exact hl_b
    have hq := HU_q.out.symm
    subst hq
    clear HU_q
    go_wp2_with fail
    go_at_call 51
    refine ((impl_Difference l_a l_b _ _ _ _ _ hr_p hr_q hl_p hl_q).mono fun _ _ => retS_var).mono ?_
    rintro e w12 ⟨l_x, HU_x, a_x, c_x, rfl, hr_x, hb⟩
    replace hr_a := hr_a.kept hb
    replace hr_b := hr_b.kept hb
    replace hr_u := hr_u.kept hb
    replace hr_i := hr_i.kept hb
    replace hr_p := hr_p.kept hb
    replace hr_q := hr_q.kept hb
    replace hbel := hbel.trans (hb.mono hbel.size)
    clear hb
    have hl_x : l_x.length ≤ 2000000 := by rw [HU_x.out]; exact opR_len _ _ _
    clear hr_p
    clear hr_q
    go_wp2_with fail
    go_at_call 34
    refine ((laws_copyRects l_b _ _ _ hr_b hl_b).mono fun _ _ => retS_var).mono ?_
    rintro e w13 ⟨l_q, HU_q, a_q, c_q, rfl, hr_q, hb⟩
    replace hr_a := hr_a.kept hb
    replace hr_b := hr_b.kept hb
    replace hr_u := hr_u.kept hb
    replace hr_i := hr_i.kept hb
    replace hr_x := hr_x.kept hb
    replace hbel := hbel.trans (hb.mono hbel.size)
    clear hb
    have hl_q : l_q.length ≤ 2000000 := by rw [HU_q.out]; exact hl_b
    have hq := HU_q.out.symm
    subst hq
    clear HU_q
    go_wp2_with fail
    go_at_call 34
    refine ((laws_copyRects l_a _ _ _ hr_a hl_a).mono fun _ _ => retS_var).mono ?_
    rintro e w14 ⟨l_p, HU_p, a_p, c_p, rfl, hr_p, hb⟩
    replace hr_a := hr_a.kept hb
    replace hr_b := hr_b.kept hb
    replace hr_u := hr_u.kept hb
    replace hr_i := hr_i.kept hb
    replace hr_x := hr_x.kept hb
    replace hr_q := hr_q.kept hb
    replace hbel := hbel.trans (hb.mono hbel.size)
    clear hb
    have hl_p : l_p.length ≤ 2000000 := by rw [HU_p.out]; exact hl_a
    have hq := HU_p.out.symm
    subst hq
    clear HU_p
    go_wp2_with fail
    go_at_call 51
    refine ((impl_Difference l_b l_a _ _ _ _ _ hr_q hr_p hl_q hl_p).mono fun _ _ => retS_var).mono ?_
    rintro e w15 ⟨l_y, HU_y, a_y, c_y, rfl, hr_y, hb⟩
    replace hr_a := hr_a.kept hb
    replace hr_b := hr_b.kept hb
    replace hr_u := hr_u.kept hb
    replace hr_i := hr_i.kept hb
    replace hr_x := hr_x.kept hb
    replace hr_q := hr_q.kept hb
    replace hr_p := hr_p.kept hb
    replace hbel := hbel.trans (hb.mono hbel.size)
    clear hb
    have hl_y : l_y.length ≤ 2000000 := by rw [HU_y.out]; exact opR_len _ _ _
    clear hr_p
    clear hr_q
    go_wp2_with fail
    go_at_call 52
    refine ((impl_Complement l_u _ _ _ hr_u hl_u).mono fun _ _ => retS_var).mono ?_
    rintro e w16 ⟨l_cu, HU_cu, a_cu, c_cu, rfl, hr_cu, hb⟩
    replace hr_a := hr_a.kept hb
    replace hr_b := hr_b.kept hb
    replace hr_u := hr_u.kept hb
    replace hr_i := hr_i.kept hb
    replace hr_x := hr_x.kept hb
    replace hr_y := hr_y.kept hb
    replace hbel := hbel.trans (hb.mono hbel.size)
    clear hb
    have hl_cu : l_cu.length ≤ 2000000 := by rw [HU_cu.out]; exact compR_len _
    go_wp2_with fail
    go_at_call 34
    refine ((laws_copyRects l_a _ _ _ hr_a hl_a).mono fun _ _ => retS_var).mono ?_
    rintro e w17 ⟨l_p, HU_p, a_p, c_p, rfl, hr_p, hb⟩
    replace hr_a := hr_a.kept hb
    replace hr_b := hr_b.kept hb
    replace hr_u := hr_u.kept hb
    replace hr_i := hr_i.kept hb
    replace hr_x := hr_x.kept hb
    replace hr_y := hr_y.kept hb
    replace hr_cu := hr_cu.kept hb
    replace hbel := hbel.trans (hb.mono hbel.size)
    clear hb
    have hl_p : l_p.length ≤ 2000000 := by rw [HU_p.out]; exact hl_a
    have hq := HU_p.out.symm
    subst hq
    clear HU_p
    go_wp2_with fail
    go_at_call 52
    refine ((impl_Complement l_a _ _ _ hr_p hl_p).mono fun _ _ => retS_var).mono ?_
    rintro e w18 ⟨l_ca, HU_ca, a_ca, c_ca, rfl, hr_ca, hb⟩
    replace hr_a := hr_a.kept hb
    replace hr_b := hr_b.kept hb
    replace hr_u := hr_u.kept hb
    replace hr_i := hr_i.kept hb
    replace hr_x := hr_x.kept hb
    replace hr_y := hr_y.kept hb
    replace hr_cu := hr_cu.kept hb
    replace hr_p := hr_p.kept hb
    replace hbel := hbel.trans (hb.mono hbel.size)
    clear hb
    have hl_ca : l_ca.length ≤ 2000000 := by rw [HU_ca.out]; exact compR_len _
    clear hr_p
    go_wp2_with fail
    go_at_call 34
    refine ((laws_copyRects l_b _ _ _ hr_b hl_b).mono fun _ _ => retS_var).mono ?_
    rintro e w19 ⟨l_q, HU_q, a_q, c_q, rfl, hr_q, hb⟩
    replace hr_a := hr_a.kept hb
    replace hr_b := hr_b.kept hb
    replace hr_u := hr_u.kept hb
    replace hr_i := hr_i.kept hb
    replace hr_x := hr_x.kept hb
    replace hr_y := hr_y.kept hb
    replace hr_cu := hr_cu.kept hb
    replace hr_ca := hr_ca.kept hb
    replace hbel := hbel.trans (hb.mono hbel.size)
    clear hb
    have hl_q : l_q.length ≤ 2000000 := by rw [HU_q.out]; exact hl_b
    have hq := HU_q.out.symm
    subst hq
    clear HU_q
    go_wp2_with fail
    go_at_call 52
    refine ((impl_Complement l_b _ _ _ hr_q hl_q).mono fun _ _ => retS_var).mono ?_
    rintro e w20 ⟨l_cb, HU_cb, a_cb, c_cb, rfl, hr_cb, hb⟩
    replace hr_a := hr_a.kept hb
    replace hr_b := hr_b.kept hb
    replace hr_u := hr_u.kept hb
    replace hr_i := hr_i.kept hb
    replace hr_x := hr_x.kept hb
    replace hr_y := hr_y.kept hb
    replace hr_cu := hr_cu.kept hb
    replace hr_ca := hr_ca.kept hb
    replace hr_q := hr_q.kept hb
    replace hbel := hbel.trans (hb.mono hbel.size)
    clear hb
    have hl_cb : l_cb.length ≤ 2000000 := by rw [HU_cb.out]; exact compR_len _
    clear hr_q
    go_wp2_with fail
    go_at_call 35
    refine ((impl_Intersection l_ca l_cb _ _ _ _ _ hr_ca hr_cb hl_ca hl_cb).mono fun _ _ => retS_var).mono ?_
    rintro e w21 ⟨l_m, HU_m, a_m, c_m, rfl, hr_m, hb⟩
    replace hr_a := hr_a.kept hb
    replace hr_b := hr_b.kept hb
    replace hr_u := hr_u.kept hb
    replace hr_i := hr_i.kept hb
    replace hr_x := hr_x.kept hb
    replace hr_y := hr_y.kept hb
    replace hr_cu := hr_cu.kept hb
    replace hr_ca := hr_ca.kept hb
    replace hr_cb := hr_cb.kept hb
    replace hbel := hbel.trans (hb.mono hbel.size)
    clear hb
    have hl_m : l_m.length ≤ 2000000 := by rw [HU_m.out]; exact opR_len _ _ _
    go_wp2_with fail
    go_at_call 29
    refine (laws_sameRects l_cu l_m _ _ _ _ _ hr_cu hr_m hl_cu hl_m).mono ?_
    rintro e w22 ⟨he, hb⟩
    rw [decide_eq_true (by rw [HU_cu.out, HU_u.out, HU_m.out, HU_ca.out, HU_cb.out]; exact morgan_eq G_a.out G_b.out : l_cu = l_m)] at he
    subst he
    replace hr_a := hr_a.kept hb
    replace hr_b := hr_b.kept hb
    replace hr_u := hr_u.kept hb
    replace hr_i := hr_i.kept hb
    replace hr_x := hr_x.kept hb
    replace hr_y := hr_y.kept hb
    replace hr_cu := hr_cu.kept hb
    replace hr_ca := hr_ca.kept hb
    replace hr_cb := hr_cb.kept hb
    replace hr_m := hr_m.kept hb
    replace hbel := hbel.trans (hb.mono hbel.size)
    clear hb
    clear hr_cu
    clear hr_ca
    clear hr_cb
    clear hr_m
    go_wp2_with fail
    go_at_call 27
    refine ((impl_Union l_i l_x _ _ _ _ _ hr_i hr_x hl_i hl_x).mono fun _ _ => retS_var).mono ?_
    rintro e w23 ⟨l_m, HU_m, a_m, c_m, rfl, hr_m, hb⟩
    replace hr_a := hr_a.kept hb
    replace hr_b := hr_b.kept hb
    replace hr_u := hr_u.kept hb
    replace hr_i := hr_i.kept hb
    replace hr_x := hr_x.kept hb
    replace hr_y := hr_y.kept hb
    replace hbel := hbel.trans (hb.mono hbel.size)
    clear hb
    have hl_m : l_m.length ≤ 2000000 := by rw [HU_m.out]; exact opR_len _ _ _
    go_wp2_with fail
    go_at_call 29
    refine (laws_sameRects l_m l_a _ _ _ _ _ hr_m hr_a hl_m hl_a).mono ?_
    rintro e w24 ⟨he, hb⟩
    rw [decide_eq_true (by rw [HU_m.out, HU_i.out, HU_x.out]; exact absorb_eq G_a.out G_b.out : l_m = l_a)] at he
    subst he
    replace hr_a := hr_a.kept hb
    replace hr_b := hr_b.kept hb
    replace hr_u := hr_u.kept hb
    replace hr_i := hr_i.kept hb
    replace hr_x := hr_x.kept hb
    replace hr_y := hr_y.kept hb
    replace hr_m := hr_m.kept hb
    replace hbel := hbel.trans (hb.mono hbel.size)
    clear hb
    clear hr_m
    go_wp2_with fail
    go_at_call 27
    refine ((impl_Union l_x l_y _ _ _ _ _ hr_x hr_y hl_x hl_y).mono fun _ _ => retS_var).mono ?_
    rintro e w25 ⟨l_m, HU_m, a_m, c_m, rfl, hr_m, hb⟩
    replace hr_a := hr_a.kept hb
    replace hr_b := hr_b.kept hb
    replace hr_u := hr_u.kept hb
    replace hr_i := hr_i.kept hb
    replace hr_x := hr_x.kept hb
    replace hr_y := hr_y.kept hb
    replace hbel := hbel.trans (hb.mono hbel.size)
    clear hb
    have hl_m : l_m.length ≤ 2000000 := by rw [HU_m.out]; exact opR_len _ _ _
    go_wp2_with fail
    go_at_call 34
    refine ((laws_copyRects l_a _ _ _ hr_a hl_a).mono fun _ _ => retS_var).mono ?_
    rintro e w26 ⟨l_p, HU_p, a_p, c_p, rfl, hr_p, hb⟩
    replace hr_a := hr_a.kept hb
    replace hr_b := hr_b.kept hb
    replace hr_u := hr_u.kept hb
    replace hr_i := hr_i.kept hb
    replace hr_x := hr_x.kept hb
    replace hr_y := hr_y.kept hb
    replace hr_m := hr_m.kept hb
    replace hbel := hbel.trans (hb.mono hbel.size)
    clear hb
    have hl_p : l_p.length ≤ 2000000 := by rw [HU_p.out]; exact hl_a
    have hq := HU_p.out.symm
    subst hq
    clear HU_p
    go_wp2_with fail
    go_at_call 34
    refine ((laws_copyRects l_b _ _ _ hr_b hl_b).mono fun _ _ => retS_var).mono ?_
    rintro e w27 ⟨l_q, HU_q, a_q, c_q, rfl, hr_q, hb⟩
    replace hr_a := hr_a.kept hb
    replace hr_b := hr_b.kept hb
    replace hr_u := hr_u.kept hb
    replace hr_i := hr_i.kept hb
    replace hr_x := hr_x.kept hb
    replace hr_y := hr_y.kept hb
    replace hr_m := hr_m.kept hb
    replace hr_p := hr_p.kept hb
    replace hbel := hbel.trans (hb.mono hbel.size)
    clear hb
    have hl_q : l_q.length ≤ 2000000 := by rw [HU_q.out]; exact hl_b
    have hq := HU_q.out.symm
    subst hq
    clear HU_q
    go_wp2_with fail
    go_at_call 53
    refine ((impl_SymmetricDifference l_a l_b _ _ _ _ _ hr_p hr_q hl_p hl_q).mono fun _ _ => retS_var).mono ?_
    rintro e w28 ⟨l_s, HU_s, a_s, c_s, rfl, hr_s, hb⟩
    replace hr_a := hr_a.kept hb
    replace hr_b := hr_b.kept hb
    replace hr_u := hr_u.kept hb
    replace hr_i := hr_i.kept hb
    replace hr_x := hr_x.kept hb
    replace hr_y := hr_y.kept hb
    replace hr_m := hr_m.kept hb
    replace hr_p := hr_p.kept hb
    replace hr_q := hr_q.kept hb
    replace hbel := hbel.trans (hb.mono hbel.size)
    clear hb
    have hl_s : l_s.length ≤ 2000000 := by rw [HU_s.out]; exact opR_len _ _ _
    go_wp2_with fail
    go_at_call 29
    refine (laws_sameRects l_m l_s _ _ _ _ _ hr_m hr_s hl_m hl_s).mono ?_
    rintro e w29 ⟨he, hb⟩
    rw [decide_eq_true (by rw [HU_m.out, HU_s.out, HU_x.out, HU_y.out]; exact symm_eq G_a.out G_b.out : l_m = l_s)] at he
    subst he
    replace hr_a := hr_a.kept hb
    replace hr_b := hr_b.kept hb
    replace hr_u := hr_u.kept hb
    replace hr_i := hr_i.kept hb
    replace hr_x := hr_x.kept hb
    replace hr_y := hr_y.kept hb
    replace hr_m := hr_m.kept hb
    replace hr_p := hr_p.kept hb
    replace hr_q := hr_q.kept hb
    replace hr_s := hr_s.kept hb
    replace hbel := hbel.trans (hb.mono hbel.size)
    clear hb
    clear hr_p
    clear hr_q
    clear hr_m
    clear hr_s
    go_wp2_with fail
    go_at_call 34
    refine ((laws_copyRects l_a _ _ _ hr_a hl_a).mono fun _ _ => retS_var).mono ?_
    rintro e w30 ⟨l_p, HU_p, a_p, c_p, rfl, hr_p, hb⟩
    replace hr_a := hr_a.kept hb
    replace hr_b := hr_b.kept hb
    replace hr_u := hr_u.kept hb
    replace hr_i := hr_i.kept hb
    replace hr_x := hr_x.kept hb
    replace hr_y := hr_y.kept hb
    replace hbel := hbel.trans (hb.mono hbel.size)
    clear hb
    have hl_p : l_p.length ≤ 2000000 := by rw [HU_p.out]; exact hl_a
    have hq := HU_p.out.symm
    subst hq
    clear HU_p
    go_wp2_with fail
    go_at_call 49
    refine (impl_Covers l_u l_a _ _ _ _ _ hr_u hr_p hl_u hl_p).mono ?_
    rintro e w31 ⟨he, hb⟩
    rw [(by rw [HU_u.out]; exact cov_union G_a.out G_b.out : covR l_u l_a = true)] at he
    subst he
    replace hr_a := hr_a.kept hb
    replace hr_b := hr_b.kept hb
    replace hr_u := hr_u.kept hb
    replace hr_i := hr_i.kept hb
    replace hr_x := hr_x.kept hb
    replace hr_y := hr_y.kept hb
    replace hr_p := hr_p.kept hb
    replace hbel := hbel.trans (hb.mono hbel.size)
    clear hb
    clear hr_p
    go_wp2_with fail
    go_at_call 34
    refine ((laws_copyRects l_a _ _ _ hr_a hl_a).mono fun _ _ => retS_var).mono ?_
    rintro e w32 ⟨l_p, HU_p, a_p, c_p, rfl, hr_p, hb⟩
    replace hr_a := hr_a.kept hb
    replace hr_b := hr_b.kept hb
    replace hr_u := hr_u.kept hb
    replace hr_i := hr_i.kept hb
    replace hr_x := hr_x.kept hb
    replace hr_y := hr_y.kept hb
    replace hbel := hbel.trans (hb.mono hbel.size)
    clear hb
    have hl_p : l_p.length ≤ 2000000 := by rw [HU_p.out]; exact hl_a
    have hq := HU_p.out.symm
    subst hq
    clear HU_p
    go_wp2_with fail
    go_at_call 34
    refine ((laws_copyRects l_b _ _ _ hr_b hl_b).mono fun _ _ => retS_var).mono ?_
    rintro e w33 ⟨l_q, HU_q, a_q, c_q, rfl, hr_q, hb⟩
    replace hr_a := hr_a.kept hb
    replace hr_b := hr_b.kept hb
    replace hr_u := hr_u.kept hb
    replace hr_i := hr_i.kept hb
    replace hr_x := hr_x.kept hb
    replace hr_y := hr_y.kept hb
    replace hr_p := hr_p.kept hb
    replace hbel := hbel.trans (hb.mono hbel.size)
    clear hb
    have hl_q : l_q.length ≤ 2000000 := by rw [HU_q.out]; exact hl_b
    have hq := HU_q.out.symm
    subst hq
    clear HU_q
    have hov : overR l_a l_b = decide ((l_i.length : Int) > 0) := by rw [HU_i.out]; exact over_len G_a.out G_b.out
    have HOV := hide hov
    clear hov
    by_cases hpos : l_i = []
    · subst hpos
      go_wp2_with fail
      go_at_call 39
      refine (impl_Overlaps l_a l_b _ _ _ _ _ hr_p hr_q hl_p hl_q).mono ?_
      rintro e w34 ⟨he, hb⟩
      rw [(HOV.out.trans (decide_eq_false (by simp)) : overR l_a l_b = false)] at he
      subst he
      replace hr_a := hr_a.kept hb
      replace hr_b := hr_b.kept hb
      replace hr_u := hr_u.kept hb
      replace hr_i := hr_i.kept hb
      replace hr_x := hr_x.kept hb
      replace hr_y := hr_y.kept hb
      replace hr_p := hr_p.kept hb
      replace hr_q := hr_q.kept hb
      replace hbel := hbel.trans (hb.mono hbel.size)
      clear hb
      clear hr_p
      clear hr_q
      go_wp2_with fail
      go_at_call 45
      refine ((spec_Union l_a l_b _ _ _ _ _ hr_a hr_b hl_a hl_b).mono fun _ _ => retS_var).mono ?_
      rintro e w35 ⟨l_t, HU_t, a_t, c_t, rfl, hr_t, hb⟩
      replace hr_a := hr_a.kept hb
      replace hr_b := hr_b.kept hb
      replace hr_u := hr_u.kept hb
      replace hr_i := hr_i.kept hb
      replace hr_x := hr_x.kept hb
      replace hr_y := hr_y.kept hb
      replace hbel := hbel.trans (hb.mono hbel.size)
      clear hb
      have hl_t : l_t.length ≤ 2000000 := by rw [HU_t.out]; exact opR_len _ _ _
      go_wp2_with fail
      go_at_call 29
      refine (laws_sameRects l_u l_t _ _ _ _ _ hr_u hr_t hl_u hl_t).mono ?_
      rintro e w36 ⟨he, hb⟩
      rw [decide_eq_true (by rw [HU_u.out, HU_t.out] : l_u = l_t)] at he
      subst he
      replace hr_a := hr_a.kept hb
      replace hr_b := hr_b.kept hb
      replace hr_u := hr_u.kept hb
      replace hr_i := hr_i.kept hb
      replace hr_x := hr_x.kept hb
      replace hr_y := hr_y.kept hb
      replace hr_t := hr_t.kept hb
      replace hbel := hbel.trans (hb.mono hbel.size)
      clear hb
      go_wp2_with fail
      all_goals (go_ret; exact ⟨rfl, hbel⟩)
    · have hposI : (l_i.length : Int) > 0 := by have := List.length_pos_iff.2 hpos; omega
      clear hpos
      go_wp2_with fail
      go_at_call 39
      refine (impl_Overlaps l_a l_b _ _ _ _ _ hr_p hr_q hl_p hl_q).mono ?_
      rintro e w34 ⟨he, hb⟩
      rw [(HOV.out.trans (decide_eq_true (by omega)) : overR l_a l_b = true)] at he
      subst he
      replace hr_a := hr_a.kept hb
      replace hr_b := hr_b.kept hb
      replace hr_u := hr_u.kept hb
      replace hr_i := hr_i.kept hb
      replace hr_x := hr_x.kept hb
      replace hr_y := hr_y.kept hb
      replace hr_p := hr_p.kept hb
      replace hr_q := hr_q.kept hb
      replace hbel := hbel.trans (hb.mono hbel.size)
      clear hb
      clear hr_p
      clear hr_q
      go_wp2_with fail
      go_at_call 45
      refine ((spec_Union l_a l_b _ _ _ _ _ hr_a hr_b hl_a hl_b).mono fun _ _ => retS_var).mono ?_
      rintro e w35 ⟨l_t, HU_t, a_t, c_t, rfl, hr_t, hb⟩
      replace hr_a := hr_a.kept hb
      replace hr_b := hr_b.kept hb
      replace hr_u := hr_u.kept hb
      replace hr_i := hr_i.kept hb
      replace hr_x := hr_x.kept hb
      replace hr_y := hr_y.kept hb
      replace hbel := hbel.trans (hb.mono hbel.size)
      clear hb
      have hl_t : l_t.length ≤ 2000000 := by rw [HU_t.out]; exact opR_len _ _ _
      go_wp2_with fail
      go_at_call 29
      refine (laws_sameRects l_u l_t _ _ _ _ _ hr_u hr_t hl_u hl_t).mono ?_
      rintro e w36 ⟨he, hb⟩
      rw [decide_eq_true (by rw [HU_u.out, HU_t.out] : l_u = l_t)] at he
      subst he
      replace hr_a := hr_a.kept hb
      replace hr_b := hr_b.kept hb
      replace hr_u := hr_u.kept hb
      replace hr_i := hr_i.kept hb
      replace hr_x := hr_x.kept hb
      replace hr_y := hr_y.kept hb
      replace hr_t := hr_t.kept hb
      replace hbel := hbel.trans (hb.mono hbel.size)
      clear hb
      go_wp2_with fail
      all_goals (go_ret; exact ⟨rfl, hbel⟩)

set_option maxRecDepth 100000 in
theorem lifted (os : Os) (started : os.Started) (H : Type) (enc : TypeId × Value → H) :
    ReturnsInHanded {} Try.checked os 9 .any (Rows.fnBooleanSpec.pre6 enc Try.prog Try.f9 Rows.fnBooleanRow.domain false) (Rows.fnBooleanSpec.post enc Try.prog Try.f9 false true false false) := by
  refine law_lifted (C := Try.checked) (tb := 4) own started (by kernel_rfl) Try.func9 laidOut (by kernel_rfl) Try.underlying4 (by kernel_rfl) rfl
    (ChangeSpec.witness6 (enc := enc) (C := Try.checked) false ⟨#[], #[.slice none 0 0], []⟩ 8 (by kernel_rfl) (by kernel_rfl) (by kernel_rfl) (by kernel_rfl)) ?_
  intro W base args ds ps hval hA hlt
  have hA : DataW.TrodAll enc Try.prog W 0 (fun _ => true) true Try.f9.params.toList args.toList ds ps := hA
  have hval : ∀ (j : Nat) t v, Try.f9.params[j]? = some t → args[j]? = some v → Value.okWide Try.prog W .any base t v := hval
  rw [Try.params9] at hA hval
  obtain ⟨v0, vs0, d0, ds0, p0, q0, hargs, rfl, rfl, h0, r0⟩ := trodAll_cons hA
  obtain ⟨rfl, rfl, rfl⟩ := trodAll_nil r0
  obtain rfl : args = #[v0] := by cases args; simp_all
  refine ⟨rfl, ?_⟩
  obtain ⟨a0, n0, c0, rfl, hl0, hin0⟩ := open_bytes Try.underlying33 (by kernel_rfl) Try.underlying5 (okWide_slice Try.underlying33 (hval 0 33 v0 rfl rfl)) h0
  exact walk n0 c0 a0 hl0 W hin0

theorem proved : Rows.FnBooleanSaid :=
  OpenClaim.holds_of_wide 9 Try.f9 rfl rfl rfl rfl rfl rfl rfl ⟨rfl, rfl, rfl, rfl, rfl⟩ rfl rfl rfl rfl rfl (by kernel_rfl) Try.func9 (by kernel_rfl)
    (of_decide_eq_true (by kernel_rfl)) (by unfold Func.isWrapper; first | (rw [if_pos (by decide +kernel)]; kernel_rfl) | (rw [if_neg (by decide +kernel)]; exact ⟨rfl, rfl⟩))
    (fun os started H enc _ => lifted os started H enc)

#print axioms proved
end Go.Proofs.Ytldgjocjcbhkmaa.lawFnBoolean
