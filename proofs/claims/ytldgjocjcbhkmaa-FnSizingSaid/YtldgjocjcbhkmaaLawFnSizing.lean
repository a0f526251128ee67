/- Grow(a, k) is covered by b exactly if a is covered by Shrink(b, k). No condition. -/
import Derived.Test.YtldgjocjcbhkmaaRows
import Derived.Test.YtldgjocjcbhkmaaFrameB
import Derived.Test.YtldgjocjcbhkmaaDrw4
import Derived.Deep.RegionHeld3
import Derived.Test.YtldgjocjcbhkmaaPln
import Derived.Test.YtldgjocjcbhkmaaRegL
import Derived.Test.YtldgjocjcbhkmaaRegV
namespace Go.Proofs.Ytldgjocjcbhkmaa.lawFnSizing
open Go.ChangeShapes Go.WideShapes Go.ChangeAt Go.RowKit Go.Joins

theorem own : ownKnob Try.prog.godebug = none := by kernel_rfl
theorem laidOut : laidOutB Try.prog = true := by kernel_rfl

set_option maxRecDepth 100000 in
set_option maxHeartbeats 3200000 in
theorem walk (n c : Nat) (a : Option Addr) (hn : n ≤ maxLen) (w : World) (hin : InBytes w.heap.size w a n) :
    Calls Try.prog 10 #[.slice a n c] w fun e w' => e = .returned (.bool true) ∧ Below w.heap.size w w' := by
  have hbel := Below.refl w.heap.size w
  by_cases hbig : (n : Int) > 4096
  · go_enter Try.func10, Try.ntmps10
    go_wp2_with fail
    go_at_call 24
    refine (laws_big _ _ _ _).mono ?_
    rintro e w1 ⟨he, rfl⟩
    rw [decide_eq_true hbig] at he
    subst he
    go_wp2_with fail
    go_ret
    exact ⟨rfl, hbel⟩
  · have hn4 : n ≤ 4096 := by omega
    have hn5 : n ≤ 5000 := by omega
    go_enter Try.func10, Try.ntmps10
    go_wp2_with fail
    go_at_call 24
    refine (laws_big _ _ _ _).mono ?_
    rintro e w1 ⟨he, rfl⟩
    rw [decide_eq_false (by omega : ¬ (n : Int) > 4096)] at he
    subst he
    clear hbig
    go_wp2_with fail
    go_at_call 54
    refine (spec_DrawGrow n c a _ hin hn5).mono ?_
    rintro e w1 ⟨l_a, a_a, c_a, k, rfl, hr_a, hl_a, hk_lo, hk_hi, hb⟩
    replace hbel := hbel.trans (hb.mono hbel.size)
    clear hb
    go_wp2_with fail
    go_at_call 43
    refine (laws_other n c 9 (by omega) a _ (bytes_at hin hbel) (by omega)).mono ?_
    rintro e w2 ⟨ao, co, rfl, hino, hb⟩
    replace hr_a := hr_a.kept hb
    replace hbel := hbel.trans (hb.mono hbel.size)
    clear hb
    go_wp2_with fail
    go_at_call 42
    refine (spec_DrawUnion (3 + n) co ao _ hino (by omega)).mono ?_
    rintro e w3 ⟨l_b, a_b, c_b, l_b2, a_b2, c_b2, rfl, hr_b, hr_b2, hl_b, hl_b2, hb⟩
    replace hr_a := hr_a.kept hb
    replace hbel := hbel.trans (hb.mono hbel.size)
    clear hb
    clear hr_b2
    cases g_a : isReg l_a
    · have G_a := hide g_a
      clear g_a
      go_wp2_with fail
      go_at_call 32
      refine (spec_IsRegion l_a _ _ _ hr_a hl_a).mono ?_
      rintro e w4 ⟨he, hb⟩
      rw [G_a.out] at he
      subst he
      replace hr_a := hr_a.kept hb
      replace hr_b := hr_b.kept hb
      replace hbel := hbel.trans (hb.mono hbel.size)
      clear hb
      go_wp2_with fail
      all_goals (go_ret; exact ⟨rfl, hbel⟩)
    have G_a := hide g_a
    clear g_a
    cases g_b : isReg l_b
    · have G_b := hide g_b
      clear g_b
      go_wp2_with fail
      go_at_call 32
      refine (spec_IsRegion l_a _ _ _ hr_a hl_a).mono ?_
      rintro e w4 ⟨he, hb⟩
      rw [G_a.out] at he
      subst he
      replace hr_a := hr_a.kept hb
      replace hr_b := hr_b.kept hb
      replace hbel := hbel.trans (hb.mono hbel.size)
      clear hb
      go_wp2_with fail
      go_at_call 32
      refine (spec_IsRegion l_b _ _ _ hr_b hl_b).mono ?_
      rintro e w5 ⟨he, hb⟩
      rw [G_b.out] at he
      subst he
      replace hr_a := hr_a.kept hb
      replace hr_b := hr_b.kept hb
      replace hbel := hbel.trans (hb.mono hbel.size)
      clear hb
      go_wp2_with fail
      all_goals (go_ret; exact ⟨rfl, hbel⟩)
    have G_b := hide g_b
    clear g_b
    by_cases k0 : k < 0
    · skip
      go_wp2_with fail
      go_at_call 32
      refine (spec_IsRegion l_a _ _ _ hr_a hl_a).mono ?_
      rintro e w4 ⟨he, hb⟩
      rw [G_a.out] at he
      subst he
      replace hr_a := hr_a.kept hb
      replace hr_b := hr_b.kept hb
      replace hbel := hbel.trans (hb.mono hbel.size)
      clear hb
      go_wp2_with fail
      go_at_call 32
      refine (spec_IsRegion l_b _ _ _ hr_b hl_b).mono ?_
      rintro e w5 ⟨he, hb⟩
      rw [G_b.out] at he
      subst he
      replace hr_a := hr_a.kept hb
      replace hr_b := hr_b.kept hb
      replace hbel := hbel.trans (hb.mono hbel.size)
      clear hb
      go_wp2_with fail
      all_goals (go_ret; exact ⟨rfl, hbel⟩)
    by_cases k1 : k > 10
    · skip
      go_wp2_with fail
      go_at_call 32
      refine (spec_IsRegion l_a _ _ _ hr_a hl_a).mono ?_
      rintro e w4 ⟨he, hb⟩
      rw [G_a.out] at he
      subst he
      replace hr_a := hr_a.kept hb
      replace hr_b := hr_b.kept hb
      replace hbel := hbel.trans (hb.mono hbel.size)
      clear hb
      go_wp2_with fail
      go_at_call 32
      refine (spec_IsRegion l_b _ _ _ hr_b hl_b).mono ?_
      rintro e w5 ⟨he, hb⟩
      rw [G_b.out] at he
      subst he
      replace hr_a := hr_a.kept hb
      replace hr_b := hr_b.kept hb
      replace hbel := hbel.trans (hb.mono hbel.size)
      clear hb
      go_wp2_with fail
      all_goals (go_ret; exact ⟨rfl, hbel⟩)
    go_wp2_with fail
    go_at_call 32
    refine (spec_IsRegion l_a _ _ _ hr_a hl_a).mono ?_
    rintro e w4 ⟨he, hb⟩
    rw [G_a.out] at he
    subst he
    replace hr_a := hr_a.kept hb
    replace hr_b := hr_b.kept hb
    replace hbel := hbel.trans (hb.mono hbel.size)
    clear hb
    go_wp2_with fail
    go_at_call 32
    refine (spec_IsRegion l_b _ _ _ hr_b hl_b).mono ?_
    rintro e w5 ⟨he, hb⟩
    rw [G_b.out] at he
    subst he
    replace hr_a := hr_a.kept hb
    replace hr_b := hr_b.kept hb
    replace hbel := hbel.trans (hb.mono hbel.size)
    clear hb
    have hk : 0 ≤ k ∧ k ≤ 10 := ⟨by omega, by omega⟩
    have HK := hide hk
    clear hk
    by_cases hev : (n : Int) % 2 = 0
    · skip
      go_wp2_with fail
      go_at_call 55
      refine ((spec_Grow l_a k _ _ _ hr_a hl_a).mono fun _ _ => retS_var).mono ?_
      rintro e w6 ⟨l_ga, HU_ga, a_ga, c_ga, rfl, hr_ga, hb⟩
      replace hr_a := hr_a.kept hb
      replace hr_b := hr_b.kept hb
      replace hbel := hbel.trans (hb.mono hbel.size)
      clear hb
      have hl_ga : l_ga.length ≤ 2000000 := by rw [HU_ga.out]; exact szR_len growG k _
      go_wp2_with fail
      go_at_call 45
      refine ((spec_Union l_b l_ga _ _ _ _ _ hr_b hr_ga hl_b hl_ga).mono fun _ _ => retS_var).mono ?_
      rintro e w7 ⟨l_b3, HU_b3, a_b3, c_b3, rfl, hr_b3, hb⟩
      replace hr_a := hr_a.kept hb
      replace hr_b := hr_b.kept hb
      replace hr_ga := hr_ga.kept hb
      replace hbel := hbel.trans (hb.mono hbel.size)
      clear hb
      have hl_b3 : l_b3.length ≤ 2000000 := by rw [HU_b3.out]; exact opR_len _ _ _
      clear hr_ga
      have hg3 : isReg l_b3 = true := by rw [HU_b3.out, HU_ga.out]; exact op_reg 14 G_b.out (sz_reg growG G_a.out HK.out)
      have G_b3 := hide hg3
      clear hg3
      cases hx : covR l_b3 (growR k l_a)
      · have HX := hide hx
        clear hx
        go_wp2_with fail
        go_at_call 34
        refine ((laws_copyRects l_b3 _ _ _ hr_b3 hl_b3).mono fun _ _ => retS_var).mono ?_
        rintro e w8 ⟨l_q, HU_q, a_q, c_q, rfl, hr_q, hb⟩
        replace hr_a := hr_a.kept hb
        replace hr_b := hr_b.kept hb
        replace hr_b3 := hr_b3.kept hb
        replace hbel := hbel.trans (hb.mono hbel.size)
        clear hb
        have hl_q : l_q.length ≤ 2000000 := by rw [HU_q.out]; exact hl_b3
        have hq := HU_q.out.symm
        subst hq
        clear HU_q
        go_wp2_with fail
        go_at_call 34
        refine ((laws_copyRects l_a _ _ _ hr_a hl_a).mono fun _ _ => retS_var).mono ?_
        rintro e w9 ⟨l_p, HU_p, a_p, c_p, rfl, hr_p, hb⟩
        replace hr_a := hr_a.kept hb
        replace hr_b := hr_b.kept hb
        replace hr_b3 := hr_b3.kept hb
        replace hr_q := hr_q.kept hb
        replace hbel := hbel.trans (hb.mono hbel.size)
        clear hb
        have hl_p : l_p.length ≤ 2000000 := by rw [HU_p.out]; exact hl_a
        have hq := HU_p.out.symm
        subst hq
        clear HU_p
        go_wp2_with fail
        go_at_call 40
        refine ((impl_Grow l_a k _ _ _ hr_p hl_p).mono fun _ _ => retS_var).mono ?_
        rintro e w10 ⟨l_g, HU_g, a_g, c_g, rfl, hr_g, hb⟩
        replace hr_a := hr_a.kept hb
        replace hr_b := hr_b.kept hb
        replace hr_b3 := hr_b3.kept hb
        replace hr_q := hr_q.kept hb
        replace hr_p := hr_p.kept hb
        replace hbel := hbel.trans (hb.mono hbel.size)
        clear hb
        have hl_g : l_g.length ≤ 2000000 := by rw [HU_g.out]; exact szR_len growG k _
        clear hr_p
        go_wp2_with fail
        go_at_call 49
        refine (impl_Covers l_b3 l_g _ _ _ _ _ hr_q hr_g hl_q hl_g).mono ?_
        rintro e w11 ⟨he, hb⟩
        rw [(by rw [HU_g.out]; exact HX.out : covR l_b3 l_g = false)] at he
        subst he
        replace hr_a := hr_a.kept hb
        replace hr_b := hr_b.kept hb
        replace hr_b3 := hr_b3.kept hb
        replace hr_q := hr_q.kept hb
        replace hr_g := hr_g.kept hb
        replace hbel := hbel.trans (hb.mono hbel.size)
        clear hb
        clear hr_q
        clear hr_g
        go_wp2_with fail
        go_at_call 34
        refine ((laws_copyRects l_b3 _ _ _ hr_b3 hl_b3).mono fun _ _ => retS_var).mono ?_
        rintro e w12 ⟨l_q, HU_q, a_q, c_q, rfl, hr_q, hb⟩
        replace hr_a := hr_a.kept hb
        replace hr_b := hr_b.kept hb
        replace hr_b3 := hr_b3.kept hb
        replace hbel := hbel.trans (hb.mono hbel.size)
        clear hb
        have hl_q : l_q.length ≤ 2000000 := by rw [HU_q.out]; exact hl_b3
        have hq := HU_q.out.symm
        subst hq
        clear HU_q
        go_wp2_with fail
        go_at_call 56
        refine ((impl_Shrink l_b3 k _ _ _ hr_q hl_q).mono fun _ _ => retS_var).mono ?_
        rintro e w13 ⟨l_s, HU_s, a_s, c_s, rfl, hr_s, hb⟩
        replace hr_a := hr_a.kept hb
        replace hr_b := hr_b.kept hb
        replace hr_b3 := hr_b3.kept hb
        replace hr_q := hr_q.kept hb
        replace hbel := hbel.trans (hb.mono hbel.size)
        clear hb
        have hl_s : l_s.length ≤ 2000000 := by rw [HU_s.out]; exact szR_len shrinkG k _
        clear hr_q
        go_wp2_with fail
        go_at_call 34
        refine ((laws_copyRects l_a _ _ _ hr_a hl_a).mono fun _ _ => retS_var).mono ?_
        rintro e w14 ⟨l_p, HU_p, a_p, c_p, rfl, hr_p, hb⟩
        replace hr_a := hr_a.kept hb
        replace hr_b := hr_b.kept hb
        replace hr_b3 := hr_b3.kept hb
        replace hr_s := hr_s.kept hb
        replace hbel := hbel.trans (hb.mono hbel.size)
        clear hb
        have hl_p : l_p.length ≤ 2000000 := by rw [HU_p.out]; exact hl_a
        have hq := HU_p.out.symm
        subst hq
        clear HU_p
        go_wp2_with fail
        go_at_call 49
        refine (impl_Covers l_s l_a _ _ _ _ _ hr_s hr_p hl_s hl_p).mono ?_
        rintro e w15 ⟨he, hb⟩
        rw [(by rw [HU_s.out, ← sizing_eq G_a.out G_b3.out HK.out]; exact HX.out : covR l_s l_a = false)] at he
        subst he
        replace hr_a := hr_a.kept hb
        replace hr_b := hr_b.kept hb
        replace hr_b3 := hr_b3.kept hb
        replace hr_s := hr_s.kept hb
        replace hr_p := hr_p.kept hb
        replace hbel := hbel.trans (hb.mono hbel.size)
        clear hb
        clear hr_s
        clear hr_p
        go_wp2_with fail
        go_at_call 55
        refine ((spec_Grow l_a k _ _ _ hr_a hl_a).mono fun _ _ => retS_var).mono ?_
        rintro e w16 ⟨l_h, HU_h, a_h, c_h, rfl, hr_h, hb⟩
        replace hr_a := hr_a.kept hb
        replace hr_b := hr_b.kept hb
        replace hr_b3 := hr_b3.kept hb
        replace hbel := hbel.trans (hb.mono hbel.size)
        clear hb
        have hl_h : l_h.length ≤ 2000000 := by rw [HU_h.out]; exact szR_len growG k _
        go_wp2_with fail
        go_at_call 57
        refine (spec_Covers l_b3 l_h _ _ _ _ _ hr_b3 hr_h hl_b3 hl_h).mono ?_
        rintro e w17 ⟨he, hb⟩
        rw [(by rw [HU_h.out]; exact HX.out : covR l_b3 l_h = false)] at he
        subst he
        replace hr_a := hr_a.kept hb
        replace hr_b := hr_b.kept hb
        replace hr_b3 := hr_b3.kept hb
        replace hr_h := hr_h.kept hb
        replace hbel := hbel.trans (hb.mono hbel.size)
        clear hb
        go_wp2_with fail
        all_goals (go_ret; exact ⟨rfl, hbel⟩)
      · have HX := hide hx
        clear hx
        go_wp2_with fail
        go_at_call 34
        refine ((laws_copyRects l_b3 _ _ _ hr_b3 hl_b3).mono fun _ _ => retS_var).mono ?_
        rintro e w8 ⟨l_q, HU_q, a_q, c_q, rfl, hr_q, hb⟩
        replace hr_a := hr_a.kept hb
        replace hr_b := hr_b.kept hb
        replace hr_b3 := hr_b3.kept hb
        replace hbel := hbel.trans (hb.mono hbel.size)
        clear hb
        have hl_q : l_q.length ≤ 2000000 := by rw [HU_q.out]; exact hl_b3
        have hq := HU_q.out.symm
        subst hq
        clear HU_q
        go_wp2_with fail
        go_at_call 34
        refine ((laws_copyRects l_a _ _ _ hr_a hl_a).mono fun _ _ => retS_var).mono ?_
        rintro e w9 ⟨l_p, HU_p, a_p, c_p, rfl, hr_p, hb⟩
        replace hr_a := hr_a.kept hb
        replace hr_b := hr_b.kept hb
        replace hr_b3 := hr_b3.kept hb
        replace hr_q := hr_q.kept hb
        replace hbel := hbel.trans (hb.mono hbel.size)
        clear hb
        have hl_p : l_p.length ≤ 2000000 := by rw [HU_p.out]; exact hl_a
        have hq := HU_p.out.symm
        subst hq
        clear HU_p
        go_wp2_with fail
        go_at_call 40
        refine ((impl_Grow l_a k _ _ _ hr_p hl_p).mono fun _ _ => retS_var).mono ?_
        rintro e w10 ⟨l_g, HU_g, a_g, c_g, rfl, hr_g, hb⟩
        replace hr_a := hr_a.kept hb
        replace hr_b := hr_b.kept hb
        replace hr_b3 := hr_b3.kept hb
        replace hr_q := hr_q.kept hb
        replace hr_p := hr_p.kept hb
        replace hbel := hbel.trans (hb.mono hbel.size)
        clear hb
        have hl_g : l_g.length ≤ 2000000 := by rw [HU_g.out]; exact szR_len growG k _
        clear hr_p
        go_wp2_with fail
        go_at_call 49
        refine (impl_Covers l_b3 l_g _ _ _ _ _ hr_q hr_g hl_q hl_g).mono ?_
        rintro e w11 ⟨he, hb⟩
        rw [(by rw [HU_g.out]; exact HX.out : covR l_b3 l_g = true)] at he
        subst he
        replace hr_a := hr_a.kept hb
        replace hr_b := hr_b.kept hb
        replace hr_b3 := hr_b3.kept hb
        replace hr_q := hr_q.kept hb
        replace hr_g := hr_g.kept hb
        replace hbel := hbel.trans (hb.mono hbel.size)
        clear hb
        clear hr_q
        clear hr_g
        go_wp2_with fail
        go_at_call 34
        refine ((laws_copyRects l_b3 _ _ _ hr_b3 hl_b3).mono fun _ _ => retS_var).mono ?_
        rintro e w12 ⟨l_q, HU_q, a_q, c_q, rfl, hr_q, hb⟩
        replace hr_a := hr_a.kept hb
        replace hr_b := hr_b.kept hb
        replace hr_b3 := hr_b3.kept hb
        replace hbel := hbel.trans (hb.mono hbel.size)
        clear hb
        have hl_q : l_q.length ≤ 2000000 := by rw [HU_q.out]; exact hl_b3
        have hq := HU_q.out.symm
        subst hq
        clear HU_q
        go_wp2_with fail
        go_at_call 56
        refine ((impl_Shrink l_b3 k _ _ _ hr_q hl_q).mono fun _ _ => retS_var).mono ?_
        rintro e w13 ⟨l_s, HU_s, a_s, c_s, rfl, hr_s, hb⟩
        replace hr_a := hr_a.kept hb
        replace hr_b := hr_b.kept hb
        replace hr_b3 := hr_b3.kept hb
        replace hr_q := hr_q.kept hb
        replace hbel := hbel.trans (hb.mono hbel.size)
        clear hb
        have hl_s : l_s.length ≤ 2000000 := by rw [HU_s.out]; exact szR_len shrinkG k _
        clear hr_q
        go_wp2_with fail
        go_at_call 34
        refine ((laws_copyRects l_a _ _ _ hr_a hl_a).mono fun _ _ => retS_var).mono ?_
        rintro e w14 ⟨l_p, HU_p, a_p, c_p, rfl, hr_p, hb⟩
        replace hr_a := hr_a.kept hb
        replace hr_b := hr_b.kept hb
        replace hr_b3 := hr_b3.kept hb
        replace hr_s := hr_s.kept hb
        replace hbel := hbel.trans (hb.mono hbel.size)
        clear hb
        have hl_p : l_p.length ≤ 2000000 := by rw [HU_p.out]; exact hl_a
        have hq := HU_p.out.symm
        subst hq
        clear HU_p
        go_wp2_with fail
        go_at_call 49
        refine (impl_Covers l_s l_a _ _ _ _ _ hr_s hr_p hl_s hl_p).mono ?_
        rintro e w15 ⟨he, hb⟩
        rw [(by rw [HU_s.out, ← sizing_eq G_a.out G_b3.out HK.out]; exact HX.out : covR l_s l_a = true)] at he
        subst he
        replace hr_a := hr_a.kept hb
        replace hr_b := hr_b.kept hb
        replace hr_b3 := hr_b3.kept hb
        replace hr_s := hr_s.kept hb
        replace hr_p := hr_p.kept hb
        replace hbel := hbel.trans (hb.mono hbel.size)
        clear hb
        clear hr_s
        clear hr_p
        go_wp2_with fail
        go_at_call 55
        refine ((spec_Grow l_a k _ _ _ hr_a hl_a).mono fun _ _ => retS_var).mono ?_
        rintro e w16 ⟨l_h, HU_h, a_h, c_h, rfl, hr_h, hb⟩
        replace hr_a := hr_a.kept hb
        replace hr_b := hr_b.kept hb
        replace hr_b3 := hr_b3.kept hb
        replace hbel := hbel.trans (hb.mono hbel.size)
        clear hb
        have hl_h : l_h.length ≤ 2000000 := by rw [HU_h.out]; exact szR_len growG k _
        go_wp2_with fail
        go_at_call 57
        refine (spec_Covers l_b3 l_h _ _ _ _ _ hr_b3 hr_h hl_b3 hl_h).mono ?_
        rintro e w17 ⟨he, hb⟩
        rw [(by rw [HU_h.out]; exact HX.out : covR l_b3 l_h = true)] at he
        subst he
        replace hr_a := hr_a.kept hb
        replace hr_b := hr_b.kept hb
        replace hr_b3 := hr_b3.kept hb
        replace hr_h := hr_h.kept hb
        replace hbel := hbel.trans (hb.mono hbel.size)
        clear hb
        go_wp2_with fail
        all_goals (go_ret; exact ⟨rfl, hbel⟩)
    · skip
      cases hx : covR l_b (growR k l_a)
      · have HX := hide hx
        clear hx
        go_wp2_with fail
        go_at_call 34
        refine ((laws_copyRects l_b _ _ _ hr_b hl_b).mono fun _ _ => retS_var).mono ?_
        rintro e w6 ⟨l_q, HU_q, a_q, c_q, rfl, hr_q, hb⟩
        replace hr_a := hr_a.kept hb
        replace hr_b := hr_b.kept hb
        replace hbel := hbel.trans (hb.mono hbel.size)
        clear hb
        have hl_q : l_q.length ≤ 2000000 := by rw [HU_q.out]; exact hl_b
        have hq := HU_q.out.symm
        subst hq
        clear HU_q
        go_wp2_with fail
        go_at_call 34
        refine ((laws_copyRects l_a _ _ _ hr_a hl_a).mono fun _ _ => retS_var).mono ?_
        rintro e w7 ⟨l_p, HU_p, a_p, c_p, rfl, hr_p, hb⟩
        replace hr_a := hr_a.kept hb
        replace hr_b := hr_b.kept hb
        replace hr_q := hr_q.kept hb
        replace hbel := hbel.trans (hb.mono hbel.size)
        clear hb
        have hl_p : l_p.length ≤ 2000000 := by rw [HU_p.out]; exact hl_a
        have hq := HU_p.out.symm
        subst hq
        clear HU_p
        go_wp2_with fail
        go_at_call 40
        refine ((impl_Grow l_a k _ _ _ hr_p hl_p).mono fun _ _ => retS_var).mono ?_
        rintro e w8 ⟨l_g, HU_g, a_g, c_g, rfl, hr_g, hb⟩
        replace hr_a := hr_a.kept hb
        replace hr_b := hr_b.kept hb
        replace hr_q := hr_q.kept hb
        replace hr_p := hr_p.kept hb
        replace hbel := hbel.trans (hb.mono hbel.size)
        clear hb
        have hl_g : l_g.length ≤ 2000000 := by rw [HU_g.out]; exact szR_len growG k _
        clear hr_p
        go_wp2_with fail
        go_at_call 49
        refine (impl_Covers l_b l_g _ _ _ _ _ hr_q hr_g hl_q hl_g).mono ?_
        rintro e w9 ⟨he, hb⟩
        rw [(by rw [HU_g.out]; exact HX.out : covR l_b l_g = false)] at he
        subst he
        replace hr_a := hr_a.kept hb
        replace hr_b := hr_b.kept hb
        replace hr_q := hr_q.kept hb
        replace hr_g := hr_g.kept hb
        replace hbel := hbel.trans (hb.mono hbel.size)
        clear hb
        clear hr_q
        clear hr_g
        go_wp2_with fail
        go_at_call 34
        refine ((laws_copyRects l_b _ _ _ hr_b hl_b).mono fun _ _ => retS_var).mono ?_
        rintro e w10 ⟨l_q, HU_q, a_q, c_q, rfl, hr_q, hb⟩
        replace hr_a := hr_a.kept hb
        replace hr_b := hr_b.kept hb
        replace hbel := hbel.trans (hb.mono hbel.size)
        clear hb
        have hl_q : l_q.length ≤ 2000000 := by rw [HU_q.out]; exact hl_b
        have hq := HU_q.out.symm
        subst hq
        clear HU_q
        go_wp2_with fail
        go_at_call 56
        refine ((impl_Shrink l_b k _ _ _ hr_q hl_q).mono fun _ _ => retS_var).mono ?_
        rintro e w11 ⟨l_s, HU_s, a_s, c_s, rfl, hr_s, hb⟩
        replace hr_a := hr_a.kept hb
        replace hr_b := hr_b.kept hb
        replace hr_q := hr_q.kept hb
        replace hbel := hbel.trans (hb.mono hbel.size)
        clear hb
        have hl_s : l_s.length ≤ 2000000 := by rw [HU_s.out]; exact szR_len shrinkG k _
        clear hr_q
        go_wp2_with fail
        go_at_call 34
        refine ((laws_copyRects l_a _ _ _ hr_a hl_a).mono fun _ _ => retS_var).mono ?_
        rintro e w12 ⟨l_p, HU_p, a_p, c_p, rfl, hr_p, hb⟩
        replace hr_a := hr_a.kept hb
        replace hr_b := hr_b.kept hb
        replace hr_s := hr_s.kept hb
        replace hbel := hbel.trans (hb.mono hbel.size)
        clear hb
        have hl_p : l_p.length ≤ 2000000 := by rw [HU_p.out]; exact hl_a
        have hq := HU_p.out.symm
        subst hq
        clear HU_p
        go_wp2_with fail
        go_at_call 49
        refine (impl_Covers l_s l_a _ _ _ _ _ hr_s hr_p hl_s hl_p).mono ?_
        rintro e w13 ⟨he, hb⟩
        rw [(by rw [HU_s.out, ← sizing_eq G_a.out G_b.out HK.out]; exact HX.out : covR l_s l_a = false)] at he
        subst he
        replace hr_a := hr_a.kept hb
        replace hr_b := hr_b.kept hb
        replace hr_s := hr_s.kept hb
        replace hr_p := hr_p.kept hb
        replace hbel := hbel.trans (hb.mono hbel.size)
        clear hb
        clear hr_s
        clear hr_p
        go_wp2_with fail
        go_at_call 55
        refine ((spec_Grow l_a k _ _ _ hr_a hl_a).mono fun _ _ => retS_var).mono ?_
        rintro e w14 ⟨l_h, HU_h, a_h, c_h, rfl, hr_h, hb⟩
        replace hr_a := hr_a.kept hb
        replace hr_b := hr_b.kept hb
        replace hbel := hbel.trans (hb.mono hbel.size)
        clear hb
        have hl_h : l_h.length ≤ 2000000 := by rw [HU_h.out]; exact szR_len growG k _
        go_wp2_with fail
        go_at_call 57
        refine (spec_Covers l_b l_h _ _ _ _ _ hr_b hr_h hl_b hl_h).mono ?_
        rintro e w15 ⟨he, hb⟩
        rw [(by rw [HU_h.out]; exact HX.out : covR l_b l_h = false)] at he
        subst he
        replace hr_a := hr_a.kept hb
        replace hr_b := hr_b.kept hb
        replace hr_h := hr_h.kept hb
        replace hbel := hbel.trans (hb.mono hbel.size)
        clear hb
        go_wp2_with fail
        all_goals (go_ret; exact ⟨rfl, hbel⟩)
      · have HX := hide hx
        clear hx
        go_wp2_with fail
        go_at_call 34
        refine ((laws_copyRects l_b _ _ _ hr_b hl_b).mono fun _ _ => retS_var).mono ?_
        rintro e w6 ⟨l_q, HU_q, a_q, c_q, rfl, hr_q, hb⟩
        replace hr_a := hr_a.kept hb
        replace hr_b := hr_b.kept hb
        replace hbel := hbel.trans (hb.mono hbel.size)
        clear hb
        have hl_q : l_q.length ≤ 2000000 := by rw [HU_q.out]; exact hl_b
        have hq := HU_q.out.symm
        subst hq
        clear HU_q
        go_wp2_with fail
        go_at_call 34
        refine ((laws_copyRects l_a _ _ _ hr_a hl_a).mono fun _ _ => retS_var).mono ?_
        rintro e w7 ⟨l_p, HU_p, a_p, c_p, rfl, hr_p, hb⟩
        replace hr_a := hr_a.kept hb
        replace hr_b := hr_b.kept hb
        replace hr_q := hr_q.kept hb
        replace hbel := hbel.trans (hb.mono hbel.size)
        clear hb
        have hl_p : l_p.length ≤ 2000000 := by rw [HU_p.out]; exact hl_a
        have hq := HU_p.out.symm
        subst hq
        clear HU_p
        go_wp2_with fail
        go_at_call 40
        refine ((impl_Grow l_a k _ _ _ hr_p hl_p).mono fun _ _ => retS_var).mono ?_
        rintro e w8 ⟨l_g, HU_g, a_g, c_g, rfl, hr_g, hb⟩
        replace hr_a := hr_a.kept hb
        replace hr_b := hr_b.kept hb
        replace hr_q := hr_q.kept hb
        replace hr_p := hr_p.kept hb
        replace hbel := hbel.trans (hb.mono hbel.size)
        clear hb
        have hl_g : l_g.length ≤ 2000000 := by rw [HU_g.out]; exact szR_len growG k _
        clear hr_p
        go_wp2_with fail
        go_at_call 49
        refine (impl_Covers l_b l_g _ _ _ _ _ hr_q hr_g hl_q hl_g).mono ?_
        rintro e w9 ⟨he, hb⟩
        rw [(by rw [HU_g.out]; exact HX.out : covR l_b l_g = true)] at he
        subst he
        replace hr_a := hr_a.kept hb
        replace hr_b := hr_b.kept hb
        replace hr_q := hr_q.kept hb
        replace hr_g := hr_g.kept hb
        replace hbel := hbel.trans (hb.mono hbel.size)
        clear hb
        clear hr_q
        clear hr_g
        go_wp2_with fail
        go_at_call 34
        refine ((laws_copyRects l_b _ _ _ hr_b hl_b).mono fun _ _ => retS_var).mono ?_
        rintro e w10 ⟨l_q, HU_q, a_q, c_q, rfl, hr_q, hb⟩
        replace hr_a := hr_a.kept hb
        replace hr_b := hr_b.kept hb
        replace hbel := hbel.trans (hb.mono hbel.size)
        clear hb
        have hl_q : l_q.length ≤ 2000000 := by rw [HU_q.out]; exact hl_b
        have hq := HU_q.out.symm
        subst hq
        clear HU_q
        go_wp2_with fail
        go_at_call 56
        refine ((impl_Shrink l_b k _ _ _ hr_q hl_q).mono fun _ _ => retS_var).mono ?_
        rintro e w11 ⟨l_s, HU_s, a_s, c_s, rfl, hr_s, hb⟩
        replace hr_a := hr_a.kept hb
        replace hr_b := hr_b.kept hb
        replace hr_q := hr_q.kept hb
        replace hbel := hbel.trans (hb.mono hbel.size)
        clear hb
        have hl_s : l_s.length ≤ 2000000 := by rw [HU_s.out]; exact szR_len shrinkG k _
        clear hr_q
        go_wp2_with fail
        go_at_call 34
        refine ((laws_copyRects l_a _ _ _ hr_a hl_a).mono fun _ _ => retS_var).mono ?_
        rintro e w12 ⟨l_p, HU_p, a_p, c_p, rfl, hr_p, hb⟩
        replace hr_a := hr_a.kept hb
        replace hr_b := hr_b.kept hb
        replace hr_s := hr_s.kept hb
        replace hbel := hbel.trans (hb.mono hbel.size)
        clear hb
        have hl_p : l_p.length ≤ 2000000 := by rw [HU_p.out]; exact hl_a
        have hq := HU_p.out.symm
        subst hq
        clear HU_p
        go_wp2_with fail
        go_at_call 49
        refine (impl_Covers l_s l_a _ _ _ _ _ hr_s hr_p hl_s hl_p).mono ?_
        rintro e w13 ⟨he, hb⟩
        rw [(by rw [HU_s.out, ← sizing_eq G_a.out G_b.out HK.out]; exact HX.out : covR l_s l_a = true)] at he
        subst he
        replace hr_a := hr_a.kept hb
        replace hr_b := hr_b.kept hb
        replace hr_s := hr_s.kept hb
        replace hr_p := hr_p.kept hb
        replace hbel := hbel.trans (hb.mono hbel.size)
        clear hb
        clear hr_s
        clear hr_p
        go_wp2_with fail
        go_at_call 55
        refine ((spec_Grow l_a k _ _ _ hr_a hl_a).mono fun _ _ => retS_var).mono ?_
        rintro e w14 ⟨l_h, HU_h, a_h, c_h, rfl, hr_h, hb⟩
        replace hr_a := hr_a.kept hb
        replace hr_b := hr_b.kept hb
        replace hbel := hbel.trans (hb.mono hbel.size)
        clear hb
        have hl_h : l_h.length ≤ 2000000 := by rw [HU_h.out]; exact szR_len growG k _
        go_wp2_with fail
        go_at_call 57
        refine (spec_Covers l_b l_h _ _ _ _ _ hr_b hr_h hl_b hl_h).mono ?_
        rintro e w15 ⟨he, hb⟩
        rw [(by rw [HU_h.out]; exact HX.out : covR l_b l_h = true)] at he
        subst he
        replace hr_a := hr_a.kept hb
        replace hr_b := hr_b.kept hb
        replace hr_h := hr_h.kept hb
        replace hbel := hbel.trans (hb.mono hbel.size)
        clear hb
        go_wp2_with fail
        all_goals (go_ret; exact ⟨rfl, hbel⟩)

set_option maxRecDepth 100000 in
theorem lifted (os : Os) (started : os.Started) (H : Type) (enc : TypeId × Value → H) :
    ReturnsInHanded {} Try.checked os 10 .any (Rows.fnSizingSpec.pre6 enc Try.prog Try.f10 Rows.fnSizingRow.domain false) (Rows.fnSizingSpec.post enc Try.prog Try.f10 false true false false) := by
  refine law_lifted (C := Try.checked) (tb := 4) own started (by kernel_rfl) Try.func10 laidOut (by kernel_rfl) Try.underlying4 (by kernel_rfl) rfl
    (ChangeSpec.witness6 (enc := enc) (C := Try.checked) false ⟨#[], #[.slice none 0 0], []⟩ 8 (by kernel_rfl) (by kernel_rfl) (by kernel_rfl) (by kernel_rfl)) ?_
  intro W base args ds ps hval hA hlt
  have hA : DataW.TrodAll enc Try.prog W 0 (fun _ => true) true Try.f10.params.toList args.toList ds ps := hA
  have hval : ∀ (j : Nat) t v, Try.f10.params[j]? = some t → args[j]? = some v → Value.okWide Try.prog W .any base t v := hval
  rw [Try.params10] at hA hval
  obtain ⟨v0, vs0, d0, ds0, p0, q0, hargs, rfl, rfl, h0, r0⟩ := trodAll_cons hA
  obtain ⟨rfl, rfl, rfl⟩ := trodAll_nil r0
  obtain rfl : args = #[v0] := by cases args; simp_all
  refine ⟨rfl, ?_⟩
  obtain ⟨a0, n0, c0, rfl, hl0, hin0⟩ := open_bytes Try.underlying33 (by kernel_rfl) Try.underlying5 (okWide_slice Try.underlying33 (hval 0 33 v0 rfl rfl)) h0
  exact walk n0 c0 a0 hl0 W hin0

theorem proved : Rows.FnSizingSaid :=
  OpenClaim.holds_of_wide 10 Try.f10 rfl rfl rfl rfl rfl rfl rfl ⟨rfl, rfl, rfl, rfl, rfl⟩ rfl rfl rfl rfl rfl (by kernel_rfl) Try.func10 (by kernel_rfl)
    (of_decide_eq_true (by kernel_rfl)) (by unfold Func.isWrapper; first | (rw [if_pos (by decide +kernel)]; kernel_rfl) | (rw [if_neg (by decide +kernel)]; exact ⟨rfl, rfl⟩))
    (fun os started H enc _ => lifted os started H enc)

#print axioms proved
end Go.Proofs.Ytldgjocjcbhkmaa.lawFnSizing
