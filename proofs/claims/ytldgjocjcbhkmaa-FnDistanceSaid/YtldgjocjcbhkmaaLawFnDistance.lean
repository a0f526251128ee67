/- The distance of two regions is the least k for which one of them, grown by k, overlaps the other one. No condition. -/
import Derived.Test.YtldgjocjcbhkmaaRows
import Derived.Test.YtldgjocjcbhkmaaFrameB
import Derived.Test.YtldgjocjcbhkmaaDrw4
import Derived.Deep.RegionHeld3
import Derived.Test.YtldgjocjcbhkmaaPln
import Derived.Test.YtldgjocjcbhkmaaRegD
import Derived.Test.YtldgjocjcbhkmaaRegL
import Derived.Test.YtldgjocjcbhkmaaRegO
namespace Go.Proofs.Ytldgjocjcbhkmaa.lawFnDistance
open Go.ChangeShapes Go.WideShapes Go.ChangeAt Go.RowKit Go.Joins

theorem own : ownKnob Try.prog.godebug = none := by kernel_rfl
theorem laidOut : laidOutB Try.prog = true := by kernel_rfl

set_option maxRecDepth 100000 in
set_option maxHeartbeats 3200000 in
theorem walk (n c : Nat) (a : Option Addr) (hn : n ≤ maxLen) (w : World) (hin : InBytes w.heap.size w a n) :
    Calls Try.prog 6 #[.slice a n c] w fun e w' => e = .returned (.bool true) ∧ Below w.heap.size w w' := by
  have hbel := Below.refl w.heap.size w
  by_cases hbig : (n : Int) > 4096
  · go_enter Try.func6, Try.ntmps6
    go_wp2_with fail
    go_at_call 24
    refine (laws_big _ _ _ _).mono ?_
    rintro e w1 ⟨he, rfl⟩
    rw [decide_eq_true hbig] at he
    subst he
    go_wp2_with fail
    go_ret
    exact ⟨rfl, hbel⟩
  · have hn4 : n ≤ 4096 := by omega
    have hn5 : n ≤ 5000 := by omega
    go_enter Try.func6, Try.ntmps6
    go_wp2_with fail
    go_at_call 24
    refine (laws_big _ _ _ _).mono ?_
    rintro e w1 ⟨he, rfl⟩
    rw [decide_eq_false (by omega : ¬ (n : Int) > 4096)] at he
    subst he
    clear hbig
    go_wp2_with fail
    go_at_call 37
    refine (spec_DrawRegionDistance n c a _ hin hn5).mono ?_
    rintro e w1 ⟨l_a, a_a, c_a, l_b, a_b, c_b, rfl, hr_a, hr_b, hl_a, hl_b, hb⟩
    replace hbel := hbel.trans (hb.mono hbel.size)
    clear hb
    cases g_a : isReg l_a
    · have G_a := hide g_a
      clear g_a
      go_wp2_with fail
      go_at_call 32
      refine (spec_IsRegion l_a _ _ _ hr_a hl_a).mono ?_
      rintro e w2 ⟨he, hb⟩
      rw [G_a.out] at he
      subst he
      replace hr_a := hr_a.kept hb
      replace hr_b := hr_b.kept hb
      replace hbel := hbel.trans (hb.mono hbel.size)
      clear hb
      go_wp2_with fail
      all_goals (go_ret; exact ⟨rfl, hbel⟩)
    have G_a := hide g_a
    clear g_a
    cases g_b : isReg l_b
    · have G_b := hide g_b
      clear g_b
      go_wp2_with fail
      go_at_call 32
      refine (spec_IsRegion l_a _ _ _ hr_a hl_a).mono ?_
      rintro e w2 ⟨he, hb⟩
      rw [G_a.out] at he
      subst he
      replace hr_a := hr_a.kept hb
      replace hr_b := hr_b.kept hb
      replace hbel := hbel.trans (hb.mono hbel.size)
      clear hb
      go_wp2_with fail
      go_at_call 32
      refine (spec_IsRegion l_b _ _ _ hr_b hl_b).mono ?_
      rintro e w3 ⟨he, hb⟩
      rw [G_b.out] at he
      subst he
      replace hr_a := hr_a.kept hb
      replace hr_b := hr_b.kept hb
      replace hbel := hbel.trans (hb.mono hbel.size)
      clear hb
      go_wp2_with fail
      all_goals (go_ret; exact ⟨rfl, hbel⟩)
    have G_b := hide g_b
    clear g_b
    by_cases ea : l_a = []
    · subst ea
      go_wp2_with fail
      go_at_call 32
      refine (spec_IsRegion [] _ _ _ hr_a hl_a).mono ?_
      rintro e w2 ⟨he, hb⟩
      rw [G_a.out] at he
      subst he
      replace hr_a := hr_a.kept hb
      replace hr_b := hr_b.kept hb
      replace hbel := hbel.trans (hb.mono hbel.size)
      clear hb
      go_wp2_with fail
      go_at_call 32
      refine (spec_IsRegion l_b _ _ _ hr_b hl_b).mono ?_
      rintro e w3 ⟨he, hb⟩
      rw [G_b.out] at he
      subst he
      replace hr_a := hr_a.kept hb
      replace hr_b := hr_b.kept hb
      replace hbel := hbel.trans (hb.mono hbel.size)
      clear hb
      go_wp2_with fail
      all_goals (go_ret; exact ⟨rfl, hbel⟩)
    have zea : ((l_a.length : Int) == 0) = false := by simp [ea]
    have Hea := hide ea
    clear ea
    by_cases eb : l_b = []
    · subst eb
      go_wp2_with fail
      go_at_call 32
      refine (spec_IsRegion l_a _ _ _ hr_a hl_a).mono ?_
      rintro e w2 ⟨he, hb⟩
      rw [G_a.out] at he
      subst he
      replace hr_a := hr_a.kept hb
      replace hr_b := hr_b.kept hb
      replace hbel := hbel.trans (hb.mono hbel.size)
      clear hb
      go_wp2_with fail
      go_at_call 32
      refine (spec_IsRegion [] _ _ _ hr_b hl_b).mono ?_
      rintro e w3 ⟨he, hb⟩
      rw [G_b.out] at he
      subst he
      replace hr_a := hr_a.kept hb
      replace hr_b := hr_b.kept hb
      replace hbel := hbel.trans (hb.mono hbel.size)
      clear hb
      go_wp2_with fail
      all_goals (go_ret; exact ⟨rfl, hbel⟩)
    have zeb : ((l_b.length : Int) == 0) = false := by simp [eb]
    have Heb := hide eb
    clear eb
    go_wp2_with fail
    go_at_call 32
    refine (spec_IsRegion l_a _ _ _ hr_a hl_a).mono ?_
    rintro e w2 ⟨he, hb⟩
    rw [G_a.out] at he
    subst he
    replace hr_a := hr_a.kept hb
    replace hr_b := hr_b.kept hb
    replace hbel := hbel.trans (hb.mono hbel.size)
    clear hb
    go_wp2_with fail
    go_at_call 32
    refine (spec_IsRegion l_b _ _ _ hr_b hl_b).mono ?_
    rintro e w3 ⟨he, hb⟩
    rw [G_b.out] at he
    subst he
    replace hr_a := hr_a.kept hb
    replace hr_b := hr_b.kept hb
    replace hbel := hbel.trans (hb.mono hbel.size)
    clear hb
    have HN1 := hide (List.length_pos_iff.2 Hea.out)
    have HN2 := hide (List.length_pos_iff.2 Heb.out)
    go_wp2_with fail
    go_at_call 34
    refine ((laws_copyRects l_a _ _ _ hr_a hl_a).mono fun _ _ => retS_var).mono ?_
    rintro e w4 ⟨l_p, HU_p, a_p, c_p, rfl, hr_p, hb⟩
    replace hr_a := hr_a.kept hb
    replace hr_b := hr_b.kept hb
    replace hbel := hbel.trans (hb.mono hbel.size)
    clear hb
    have hl_p : l_p.length ≤ 2000000 := by rw [HU_p.out]; exact hl_a
    have hq := HU_p.out.symm
    subst hq
    clear HU_p
    go_wp2_with fail
    go_at_call 34
    refine ((laws_copyRects l_b _ _ _ hr_b hl_b).mono fun _ _ => retS_var).mono ?_
    rintro e w5 ⟨l_q, HU_q, a_q, c_q, rfl, hr_q, hb⟩
    replace hr_a := hr_a.kept hb
    replace hr_b := hr_b.kept hb
    replace hr_p := hr_p.kept hb
    replace hbel := hbel.trans (hb.mono hbel.size)
    clear hb
    have hl_q : l_q.length ≤ 2000000 := by rw [HU_q.out]; exact hl_b
    have hq := HU_q.out.symm
    subst hq
    clear HU_q
    go_wp2_with fail
    go_at_call 38
    refine (impl_RegionDistance l_a l_b _ _ _ _ _ hr_p hr_q hl_p hl_q).mono ?_
    rintro e w6 ⟨he, hb⟩
    obtain ⟨m, hm⟩ : ∃ m, m = distR l_a l_b := ⟨_, rfl⟩
    rw [← hm] at he
    subst he
    have Hm := hide hm
    clear hm
    replace hr_a := hr_a.kept hb
    replace hr_b := hr_b.kept hb
    replace hr_p := hr_p.kept hb
    replace hr_q := hr_q.kept hb
    replace hbel := hbel.trans (hb.mono hbel.size)
    clear hb
    clear hr_p
    clear hr_q
    go_wp2_with fail
    clear hl_p hl_q
    generalize hw0 : w6 = ws at *
    have HW0 := hide hw0
    clear hw0
    go_loopw [6] (fun s wr => ∃ k : Int, 0 ≤ k ∧ k ≤ 11 ∧ s = .int .i64 k ∧ RectsAt wr.heap.size wr a_a l_a ∧ RectsAt wr.heap.size wr a_b l_b ∧ Below w.heap.size w wr) (fun s _ => (11 - intOf s).toNat)
    case atStart => exact ⟨0, by omega, by omega, rfl, hr_a, hr_b, hbel⟩
    case round =>
      clear hr_a hr_b hbel
      obtain ⟨k, k0, k1, rfl, hr_a, hr_b, hbel⟩ := hrel
      by_cases hy : k ≤ 10
      · have HK := hide (And.intro k0 hy)
        have hov : ∀ g, g = growR k l_a → overR g l_b = decide (m ≤ k) := fun g hg => by rw [hg, Hm.out]; exact distance_eq G_a.out G_b.out HN1.out HN2.out HK.out
        have HOV := hide hov
        clear hov
        by_cases hmk : m ≤ k
        · skip
          go_wp2_with fail
          go_at_call 34
          refine ((laws_copyRects l_a _ _ _ hr_a hl_a).mono fun _ _ => retS_var).mono ?_
          rintro e w7 ⟨l_p, HU_p, a_p, c_p, rfl, hr_p, hb⟩
          replace hr_a := hr_a.kept hb
          replace hr_b := hr_b.kept hb
          replace hbel := hbel.trans (hb.mono hbel.size)
          clear hb
          have hl_p : l_p.length ≤ 2000000 := by rw [HU_p.out]; exact hl_a
          have hq := HU_p.out.symm
          subst hq
          clear HU_p
          go_wp2_with fail
          go_at_call 40
          refine ((impl_Grow l_a k _ _ _ hr_p hl_p).mono fun _ _ => retS_var).mono ?_
          rintro e w8 ⟨l_g, HU_g, a_g, c_g, rfl, hr_g, hb⟩
          replace hr_a := hr_a.kept hb
          replace hr_b := hr_b.kept hb
          replace hr_p := hr_p.kept hb
          replace hbel := hbel.trans (hb.mono hbel.size)
          clear hb
          have hl_g : l_g.length ≤ 2000000 := by rw [HU_g.out]; exact szR_len growG k _
          clear hr_p
          go_wp2_with fail
          go_at_call 34
          refine ((laws_copyRects l_b _ _ _ hr_b hl_b).mono fun _ _ => retS_var).mono ?_
          rintro e w9 ⟨l_q, HU_q, a_q, c_q, rfl, hr_q, hb⟩
          replace hr_a := hr_a.kept hb
          replace hr_b := hr_b.kept hb
          replace hr_g := hr_g.kept hb
          replace hbel := hbel.trans (hb.mono hbel.size)
          clear hb
          have hl_q : l_q.length ≤ 2000000 := by rw [HU_q.out]; exact hl_b
          have hq := HU_q.out.symm
          subst hq
          clear HU_q
          go_wp2_with fail
          go_at_call 39
          refine (impl_Overlaps l_g l_b _ _ _ _ _ hr_g hr_q hl_g hl_q).mono ?_
          rintro e w10 ⟨he, hb⟩
          rw [((HOV.out _ HU_g.out).trans (decide_eq_true hmk) : overR l_g l_b = true)] at he
          subst he
          replace hr_a := hr_a.kept hb
          replace hr_b := hr_b.kept hb
          replace hr_g := hr_g.kept hb
          replace hr_q := hr_q.kept hb
          replace hbel := hbel.trans (hb.mono hbel.size)
          clear hb
          go_wp2_with fail
          go_roundw
          case rel => exact ⟨k + 1, by omega, by omega, by first | rfl | (congr 1; omega), hr_a, hr_b, hbel⟩
          case measure => simp [intOf]; omega
        · skip
          go_wp2_with fail
          go_at_call 34
          refine ((laws_copyRects l_a _ _ _ hr_a hl_a).mono fun _ _ => retS_var).mono ?_
          rintro e w7 ⟨l_p, HU_p, a_p, c_p, rfl, hr_p, hb⟩
          replace hr_a := hr_a.kept hb
          replace hr_b := hr_b.kept hb
          replace hbel := hbel.trans (hb.mono hbel.size)
          clear hb
          have hl_p : l_p.length ≤ 2000000 := by rw [HU_p.out]; exact hl_a
          have hq := HU_p.out.symm
          subst hq
          clear HU_p
          go_wp2_with fail
          go_at_call 40
          refine ((impl_Grow l_a k _ _ _ hr_p hl_p).mono fun _ _ => retS_var).mono ?_
          rintro e w8 ⟨l_g, HU_g, a_g, c_g, rfl, hr_g, hb⟩
          replace hr_a := hr_a.kept hb
          replace hr_b := hr_b.kept hb
          replace hr_p := hr_p.kept hb
          replace hbel := hbel.trans (hb.mono hbel.size)
          clear hb
          have hl_g : l_g.length ≤ 2000000 := by rw [HU_g.out]; exact szR_len growG k _
          clear hr_p
          go_wp2_with fail
          go_at_call 34
          refine ((laws_copyRects l_b _ _ _ hr_b hl_b).mono fun _ _ => retS_var).mono ?_
          rintro e w9 ⟨l_q, HU_q, a_q, c_q, rfl, hr_q, hb⟩
          replace hr_a := hr_a.kept hb
          replace hr_b := hr_b.kept hb
          replace hr_g := hr_g.kept hb
          replace hbel := hbel.trans (hb.mono hbel.size)
          clear hb
          have hl_q : l_q.length ≤ 2000000 := by rw [HU_q.out]; exact hl_b
          have hq := HU_q.out.symm
          subst hq
          clear HU_q
          go_wp2_with fail
          go_at_call 39
          refine (impl_Overlaps l_g l_b _ _ _ _ _ hr_g hr_q hl_g hl_q).mono ?_
          rintro e w10 ⟨he, hb⟩
          rw [((HOV.out _ HU_g.out).trans (decide_eq_false (by omega : ¬ m ≤ k)) : overR l_g l_b = false)] at he
          subst he
          replace hr_a := hr_a.kept hb
          replace hr_b := hr_b.kept hb
          replace hr_g := hr_g.kept hb
          replace hr_q := hr_q.kept hb
          replace hbel := hbel.trans (hb.mono hbel.size)
          clear hb
          go_wp2_with fail
          go_roundw
          case rel => exact ⟨k + 1, by omega, by omega, by first | rfl | (congr 1; omega), hr_a, hr_b, hbel⟩
          case measure => simp [intOf]; omega
      · skip
        have htest : (m == m) = true := by simp
        go_wp2_with fail
        go_at_call 41
        refine (spec_RegionDistance l_a l_b _ _ _ _ _ hr_a hr_b hl_a hl_b).mono ?_
        rintro e w7 ⟨he, hb⟩
        rw [← Hm.out] at he
        subst he
        replace hr_a := hr_a.kept hb
        replace hr_b := hr_b.kept hb
        replace hbel := hbel.trans (hb.mono hbel.size)
        clear hb
        go_wp2_with fail
        all_goals (go_ret; exact ⟨rfl, hbel⟩)

set_option maxRecDepth 100000 in
theorem lifted (os : Os) (started : os.Started) (H : Type) (enc : TypeId × Value → H) :
    ReturnsInHanded {} Try.checked os 6 .any (Rows.fnDistanceSpec.pre6 enc Try.prog Try.f6 Rows.fnDistanceRow.domain false) (Rows.fnDistanceSpec.post enc Try.prog Try.f6 false true false false) := by
  refine law_lifted (C := Try.checked) (tb := 4) own started (by kernel_rfl) Try.func6 laidOut (by kernel_rfl) Try.underlying4 (by kernel_rfl) rfl
    (ChangeSpec.witness6 (enc := enc) (C := Try.checked) false ⟨#[], #[.slice none 0 0], []⟩ 8 (by kernel_rfl) (by kernel_rfl) (by kernel_rfl) (by kernel_rfl)) ?_
  intro W base args ds ps hval hA hlt
  have hA : DataW.TrodAll enc Try.prog W 0 (fun _ => true) true Try.f6.params.toList args.toList ds ps := hA
  have hval : ∀ (j : Nat) t v, Try.f6.params[j]? = some t → args[j]? = some v → Value.okWide Try.prog W .any base t v := hval
  rw [Try.params6] at hA hval
  obtain ⟨v0, vs0, d0, ds0, p0, q0, hargs, rfl, rfl, h0, r0⟩ := trodAll_cons hA
  obtain ⟨rfl, rfl, rfl⟩ := trodAll_nil r0
  obtain rfl : args = #[v0] := by cases args; simp_all
  refine ⟨rfl, ?_⟩
  obtain ⟨a0, n0, c0, rfl, hl0, hin0⟩ := open_bytes Try.underlying33 (by kernel_rfl) Try.underlying5 (okWide_slice Try.underlying33 (hval 0 33 v0 rfl rfl)) h0
  exact walk n0 c0 a0 hl0 W hin0

theorem proved : Rows.FnDistanceSaid :=
  OpenClaim.holds_of_wide 6 Try.f6 rfl rfl rfl rfl rfl rfl rfl ⟨rfl, rfl, rfl, rfl, rfl⟩ rfl rfl rfl rfl rfl (by kernel_rfl) Try.func6 (by kernel_rfl)
    (of_decide_eq_true (by kernel_rfl)) (by unfold Func.isWrapper; first | (rw [if_pos (by decide +kernel)]; kernel_rfl) | (rw [if_neg (by decide +kernel)]; exact ⟨rfl, rfl⟩))
    (fun os started H enc _ => lifted os started H enc)

#print axioms proved
end Go.Proofs.Ytldgjocjcbhkmaa.lawFnDistance
