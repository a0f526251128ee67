/- An opening is covered by the region and is its own opening; a closing covers the region and is its own closing. No condition. -/
import Derived.Test.YtldgjocjcbhkmaaRows
import Derived.Test.YtldgjocjcbhkmaaFrameB
import Derived.Test.YtldgjocjcbhkmaaDrw4
import Derived.Deep.RegionHeld3
import Derived.Test.YtldgjocjcbhkmaaPln
import Derived.Test.YtldgjocjcbhkmaaRegL
import Derived.Test.YtldgjocjcbhkmaaRegV
namespace Go.Proofs.Ytldgjocjcbhkmaa.lawFnOpening
open Go.ChangeShapes Go.WideShapes Go.ChangeAt Go.RowKit Go.Joins

theorem own : ownKnob Try.prog.godebug = none := by kernel_rfl
theorem laidOut : laidOutB Try.prog = true := by kernel_rfl

set_option maxRecDepth 100000 in
set_option maxHeartbeats 3200000 in
theorem walk (n c : Nat) (a : Option Addr) (hn : n ≤ maxLen) (w : World) (hin : InBytes w.heap.size w a n) :
    Calls Try.prog 8 #[.slice a n c] w fun e w' => e = .returned (.bool true) ∧ Below w.heap.size w w' := by
  have hbel := Below.refl w.heap.size w
  by_cases hbig : (n : Int) > 4096
  · go_enter Try.func8, Try.ntmps8
    go_wp2_with fail
    go_at_call 24
    refine (laws_big _ _ _ _).mono ?_
    rintro e w1 ⟨he, rfl⟩
    rw [decide_eq_true hbig] at he
    subst he
    go_wp2_with fail
    go_ret
    exact ⟨rfl, hbel⟩
  · have hn4 : n ≤ 4096 := by omega
    have hn5 : n ≤ 5000 := by omega
    go_enter Try.func8, Try.ntmps8
    go_wp2_with fail
    go_at_call 24
    refine (laws_big _ _ _ _).mono ?_
    rintro e w1 ⟨he, rfl⟩
    rw [decide_eq_false (by omega : ¬ (n : Int) > 4096)] at he
    subst he
    clear hbig
    go_wp2_with fail
    go_at_call 46
    refine (spec_DrawOpening n c a _ hin hn5).mono ?_
    rintro e w1 ⟨l_r, a_r, c_r, k, rfl, hr_r, hl_r, hk_lo, hk_hi, hb⟩
    replace hbel := hbel.trans (hb.mono hbel.size)
    clear hb
    cases g_r : isReg l_r
    · have G_r := hide g_r
      clear g_r
      go_wp2_with fail
      go_at_call 32
      refine (spec_IsRegion l_r _ _ _ hr_r hl_r).mono ?_
      rintro e w2 ⟨he, hb⟩
      rw [G_r.out] at he
      subst he
      replace hr_r := hr_r.kept hb
      replace hbel := hbel.trans (hb.mono hbel.size)
      clear hb
      go_wp2_with fail
      all_goals (go_ret; exact ⟨rfl, hbel⟩)
    have G_r := hide g_r
    clear g_r
    by_cases k0 : k < 0
    · skip
      go_wp2_with fail
      go_at_call 32
      refine (spec_IsRegion l_r _ _ _ hr_r hl_r).mono ?_
      rintro e w2 ⟨he, hb⟩
      rw [G_r.out] at he
      subst he
      replace hr_r := hr_r.kept hb
      replace hbel := hbel.trans (hb.mono hbel.size)
      clear hb
      go_wp2_with fail
      all_goals (go_ret; exact ⟨rfl, hbel⟩)
    by_cases k1 : k > 10
    · skip
      go_wp2_with fail
      go_at_call 32
      refine (spec_IsRegion l_r _ _ _ hr_r hl_r).mono ?_
      rintro e w2 ⟨he, hb⟩
      rw [G_r.out] at he
      subst he
      replace hr_r := hr_r.kept hb
      replace hbel := hbel.trans (hb.mono hbel.size)
      clear hb
      go_wp2_with fail
      all_goals (go_ret; exact ⟨rfl, hbel⟩)
    go_wp2_with fail
    go_at_call 32
    refine (spec_IsRegion l_r _ _ _ hr_r hl_r).mono ?_
    rintro e w2 ⟨he, hb⟩
    rw [G_r.out] at he
    subst he
    replace hr_r := hr_r.kept hb
    replace hbel := hbel.trans (hb.mono hbel.size)
    clear hb
    have hk : 0 ≤ k ∧ k ≤ 10 := ⟨by omega, by omega⟩
    have HK := hide hk
    clear hk
    go_wp2_with fail
    go_at_call 34
    refine ((laws_copyRects l_r _ _ _ hr_r hl_r).mono fun _ _ => retS_var).mono ?_
    rintro e w3 ⟨l_p, HU_p, a_p, c_p, rfl, hr_p, hb⟩
    replace hr_r := hr_r.kept hb
    replace hbel := hbel.trans (hb.mono hbel.size)
    clear hb
    have hl_p : l_p.length ≤ 2000000 := by rw [HU_p.out]; exact hl_r
    have hq := HU_p.out.symm
    subst hq
    clear HU_p
    go_wp2_with fail
    go_at_call 47
    refine ((impl_Opening l_r k _ _ _ hr_p hl_p).mono fun _ _ => retS_var).mono ?_
    rintro e w4 ⟨l_o, HU_o, a_o, c_o, rfl, hr_o, hb⟩
    replace hr_r := hr_r.kept hb
    replace hr_p := hr_p.kept hb
    replace hbel := hbel.trans (hb.mono hbel.size)
    clear hb
    have hl_o : l_o.length ≤ 2000000 := by rw [HU_o.out]; exact szR_len openG k _
    clear hr_p
    go_wp2_with fail
    go_at_call 34
    refine ((laws_copyRects l_r _ _ _ hr_r hl_r).mono fun _ _ => retS_var).mono ?_
    rintro e w5 ⟨l_p, HU_p, a_p, c_p, rfl, hr_p, hb⟩
    replace hr_r := hr_r.kept hb
    replace hr_o := hr_o.kept hb
    replace hbel := hbel.trans (hb.mono hbel.size)
    clear hb
    have hl_p : l_p.length ≤ 2000000 := by rw [HU_p.out]; exact hl_r
    have hq := HU_p.out.symm
    subst hq
    clear HU_p
    go_wp2_with fail
    go_at_call 48
    refine ((impl_Closing l_r k _ _ _ hr_p hl_p).mono fun _ _ => retS_var).mono ?_
    rintro e w6 ⟨l_z, HU_z, a_z, c_z, rfl, hr_z, hb⟩
    replace hr_r := hr_r.kept hb
    replace hr_o := hr_o.kept hb
    replace hr_p := hr_p.kept hb
    replace hbel := hbel.trans (hb.mono hbel.size)
    clear hb
    have hl_z : l_z.length ≤ 2000000 := by rw [HU_z.out]; exact szR_len closeG k _
    clear hr_p
    go_wp2_with fail
    go_at_call 34
    refine ((laws_copyRects l_r _ _ _ hr_r hl_r).mono fun _ _ => retS_var).mono ?_
    rintro e w7 ⟨l_p, HU_p, a_p, c_p, rfl, hr_p, hb⟩
    replace hr_r := hr_r.kept hb
    replace hr_o := hr_o.kept hb
    replace hr_z := hr_z.kept hb
    replace hbel := hbel.trans (hb.mono hbel.size)
    clear hb
    have hl_p : l_p.length ≤ 2000000 := by rw [HU_p.out]; exact hl_r
    have hq := HU_p.out.symm
    subst hq
    clear HU_p
    go_wp2_with fail
    go_at_call 49
    refine (impl_Covers l_r l_o _ _ _ _ _ hr_p hr_o hl_p hl_o).mono ?_
    rintro e w8 ⟨he, hb⟩
    rw [(by rw [HU_o.out]; exact open_cov G_r.out HK.out : covR l_r l_o = true)] at he
    subst he
    replace hr_r := hr_r.kept hb
    replace hr_o := hr_o.kept hb
    replace hr_z := hr_z.kept hb
    replace hr_p := hr_p.kept hb
    replace hbel := hbel.trans (hb.mono hbel.size)
    clear hb
    clear hr_p
    go_wp2_with fail
    go_at_call 34
    refine ((laws_copyRects l_r _ _ _ hr_r hl_r).mono fun _ _ => retS_var).mono ?_
    rintro e w9 ⟨l_p, HU_p, a_p, c_p, rfl, hr_p, hb⟩
    replace hr_r := hr_r.kept hb
    replace hr_o := hr_o.kept hb
    replace hr_z := hr_z.kept hb
    replace hbel := hbel.trans (hb.mono hbel.size)
    clear hb
    have hl_p : l_p.length ≤ 2000000 := by rw [HU_p.out]; exact hl_r
    have hq := HU_p.out.symm
    subst hq
    clear HU_p
    go_wp2_with fail
    go_at_call 49
    refine (impl_Covers l_z l_r _ _ _ _ _ hr_z hr_p hl_z hl_p).mono ?_
    rintro e w10 ⟨he, hb⟩
    rw [(by rw [HU_z.out]; exact cov_close G_r.out HK.out : covR l_z l_r = true)] at he
    subst he
    replace hr_r := hr_r.kept hb
    replace hr_o := hr_o.kept hb
    replace hr_z := hr_z.kept hb
    replace hr_p := hr_p.kept hb
    replace hbel := hbel.trans (hb.mono hbel.size)
    clear hb
    clear hr_p
    go_wp2_with fail
    go_at_call 47
    refine ((impl_Opening l_o k _ _ _ hr_o hl_o).mono fun _ _ => retS_var).mono ?_
    rintro e w11 ⟨l_q, HU_q, a_q, c_q, rfl, hr_q, hb⟩
    replace hr_r := hr_r.kept hb
    replace hr_o := hr_o.kept hb
    replace hr_z := hr_z.kept hb
    replace hbel := hbel.trans (hb.mono hbel.size)
    clear hb
    have hl_q : l_q.length ≤ 2000000 := by rw [HU_q.out]; exact szR_len openG k _
    go_wp2_with fail
    go_at_call 29
    refine (laws_sameRects l_q l_o _ _ _ _ _ hr_q hr_o hl_q hl_o).mono ?_
    rintro e w12 ⟨he, hb⟩
    rw [decide_eq_true (by rw [HU_q.out, HU_o.out]; exact open_again G_r.out HK.out : l_q = l_o)] at he
    subst he
    replace hr_r := hr_r.kept hb
    replace hr_o := hr_o.kept hb
    replace hr_z := hr_z.kept hb
    replace hr_q := hr_q.kept hb
    replace hbel := hbel.trans (hb.mono hbel.size)
    clear hb
    clear hr_q
    go_wp2_with fail
    go_at_call 48
    refine ((impl_Closing l_z k _ _ _ hr_z hl_z).mono fun _ _ => retS_var).mono ?_
    rintro e w13 ⟨l_q, HU_q, a_q, c_q, rfl, hr_q, hb⟩
    replace hr_r := hr_r.kept hb
    replace hr_o := hr_o.kept hb
    replace hr_z := hr_z.kept hb
    replace hbel := hbel.trans (hb.mono hbel.size)
    clear hb
    have hl_q : l_q.length ≤ 2000000 := by rw [HU_q.out]; exact szR_len closeG k _
    go_wp2_with fail
    go_at_call 29
    refine (laws_sameRects l_q l_z _ _ _ _ _ hr_q hr_z hl_q hl_z).mono ?_
    rintro e w14 ⟨he, hb⟩
    rw [decide_eq_true (by rw [HU_q.out, HU_z.out]; exact close_again G_r.out HK.out : l_q = l_z)] at he
    subst he
    replace hr_r := hr_r.kept hb
    replace hr_o := hr_o.kept hb
    replace hr_z := hr_z.kept hb
    replace hr_q := hr_q.kept hb
    replace hbel := hbel.trans (hb.mono hbel.size)
    clear hb
    clear hr_q
    go_wp2_with fail
    go_at_call 50
    refine ((spec_Opening l_r k _ _ _ hr_r hl_r).mono fun _ _ => retS_var).mono ?_
    rintro e w15 ⟨l_q, HU_q, a_q, c_q, rfl, hr_q, hb⟩
    replace hr_r := hr_r.kept hb
    replace hr_o := hr_o.kept hb
    replace hr_z := hr_z.kept hb
    replace hbel := hbel.trans (hb.mono hbel.size)
    clear hb
    have hl_q : l_q.length ≤ 2000000 := by rw [HU_q.out]; exact szR_len openG k _
    go_wp2_with fail
    go_at_call 29
    refine (laws_sameRects l_o l_q _ _ _ _ _ hr_o hr_q hl_o hl_q).mono ?_
    rintro e w16 ⟨he, hb⟩
    rw [decide_eq_true (by rw [HU_q.out, HU_o.out] : l_o = l_q)] at he
    subst he
    replace hr_r := hr_r.kept hb
    replace hr_o := hr_o.kept hb
    replace hr_z := hr_z.kept hb
    replace hr_q := hr_q.kept hb
    replace hbel := hbel.trans (hb.mono hbel.size)
    clear hb
    go_wp2_with fail
    all_goals (go_ret; exact ⟨rfl, hbel⟩)

set_option maxRecDepth 100000 in
theorem lifted (os : Os) (started : os.Started) (H : Type) (enc : TypeId × Value → H) :
    ReturnsInHanded {} Try.checked os 8 .any (Rows.fnOpeningSpec.pre6 enc Try.prog Try.f8 Rows.fnOpeningRow.domain false) (Rows.fnOpeningSpec.post enc Try.prog Try.f8 false true false false) := by
  refine law_lifted (C := Try.checked) (tb := 4) own started (by kernel_rfl) Try.func8 laidOut (by kernel_rfl) Try.underlying4 (by kernel_rfl) rfl
    (ChangeSpec.witness6 (enc := enc) (C := Try.checked) false ⟨#[], #[.slice none 0 0], []⟩ 8 (by kernel_rfl) (by kernel_rfl) (by kernel_rfl) (by kernel_rfl)) ?_
  intro W base args ds ps hval hA hlt
  have hA : DataW.TrodAll enc Try.prog W 0 (fun _ => true) true Try.f8.params.toList args.toList ds ps := hA
  have hval : ∀ (j : Nat) t v, Try.f8.params[j]? = some t → args[j]? = some v → Value.okWide Try.prog W .any base t v := hval
  rw [Try.params8] at hA hval
  obtain ⟨v0, vs0, d0, ds0, p0, q0, hargs, rfl, rfl, h0, r0⟩ := trodAll_cons hA
  obtain ⟨rfl, rfl, rfl⟩ := trodAll_nil r0
  obtain rfl : args = #[v0] := by cases args; simp_all
  refine ⟨rfl, ?_⟩
  obtain ⟨a0, n0, c0, rfl, hl0, hin0⟩ := open_bytes Try.underlying33 (by kernel_rfl) Try.underlying5 (okWide_slice Try.underlying33 (hval 0 33 v0 rfl rfl)) h0
  exact walk n0 c0 a0 hl0 W hin0

theorem proved : Rows.FnOpeningSaid :=
  OpenClaim.holds_of_wide 8 Try.f8 rfl rfl rfl rfl rfl rfl rfl ⟨rfl, rfl, rfl, rfl, rfl⟩ rfl rfl rfl rfl rfl (by kernel_rfl) Try.func8 (by kernel_rfl)
    (of_decide_eq_true (by kernel_rfl)) (by unfold Func.isWrapper; first | (rw [if_pos (by decide +kernel)]; kernel_rfl) | (rw [if_neg (by decide +kernel)]; exact ⟨rfl, rfl⟩))
    (fun os started H enc _ => lifted os started H enc)

#print axioms proved
end Go.Proofs.Ytldgjocjcbhkmaa.lawFnOpening
