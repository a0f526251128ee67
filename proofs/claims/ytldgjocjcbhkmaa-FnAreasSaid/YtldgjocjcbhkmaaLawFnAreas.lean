/- The areas of two regions add up to those of their union and intersection. No condition. -/
import Derived.Test.YtldgjocjcbhkmaaRows
import Derived.Test.YtldgjocjcbhkmaaFrameB
import Derived.Test.YtldgjocjcbhkmaaDrw4
import Derived.Deep.RegionHeld3
import Derived.Test.YtldgjocjcbhkmaaPln
import Derived.Test.YtldgjocjcbhkmaaRegF
import Derived.Test.YtldgjocjcbhkmaaRegH
namespace Go.Proofs.Ytldgjocjcbhkmaa.lawFnAreas
open Go.ChangeShapes Go.WideShapes Go.ChangeAt Go.RowKit Go.Joins

theorem own : ownKnob Try.prog.godebug = none := by kernel_rfl
theorem laidOut : laidOutB Try.prog = true := by kernel_rfl

set_option maxRecDepth 100000 in
set_option maxHeartbeats 3200000 in
theorem walk (n c : Nat) (a : Option Addr) (hn : n ≤ maxLen) (w : World) (hin : InBytes w.heap.size w a n) :
    Calls Try.prog 5 #[.slice a n c] w fun e w' => e = .returned (.bool true) ∧ Below w.heap.size w w' := by
  have hbel := Below.refl w.heap.size w
  by_cases hbig : (n : Int) > 4096
  · go_enter Try.func5, Try.ntmps5
    go_wp2_with fail
    go_at_call 24
    refine (laws_big _ _ _ _).mono ?_
    rintro e w1 ⟨he, rfl⟩
    rw [decide_eq_true hbig] at he
    subst he
    go_wp2_with fail
    go_ret
    exact ⟨rfl, hbel⟩
  · have hn4 : n ≤ 4096 := by omega
    have hn5 : n ≤ 5000 := by omega
    go_enter Try.func5, Try.ntmps5
    go_wp2_with fail
    go_at_call 24
    refine (laws_big _ _ _ _).mono ?_
    rintro e w1 ⟨he, rfl⟩
    rw [decide_eq_false (by omega : ¬ (n : Int) > 4096)] at he
    subst he
    clear hbig
    go_wp2_with fail
    go_at_call 31
    refine (spec_DrawIntersection n c a _ hin hn5).mono ?_
    rintro e w1 ⟨l_a, a_a, c_a, l_b, a_b, c_b, rfl, hr_a, hr_b, hl_a, hl_b, hb⟩
    replace hbel := hbel.trans (hb.mono hbel.size)
    clear hb
    cases g_a : isReg l_a
    · have G_a := hide g_a
      clear g_a
      go_wp2_with fail
      go_at_call 32
      refine (spec_IsRegion l_a _ _ _ hr_a hl_a).mono ?_
      rintro e w2 ⟨he, hb⟩
      rw [G_a.out] at he
      subst he
      replace hr_a := hr_a.kept hb
      replace hr_b := hr_b.kept hb
      replace hbel := hbel.trans (hb.mono hbel.size)
      clear hb
      go_wp2_with fail
      all_goals (go_ret; exact ⟨rfl, hbel⟩)
    have G_a := hide g_a
    clear g_a
    cases g_b : isReg l_b
    · have G_b := hide g_b
      clear g_b
      go_wp2_with fail
      go_at_call 32
      refine (spec_IsRegion l_a _ _ _ hr_a hl_a).mono ?_
      rintro e w2 ⟨he, hb⟩
      rw [G_a.out] at he
      subst he
      replace hr_a := hr_a.kept hb
      replace hr_b := hr_b.kept hb
      replace hbel := hbel.trans (hb.mono hbel.size)
      clear hb
      go_wp2_with fail
      go_at_call 32
      refine (spec_IsRegion l_b _ _ _ hr_b hl_b).mono ?_
      rintro e w3 ⟨he, hb⟩
      rw [G_b.out] at he
      subst he
      replace hr_a := hr_a.kept hb
      replace hr_b := hr_b.kept hb
      replace hbel := hbel.trans (hb.mono hbel.size)
      clear hb
      go_wp2_with fail
      all_goals (go_ret; exact ⟨rfl, hbel⟩)
    have G_b := hide g_b
    clear g_b
    go_wp2_with fail
    go_at_call 32
    refine (spec_IsRegion l_a _ _ _ hr_a hl_a).mono ?_
    rintro e w2 ⟨he, hb⟩
    rw [G_a.out] at he
    subst he
    replace hr_a := hr_a.kept hb
    replace hr_b := hr_b.kept hb
    replace hbel := hbel.trans (hb.mono hbel.size)
    clear hb
    go_wp2_with fail
    go_at_call 32
    refine (spec_IsRegion l_b _ _ _ hr_b hl_b).mono ?_
    rintro e w3 ⟨he, hb⟩
    rw [G_b.out] at he
    subst he
    replace hr_a := hr_a.kept hb
    replace hr_b := hr_b.kept hb
    replace hbel := hbel.trans (hb.mono hbel.size)
    clear hb
    go_wp2_with fail
    go_at_call 34
    refine ((laws_copyRects l_a _ _ _ hr_a hl_a).mono fun _ _ => retS_var).mono ?_
    rintro e w4 ⟨l_p, HU_p, a_p, c_p, rfl, hr_p, hb⟩
    replace hr_a := hr_a.kept hb
    replace hr_b := hr_b.kept hb
    replace hbel := hbel.trans (hb.mono hbel.size)
    clear hb
    have hl_p : l_p.length ≤ 2000000 := by rw [HU_p.out]; exact hl_a
    have hq := HU_p.out.symm
    subst hq
    clear HU_p
    go_wp2_with fail
    go_at_call 34
    refine ((laws_copyRects l_b _ _ _ hr_b hl_b).mono fun _ _ => retS_var).mono ?_
    rintro e w5 ⟨l_q, HU_q, a_q, c_q, rfl, hr_q, hb⟩
    replace hr_a := hr_a.kept hb
    replace hr_b := hr_b.kept hb
    replace hr_p := hr_p.kept hb
    replace hbel := hbel.trans (hb.mono hbel.size)
    clear hb
    have hl_q : l_q.length ≤ 2000000 := by rw [HU_q.out]; exact hl_b
    have hq := HU_q.out.symm
    subst hq
    clear HU_q
    go_wp2_with fail
    go_at_call 27
    refine ((impl_Union l_a l_b _ _ _ _ _ hr_p hr_q hl_p hl_q).mono fun _ _ => retS_var).mono ?_
    rintro e w6 ⟨l_u, HU_u, a_u, c_u, rfl, hr_u, hb⟩
    replace hr_a := hr_a.kept hb
    replace hr_b := hr_b.kept hb
    replace hr_p := hr_p.kept hb
    replace hr_q := hr_q.kept hb
    replace hbel := hbel.trans (hb.mono hbel.size)
    clear hb
    have hl_u : l_u.length ≤ 2000000 := by rw [HU_u.out]; exact opR_len _ _ _
    clear hr_p
    clear hr_q
    go_wp2_with fail
    go_at_call 33
    refine (impl_RegionArea l_u _ _ _ hr_u hl_u).mono ?_
    rintro e w7 ⟨he, hb⟩
    obtain ⟨su, hsu⟩ : ∃ su, su = areaRg l_u := ⟨_, rfl⟩
    rw [← hsu] at he
    subst he
    have Hsu := hide hsu
    have hbsu : 0 ≤ su ∧ su ≤ 6400 := by rw [Hsu.out, HU_u.out]; exact area_bounds (op_reg 14 G_a.out G_b.out)
    obtain ⟨hbsu0, hbsu1⟩ := hbsu
    clear hsu
    replace hr_a := hr_a.kept hb
    replace hr_b := hr_b.kept hb
    replace hr_u := hr_u.kept hb
    replace hbel := hbel.trans (hb.mono hbel.size)
    clear hb
    clear hr_u
    go_wp2_with fail
    go_at_call 34
    refine ((laws_copyRects l_a _ _ _ hr_a hl_a).mono fun _ _ => retS_var).mono ?_
    rintro e w8 ⟨l_p, HU_p, a_p, c_p, rfl, hr_p, hb⟩
    replace hr_a := hr_a.kept hb
    replace hr_b := hr_b.kept hb
    replace hbel := hbel.trans (hb.mono hbel.size)
    clear hb
    have hl_p : l_p.length ≤ 2000000 := by rw [HU_p.out]; exact hl_a
    have hq := HU_p.out.symm
    subst hq
    clear HU_p
    go_wp2_with fail
    go_at_call 34
    refine ((laws_copyRects l_b _ _ _ hr_b hl_b).mono fun _ _ => retS_var).mono ?_
    rintro e w9 ⟨l_q, HU_q, a_q, c_q, rfl, hr_q, hb⟩
    replace hr_a := hr_a.kept hb
    replace hr_b := hr_b.kept hb
    replace hr_p := hr_p.kept hb
    replace hbel := hbel.trans (hb.mono hbel.size)
    clear hb
    have hl_q : l_q.length ≤ 2000000 := by rw [HU_q.out]; exact hl_b
    have hq := HU_q.out.symm
    subst hq
    clear HU_q
    go_wp2_with fail
    go_at_call 35
    refine ((impl_Intersection l_a l_b _ _ _ _ _ hr_p hr_q hl_p hl_q).mono fun _ _ => retS_var).mono ?_
    rintro e w10 ⟨l_i, HU_i, a_i, c_i, rfl, hr_i, hb⟩
    replace hr_a := hr_a.kept hb
    replace hr_b := hr_b.kept hb
    replace hr_p := hr_p.kept hb
    replace hr_q := hr_q.kept hb
    replace hbel := hbel.trans (hb.mono hbel.size)
    clear hb
    have hl_i : l_i.length ≤ 2000000 := by rw [HU_i.out]; exact opR_len _ _ _
    clear hr_p
    clear hr_q
    go_wp2_with fail
    go_at_call 33
    refine (impl_RegionArea l_i _ _ _ hr_i hl_i).mono ?_
    rintro e w11 ⟨he, hb⟩
    obtain ⟨si, hsi⟩ : ∃ si, si = areaRg l_i := ⟨_, rfl⟩
    rw [← hsi] at he
    subst he
    have Hsi := hide hsi
    have hbsi : 0 ≤ si ∧ si ≤ 6400 := by rw [Hsi.out, HU_i.out]; exact area_bounds (op_reg 8 G_a.out G_b.out)
    obtain ⟨hbsi0, hbsi1⟩ := hbsi
    clear hsi
    replace hr_a := hr_a.kept hb
    replace hr_b := hr_b.kept hb
    replace hr_i := hr_i.kept hb
    replace hbel := hbel.trans (hb.mono hbel.size)
    clear hb
    clear hr_i
    go_wp2_with fail
    go_at_call 34
    refine ((laws_copyRects l_a _ _ _ hr_a hl_a).mono fun _ _ => retS_var).mono ?_
    rintro e w12 ⟨l_p, HU_p, a_p, c_p, rfl, hr_p, hb⟩
    replace hr_a := hr_a.kept hb
    replace hr_b := hr_b.kept hb
    replace hbel := hbel.trans (hb.mono hbel.size)
    clear hb
    have hl_p : l_p.length ≤ 2000000 := by rw [HU_p.out]; exact hl_a
    have hq := HU_p.out.symm
    subst hq
    clear HU_p
    go_wp2_with fail
    go_at_call 33
    refine (impl_RegionArea l_a _ _ _ hr_p hl_p).mono ?_
    rintro e w13 ⟨he, hb⟩
    obtain ⟨sa, hsa⟩ : ∃ sa, sa = areaRg l_a := ⟨_, rfl⟩
    rw [← hsa] at he
    subst he
    have Hsa := hide hsa
    have hbsa : 0 ≤ sa ∧ sa ≤ 6400 := by rw [Hsa.out]; exact area_bounds G_a.out
    obtain ⟨hbsa0, hbsa1⟩ := hbsa
    clear hsa
    replace hr_a := hr_a.kept hb
    replace hr_b := hr_b.kept hb
    replace hr_p := hr_p.kept hb
    replace hbel := hbel.trans (hb.mono hbel.size)
    clear hb
    clear hr_p
    go_wp2_with fail
    go_at_call 34
    refine ((laws_copyRects l_b _ _ _ hr_b hl_b).mono fun _ _ => retS_var).mono ?_
    rintro e w14 ⟨l_q, HU_q, a_q, c_q, rfl, hr_q, hb⟩
    replace hr_a := hr_a.kept hb
    replace hr_b := hr_b.kept hb
    replace hbel := hbel.trans (hb.mono hbel.size)
    clear hb
    have hl_q : l_q.length ≤ 2000000 := by rw [HU_q.out]; exact hl_b
    have hq := HU_q.out.symm
    subst hq
    clear HU_q
    go_wp2_with fail
    go_at_call 33
    refine (impl_RegionArea l_b _ _ _ hr_q hl_q).mono ?_
    rintro e w15 ⟨he, hb⟩
    obtain ⟨sb, hsb⟩ : ∃ sb, sb = areaRg l_b := ⟨_, rfl⟩
    rw [← hsb] at he
    subst he
    have Hsb := hide hsb
    have hbsb : 0 ≤ sb ∧ sb ≤ 6400 := by rw [Hsb.out]; exact area_bounds G_b.out
    obtain ⟨hbsb0, hbsb1⟩ := hbsb
    clear hsb
    replace hr_a := hr_a.kept hb
    replace hr_b := hr_b.kept hb
    replace hr_q := hr_q.kept hb
    replace hbel := hbel.trans (hb.mono hbel.size)
    clear hb
    clear hr_q
    have hsum : su + si = sa + sb := by rw [Hsu.out, Hsi.out, Hsa.out, Hsb.out, HU_u.out, HU_i.out]; exact areas_eq G_a.out G_b.out
    have htest : (su + si == sa + sb) = true := by rw [hsum]; simp
    have HSUM := hide hsum
    clear hsum
    go_wp2_with fail
    go_at_call 36
    refine (spec_RegionArea l_a _ _ _ hr_a hl_a).mono ?_
    rintro e w16 ⟨he, hb⟩
    rw [← Hsa.out] at he
    subst he
    replace hr_a := hr_a.kept hb
    replace hr_b := hr_b.kept hb
    replace hbel := hbel.trans (hb.mono hbel.size)
    clear hb
    go_wp2_with fail
    go_at_call 36
    refine (spec_RegionArea l_b _ _ _ hr_b hl_b).mono ?_
    rintro e w17 ⟨he, hb⟩
    rw [← Hsb.out] at he
    subst he
    replace hr_a := hr_a.kept hb
    replace hr_b := hr_b.kept hb
    replace hbel := hbel.trans (hb.mono hbel.size)
    clear hb
    go_wp2_with fail
    all_goals (go_ret; exact ⟨rfl, hbel⟩)

set_option maxRecDepth 100000 in
theorem lifted (os : Os) (started : os.Started) (H : Type) (enc : TypeId × Value → H) :
    ReturnsInHanded {} Try.checked os 5 .any (Rows.fnAreasSpec.pre6 enc Try.prog Try.f5 Rows.fnAreasRow.domain false) (Rows.fnAreasSpec.post enc Try.prog Try.f5 false true false false) := by
  refine law_lifted (C := Try.checked) (tb := 4) own started (by kernel_rfl) Try.func5 laidOut (by kernel_rfl) Try.underlying4 (by kernel_rfl) rfl
    (ChangeSpec.witness6 (enc := enc) (C := Try.checked) false ⟨#[], #[.slice none 0 0], []⟩ 8 (by kernel_rfl) (by kernel_rfl) (by kernel_rfl) (by kernel_rfl)) ?_
  intro W base args ds ps hval hA hlt
  have hA : DataW.TrodAll enc Try.prog W 0 (fun _ => true) true Try.f5.params.toList args.toList ds ps := hA
  have hval : ∀ (j : Nat) t v, Try.f5.params[j]? = some t → args[j]? = some v → Value.okWide Try.prog W .any base t v := hval
  rw [Try.params5] at hA hval
  obtain ⟨v0, vs0, d0, ds0, p0, q0, hargs, rfl, rfl, h0, r0⟩ := trodAll_cons hA
  obtain ⟨rfl, rfl, rfl⟩ := trodAll_nil r0
  obtain rfl : args = #[v0] := by cases args; simp_all
  refine ⟨rfl, ?_⟩
  obtain ⟨a0, n0, c0, rfl, hl0, hin0⟩ := open_bytes Try.underlying33 (by kernel_rfl) Try.underlying5 (okWide_slice Try.underlying33 (hval 0 33 v0 rfl rfl)) h0
  exact walk n0 c0 a0 hl0 W hin0

theorem proved : Rows.FnAreasSaid :=
  OpenClaim.holds_of_wide 5 Try.f5 rfl rfl rfl rfl rfl rfl rfl ⟨rfl, rfl, rfl, rfl, rfl⟩ rfl rfl rfl rfl rfl (by kernel_rfl) Try.func5 (by kernel_rfl)
    (of_decide_eq_true (by kernel_rfl)) (by unfold Func.isWrapper; first | (rw [if_pos (by decide +kernel)]; kernel_rfl) | (rw [if_neg (by decide +kernel)]; exact ⟨rfl, rfl⟩))
    (fun os started H enc _ => lifted os started H enc)

#print axioms proved
end Go.Proofs.Ytldgjocjcbhkmaa.lawFnAreas
