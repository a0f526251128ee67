/- The region of a list of rectangles does not depend on their order and is the union of their regions. No condition. -/
import Derived.Test.YtldgjocjcbhkmaaRows
import Derived.Test.YtldgjocjcbhkmaaFrameB
import Derived.Test.YtldgjocjcbhkmaaDrw4
import Derived.Deep.RegionHeld3
import Derived.Test.YtldgjocjcbhkmaaPln
import Derived.Test.YtldgjocjcbhkmaaRegF
import Derived.Test.YtldgjocjcbhkmaaRegH
namespace Go.Proofs.Ytldgjocjcbhkmaa.lawFnRegionOf
open Go.ChangeShapes Go.WideShapes Go.ChangeAt Go.RowKit Go.Joins

theorem own : ownKnob Try.prog.godebug = none := by kernel_rfl
theorem laidOut : laidOutB Try.prog = true := by kernel_rfl

set_option maxRecDepth 100000 in
set_option maxHeartbeats 3200000 in
theorem walk (n c : Nat) (a : Option Addr) (hn : n ≤ maxLen) (w : World) (hin : InBytes w.heap.size w a n) :
    Calls Try.prog 4 #[.slice a n c] w fun e w' => e = .returned (.bool true) ∧ Below w.heap.size w w' := by
  have hbel := Below.refl w.heap.size w
  by_cases hbig : (n : Int) > 4096
  · go_enter Try.func4, Try.ntmps4
    go_wp2_with fail
    go_at_call 24
    refine (laws_big _ _ _ _).mono ?_
    rintro e w1 ⟨he, rfl⟩
    rw [decide_eq_true hbig] at he
    subst he
    go_wp2_with fail
    go_ret
    exact ⟨rfl, hbel⟩
  · have hn4 : n ≤ 4096 := by omega
    have hn5 : n ≤ 5000 := by omega
    go_enter Try.func4, Try.ntmps4
    go_wp2_with fail
    go_at_call 24
    refine (laws_big _ _ _ _).mono ?_
    rintro e w1 ⟨he, rfl⟩
    rw [decide_eq_false (by omega : ¬ (n : Int) > 4096)] at he
    subst he
    clear hbig
    go_wp2_with fail
    go_at_call 25
    refine (spec_DrawRegionOf n c a _ hin hn5).mono ?_
    rintro e w1 ⟨l_t, a_t, c_t, rfl, hr_t, hl_t, hb⟩
    replace hbel := hbel.trans (hb.mono hbel.size)
    clear hb
    cases g_t : validL l_t
    · have G_t := hide g_t
      clear g_t
      go_wp2_with fail
      go_at_call 26
      refine ((spec_RegionOf l_t _ _ _ hr_t hl_t).mono fun _ _ => retSB_var).mono ?_
      rintro e w2 ⟨l_u, HU_u, a_u, c_u, he, hr_u, hb⟩
      rw [G_t.out] at he
      subst he
      replace hr_t := hr_t.kept hb
      replace hbel := hbel.trans (hb.mono hbel.size)
      clear hb
      have hl_u : l_u.length ≤ 2000000 := by rw [HU_u.out]; exact regionOfR_len _
      go_wp2_with fail
      all_goals (go_ret; exact ⟨rfl, hbel⟩)
    have G_t := hide g_t
    have hoks : ∀ r ∈ l_t, r.ok = true := by simp only [validL, Bool.and_eq_true] at g_t; exact fun r hr => List.all_eq_true.1 g_t.2 r hr
    have HOKS := hide hoks
    clear g_t hoks
    go_wp2_with fail
    go_at_call 26
    refine ((spec_RegionOf l_t _ _ _ hr_t hl_t).mono fun _ _ => retSB_var).mono ?_
    rintro e w2 ⟨l_want, HU_want, a_want, c_want, he, hr_want, hb⟩
    rw [G_t.out] at he
    subst he
    replace hr_t := hr_t.kept hb
    replace hbel := hbel.trans (hb.mono hbel.size)
    clear hb
    have hl_want : l_want.length ≤ 2000000 := by rw [HU_want.out]; exact regionOfR_len _
    go_wp2_with fail
    have hba : Below w2.heap.size w2 ((w2.alloc (.cells #[] 39)).alloc (.cells #[] 39)) := bel_alloc (bel_alloc (Below.refl _ _) _) _
    go_loopw [6, 7, 8] (fun s6 s7 s wr => ∃ (i : Nat) (u : List Rc) (bk : List Rc) (a6 : Option Addr) (c6 : Nat) (a7 : Option Addr) (c7 : Nat), i ≤ l_t.length ∧ s = .int .i64 i ∧ Hid (u = regionL (bitsOf (l_t.take i))) ∧ Hid (bk = (l_t.take i).reverse) ∧ s6 = .slice a6 bk.length c6 ∧ s7 = .slice a7 u.length c7 ∧ RectsAt wr.heap.size wr a6 bk ∧ RectsAt wr.heap.size wr a7 u ∧ RectsAt wr.heap.size wr a_t l_t ∧ RectsAt wr.heap.size wr a_want l_want ∧ Below w.heap.size w wr) (fun _ _ s _ => l_t.length - (intOf s).toNat)
    case atStart => exact ⟨0, [], [], _, _, _, _, Nat.zero_le _, rfl, region_none.symm, rfl, rfl, rfl, fun i r h => by simp at h, fun i r h => by simp at h, hr_t.kept hba, hr_want.kept hba, hbel.trans (hba.mono hbel.size)⟩
    case round =>
      clear hr_t hr_want hbel hba
      obtain ⟨i, u, bk, a6, c6, a7, c7, hi, rfl, HU, HB, rfl, rfl, hr_bk, hr_u, hr_t, hr_want, hbel⟩ := hrel
      have hl_bk : bk.length ≤ 2000000 := by rw [HB.out, List.length_reverse]; exact Nat.le_trans (List.length_take_le' i l_t) hl_t
      have hl_u : u.length ≤ 2000000 := by rw [HU.out]; exact region_lenN _
      by_cases hy : i < l_t.length
      · skip
        obtain ⟨g, ha, hg, c0, c1, c2, c3⟩ := hr_t i l_t[i] (List.getElem?_eq_getElem hy)
        subst ha
        have hx1 : (i : Int) < (l_t.length : Int) := by omega
        have hO : OwnRects (wr.alloc (.cells #[.int .i64 l_t[i].x0, .int .i64 l_t[i].y0, .int .i64 l_t[i].x1, .int .i64 l_t[i].y1] 39)) wr.heap.size (.slice (some ⟨wr.heap.size, 0, none⟩) 1 1) [l_t[i]] := World.ownsRow_lit wr #[.int .i64 l_t[i].x0, .int .i64 l_t[i].y0, .int .i64 l_t[i].x1, .int .i64 l_t[i].y1] 1 (Nat.le_refl _) (by simp [maxLen]) rfl
        have HO := hide hO
        clear hO
        go_wp2_with (at_builtin; refine wpList_append_rects rfl _ _ rfl wr.heap.size _ [l_t[i]] rfl HO.out a6 bk wr.heap.size c6 rfl (hr_bk.below (bel_alloc (Below.refl _ _) _) (Nat.le_refl _)) (by simp; omega) (by simp) ?_; intro v' w5 ho5 hg5; obtain ⟨a5, c5, rfl⟩ := own_slice ho5; have hb5 : Below wr.heap.size wr w5 := ((Below.refl _ _).alloc (Nat.le_refl _) _).grown hg5 (by simp) (fun k e => by cases e; exact Nat.le_refl _); have c0' := keep_cell hb5 c0; have c1' := keep_cell hb5 c1; have c2' := keep_cell hb5 c2; have c3' := keep_cell hb5 c3; have hr_u5 := hr_u.kept hb5; have hr_t5 := hr_t.kept hb5; have hr_w5 := hr_want.kept hb5; have hbel5 := hbel.trans (hb5.mono hbel.size); have hr5 := rects_at ho5; have hbk : Hid ([l_t[i]] ++ bk = (l_t.take (i + 1)).reverse) := (by rw [Hid, HB.out, List.take_succ_eq_append_getElem hy, List.reverse_append]; rfl); clear c0 c1 c2 c3 hr_u hr_t hr_want hbel hr_bk hg5 ho5 HO)
        go_at_call 27
        refine ((impl_Union u [l_t[i]] _ _ _ _ _ (hr_u5.kept (bel_alloc (Below.refl _ _) _)) (rects_new w5 l_t[i]) hl_u (by simp)).mono fun _ _ => retS_var).mono ?_
        rintro e w6 ⟨u2, HU2, a8, c8, rfl, hr_u2, hb6⟩
        have hb7 : Below w5.heap.size w5 w6 := bel_trans (bel_alloc (Below.refl _ _) _) hb6
        have hus : Hid (u2 = regionL (bitsOf (l_t.take (i + 1)))) := by rw [Hid, HU2.out, HU.out]; exact union_step hy HOKS.out
        go_wp2_with fail
        go_roundw
        case rel => exact ⟨i + 1, u2, [l_t[i]] ++ bk, _, _, _, _, hy, by go_num, hus, hbk, rfl, rfl, hr5.kept hb7, hr_u2, hr_t5.kept hb7, hr_w5.kept hb7, hbel5.trans (hb7.mono hbel5.size)⟩
        case measure => simp [intOf]; omega
      · skip
        obtain rfl : i = l_t.length := by omega
        have hx1 : ¬ (l_t.length : Int) < (l_t.length : Int) := by omega
        have hBK : bk = l_t.reverse := by rw [HB.out, List.take_length]
        have hUU : u = regionL (bitsOf l_t) := by rw [HU.out, List.take_length]
        have HBK := hide hBK
        have HUU := hide hUU
        clear hBK hUU HB HU
        have hvl : validL bk = true := by rw [HBK.out, (regionOf_reverse l_t).2]; exact G_t.out
        have HVL := hide hvl
        clear hvl
        have hwant : l_want = regionL (bitsOf l_t) := by rw [HU_want.out]; exact regionOfR_ok G_t.out
        have HWANT := hide hwant
        clear hwant
        have hr_all := hr_u
        clear hr_u
        have hl_all := hl_u
        clear hl_u
        go_wp2_with fail
        go_at_call 28
        refine ((impl_RegionOf bk _ _ _ hr_bk hl_bk).mono fun _ _ => retSB_var).mono ?_
        rintro e w3 ⟨l_got, HU_got, a_got, c_got, he, hr_got, hb⟩
        rw [HVL.out] at he
        subst he
        replace hr_t := hr_t.kept hb
        replace hr_want := hr_want.kept hb
        replace hr_bk := hr_bk.kept hb
        replace hr_all := hr_all.kept hb
        replace hbel := hbel.trans (hb.mono hbel.size)
        clear hb
        have hl_got : l_got.length ≤ 2000000 := by rw [HU_got.out]; exact regionOfR_len _
        have hgot : l_got = regionL (bitsOf l_t) := by rw [HU_got.out, HBK.out, (regionOf_reverse l_t).1]; exact regionOfR_ok G_t.out
        have HGOT := hide hgot
        clear hgot
        go_wp2_with fail
        go_at_call 29
        refine (laws_sameRects l_got l_want _ _ _ _ _ hr_got hr_want hl_got hl_want).mono ?_
        rintro e w4 ⟨he, hb⟩
        rw [decide_eq_true (by rw [HGOT.out, HWANT.out] : l_got = l_want)] at he
        subst he
        replace hr_t := hr_t.kept hb
        replace hr_want := hr_want.kept hb
        replace hr_bk := hr_bk.kept hb
        replace hr_all := hr_all.kept hb
        replace hr_got := hr_got.kept hb
        replace hbel := hbel.trans (hb.mono hbel.size)
        clear hb
        go_wp2_with fail
        go_at_call 29
        refine (laws_sameRects u l_want _ _ _ _ _ hr_all hr_want hl_all hl_want).mono ?_
        rintro e w5 ⟨he, hb⟩
        rw [decide_eq_true (by rw [HUU.out, HWANT.out] : u = l_want)] at he
        subst he
        replace hr_t := hr_t.kept hb
        replace hr_want := hr_want.kept hb
        replace hr_bk := hr_bk.kept hb
        replace hr_all := hr_all.kept hb
        replace hr_got := hr_got.kept hb
        replace hbel := hbel.trans (hb.mono hbel.size)
        clear hb
        go_wp2_with fail
        go_at_call 30
        refine (impl_IsRegion l_got _ _ _ hr_got hl_got).mono ?_
        rintro e w6 ⟨he, hb⟩
        rw [(by rw [HGOT.out]; exact isReg_region _ : isReg l_got = true)] at he
        subst he
        replace hr_t := hr_t.kept hb
        replace hr_want := hr_want.kept hb
        replace hr_bk := hr_bk.kept hb
        replace hr_all := hr_all.kept hb
        replace hr_got := hr_got.kept hb
        replace hbel := hbel.trans (hb.mono hbel.size)
        clear hb
        go_wp2_with fail
        all_goals (go_ret; exact ⟨rfl, hbel⟩)

set_option maxRecDepth 100000 in
theorem lifted (os : Os) (started : os.Started) (H : Type) (enc : TypeId × Value → H) :
    ReturnsInHanded {} Try.checked os 4 .any (Rows.fnRegionOfSpec.pre6 enc Try.prog Try.f4 Rows.fnRegionOfRow.domain false) (Rows.fnRegionOfSpec.post enc Try.prog Try.f4 false true false false) := by
  refine law_lifted (C := Try.checked) (tb := 4) own started (by kernel_rfl) Try.func4 laidOut (by kernel_rfl) Try.underlying4 (by kernel_rfl) rfl
    (ChangeSpec.witness6 (enc := enc) (C := Try.checked) false ⟨#[], #[.slice none 0 0], []⟩ 8 (by kernel_rfl) (by kernel_rfl) (by kernel_rfl) (by kernel_rfl)) ?_
  intro W base args ds ps hval hA hlt
  have hA : DataW.TrodAll enc Try.prog W 0 (fun _ => true) true Try.f4.params.toList args.toList ds ps := hA
  have hval : ∀ (j : Nat) t v, Try.f4.params[j]? = some t → args[j]? = some v → Value.okWide Try.prog W .any base t v := hval
  rw [Try.params4] at hA hval
  obtain ⟨v0, vs0, d0, ds0, p0, q0, hargs, rfl, rfl, h0, r0⟩ := trodAll_cons hA
  obtain ⟨rfl, rfl, rfl⟩ := trodAll_nil r0
  obtain rfl : args = #[v0] := by cases args; simp_all
  refine ⟨rfl, ?_⟩
  obtain ⟨a0, n0, c0, rfl, hl0, hin0⟩ := open_bytes Try.underlying33 (by kernel_rfl) Try.underlying5 (okWide_slice Try.underlying33 (hval 0 33 v0 rfl rfl)) h0
  exact walk n0 c0 a0 hl0 W hin0

theorem proved : Rows.FnRegionOfSaid :=
  OpenClaim.holds_of_wide 4 Try.f4 rfl rfl rfl rfl rfl rfl rfl ⟨rfl, rfl, rfl, rfl, rfl⟩ rfl rfl rfl rfl rfl (by kernel_rfl) Try.func4 (by kernel_rfl)
    (of_decide_eq_true (by kernel_rfl)) (by unfold Func.isWrapper; first | (rw [if_pos (by decide +kernel)]; kernel_rfl) | (rw [if_neg (by decide +kernel)]; exact ⟨rfl, rfl⟩))
    (fun os started H enc _ => lifted os started H enc)

#print axioms proved
end Go.Proofs.Ytldgjocjcbhkmaa.lawFnRegionOf
