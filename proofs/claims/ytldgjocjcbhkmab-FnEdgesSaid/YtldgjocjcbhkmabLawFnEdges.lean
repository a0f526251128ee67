/- The boundary edges of a region tell the region and its perimeter. No condition. -/
import Derived.Test.YtldgjocjcbhkmabRows
import Derived.Test.YtldgjocjcbhkmabFrameB
import Derived.Test.YtldgjocjcbhkmabDrwE
import Derived.Deep.RegionHeld3
import Derived.Test.YtldgjocjcbhkmabEdg10
import Derived.Test.YtldgjocjcbhkmabRegF
namespace Go.Proofs.Ytldgjocjcbhkmab.lawFnEdges
open Go.ChangeShapes Go.WideShapes Go.ChangeAt Go.RowKit Go.Joins

theorem own : ownKnob Try.prog.godebug = none := by kernel_rfl
theorem laidOut : laidOutB Try.prog = true := by kernel_rfl

set_option maxRecDepth 100000 in
set_option maxHeartbeats 3200000 in
theorem walk (n c : Nat) (a : Option Addr) (hn : n ≤ maxLen) (w : World) (hin : InBytes w.heap.size w a n) :
    Calls Try.prog 4 #[.slice a n c] w fun e w' => e = .returned (.bool true) ∧ Below w.heap.size w w' := by
  have hbel := Below.refl w.heap.size w
  by_cases hbig : (n : Int) > 4096
  · go_enter Try.func4, Try.ntmps4
    go_wp2_with fail
    go_at_call 10
    refine (laws_big _ _ _ _).mono ?_
    rintro e w1 ⟨he, rfl⟩
    rw [decide_eq_true hbig] at he
    subst he
    go_wp2_with fail
    go_ret
    exact ⟨rfl, hbel⟩
  · have hn4 : n ≤ 4096 := by omega
    have hn5 : n ≤ 5000 := by omega
    go_enter Try.func4, Try.ntmps4
    go_wp2_with fail
    go_at_call 10
    refine (laws_big _ _ _ _).mono ?_
    rintro e w1 ⟨he, rfl⟩
    rw [decide_eq_false (by omega : ¬ (n : Int) > 4096)] at he
    subst he
    clear hbig
    go_wp2_with fail
    go_at_call 11
    refine (spec_DrawBoundaryEdges n c a _ hin hn5).mono ?_
    rintro e w1 ⟨l_t, a_t, c_t, rfl, hr_t, hl_t, hb⟩
    replace hbel := hbel.trans (hb.mono hbel.size)
    clear hb
    cases g_t : isReg l_t
    · have G_t := hide g_t
      clear g_t
      go_wp2_with fail
      go_at_call 12
      refine (spec_IsRegion l_t _ _ _ hr_t hl_t).mono ?_
      rintro e w2 ⟨he, hb⟩
      rw [G_t.out] at he
      subst he
      replace hbel := hbel.trans (hb.mono hbel.size)
      clear hb
      go_wp2_with fail
      go_ret
      exact ⟨rfl, hbel⟩
    have G_t := hide g_t
    clear g_t
    go_wp2_with fail
    go_at_call 12
    refine (spec_IsRegion l_t _ _ _ hr_t hl_t).mono ?_
    rintro e w2 ⟨he, hb⟩
    rw [G_t.out] at he
    subst he
    replace hr_t := hr_t.kept hb
    replace hbel := hbel.trans (hb.mono hbel.size)
    clear hb
    go_wp2_with fail
    go_at_call 14
    refine ((laws_copyRects l_t _ _ _ hr_t hl_t).mono fun _ _ => retS_var).mono ?_
    rintro e w3 ⟨l_c, HU_c, a_c, c_c, rfl, hr_c, hb⟩
    replace hr_t := hr_t.kept hb
    replace hbel := hbel.trans (hb.mono hbel.size)
    clear hb
    have hc : l_c = l_t := HU_c.out
    have HC := hide hc
    clear hc HU_c
    go_wp2_with fail
    go_at_call 13
    refine (impl_BoundaryEdges l_c _ _ _ hr_c (by rw [HC.out]; exact hl_t) (by rw [HC.out]; exact G_t.out)).mono ?_
    rintro e w4 ⟨L, a_L, c_L, HL0, rfl, hat, hb⟩
    replace hr_t := hr_t.kept hb
    replace hbel := hbel.trans (hb.mono hbel.size)
    clear hb hr_c
    have HL : Hid (L = bndL (bitsOf l_t)) := by rw [Hid, HL0.out, HC.out]
    have HVAL : Hid (∀ r ∈ L, vEdge r.x0 r.y0 r.x1 r.y1 = true) := by rw [Hid, HL.out]; exact bndL_valid _
    have HSUM : Hid (elenS L = (sides (bitsOf l_t) : Int)) := by rw [Hid, HL.out]; exact bndL_sum _
    have HLEN : Hid (L.length ≤ 12960) := by rw [Hid, HL.out]; exact bndL_len _
    clear HL0 HC
    go_wp2_with fail
    go_loopw [5, 6] (fun s5 s wr => ∃ i : Nat, i ≤ L.length ∧ s = .int .i64 i ∧ s5 = .int .i64 (elenS (L.take i)) ∧ RectsAt wr.heap.size wr a_L L ∧ RectsAt wr.heap.size wr a_t l_t ∧ Below w.heap.size w wr) (fun _ s _ => L.length - (intOf s).toNat)
    case atStart => exact ⟨0, Nat.zero_le _, rfl, rfl, hat, hr_t, hbel⟩
    case round =>
      clear hat hr_t hbel
      obtain ⟨i, hi, rfl, rfl, hat, hr_t, hbel⟩ := hrel
      by_cases hy : i < L.length
      · obtain ⟨g, ha, hg, c0, c1, c2, c3'⟩ := hat i L[i] (List.getElem?_eq_getElem hy)
        subst ha
        have hx1 : (i : Int) < (L.length : Int) := by omega
        have hbd := elenS_bounds HVAL.out i hi
        have hed := elen_bounds (HVAL.out L[i] (List.getElem_mem hy))
        have hln := HLEN.out
        obtain ⟨z, hz⟩ : ∃ z, z = elenS (L.take i) := ⟨_, rfl⟩
        obtain ⟨y, hyv⟩ : ∃ y, y = elen L[i] := ⟨_, rfl⟩
        rw [← hz] at hbd ⊢
        rw [← hyv] at hed
        obtain ⟨z0, z1⟩ := hbd
        obtain ⟨y0, y1⟩ := hed
        have HZ := hide hz
        have HY := hide hyv
        have hwr : IntKind.i64.wrap (z + y) = z + y := IntWalk.i64_in _ (by omega)
        clear hz hyv
        go_wp2_with fail
        go_at_call 15
        refine (impl_EdgeLength _ _ _ _ _).mono ?_
        rintro e w5 ⟨he, hb5⟩
        rw [elen_elenF (HVAL.out L[i] (List.getElem_mem hy)), ← HY.out] at he
        subst he
        go_wp2_with fail
        go_roundw
        case rel => exact ⟨i + 1, hy, by go_num, by rw [elenS_take hy, ← HZ.out, ← HY.out], hat.kept hb5, hr_t.kept hb5, hbel.trans (hb5.mono hbel.size)⟩
        case measure => simp [intOf]; omega
      · obtain rfl : i = L.length := by omega
        have hx1 : ¬ (L.length : Int) < (L.length : Int) := by omega
        have hs : elenS (L.take L.length) = (sides (bitsOf l_t) : Int) := by rw [List.take_length]; exact HSUM.out
        rw [hs]
        clear hs
        have hO : OwnE (wr.alloc (.cells #[] 38)) wr.heap.size (.slice (some ⟨wr.heap.size, 0, none⟩) 0 0) [] := World.ownsRow_lit (base := wr.heap.size) (e := 38) (size := 4) wr #[] 0 (Nat.le_refl _) (by simp [maxLen]) rfl
        have HO := hide hO
        have hL8 := HLEN.out
        have HL8 := hide hL8
        clear hO hL8
        go_wp2_with (at_builtin; refine wpList_append_edges rfl _ _ rfl wr.heap.size _ [] rfl HO.out a_L L wr.heap.size c_L rfl (hat.below (bel_alloc (Below.refl _ _) _) (Nat.le_refl _)) (by have := HL8.out; simp; omega) (by simp) ?_; intro v' w5 ho5 hg5; rw [List.nil_append] at ho5; obtain ⟨a5, c5, rfl⟩ := ownE_slice ho5; have hb5 : Below wr.heap.size wr w5 := ((Below.refl _ _).alloc (Nat.le_refl _) _).grown hg5 (by simp) (fun k e => by cases e; exact Nat.le_refl _); have hr_t5 := hr_t.kept hb5; have hbel5 := hbel.trans (hb5.mono hbel.size); have hat5 := edges_at ho5; clear hat hr_t hbel hg5 ho5 HO hb5)
        go_at_call 16
        refine (impl_RegionFromEdges (bitsOf l_t) L _ _ _ hat5 HL.out).mono ?_
        rintro e w6 ⟨v6, rfl, ho6, hb6⟩
        have hreg : regionL (bitsOf l_t) = l_t := (isReg_iff.1 G_t.out).2.2
        rw [hreg] at ho6
        clear hreg
        obtain ⟨a6, c6, rfl⟩ := own_slice ho6
        have hr6 := rects_at ho6
        have hr_t6 := hr_t5.kept hb6
        have hbel6 := hbel5.trans (hb6.mono hbel5.size)
        have hper : perR l_t = (sides (bitsOf l_t) : Int) := by simp [perR, G_t.out]
        have HPER := hide hper
        clear hper ho6 hr_t5 hbel5 hb6 hat5
        go_wp2_with fail
        go_at_call 17
        refine (laws_sameRects l_t l_t _ _ _ _ _ hr6 hr_t6 hl_t hl_t).mono ?_
        rintro e w7 ⟨he, hb7⟩
        rw [decide_eq_true (rfl : l_t = l_t)] at he
        subst he
        have hr_t7 := hr_t6.kept hb7
        have hbel7 := hbel6.trans (hb7.mono hbel6.size)
        clear hr6 hr_t6 hb7 hbel6
        go_wp2_with fail
        go_at_call 14
        refine ((laws_copyRects l_t _ _ _ hr_t7 hl_t).mono fun _ _ => retS_var).mono ?_
        rintro e w8 ⟨l_d, HU_d, a_d, c_d, rfl, hr_d, hb8⟩
        have hr_t8 := hr_t7.kept hb8
        have hbel8 := hbel7.trans (hb8.mono hbel7.size)
        have HD : Hid (l_d = l_t) := HU_d
        clear hr_t7 hb8 hbel7 HU_d
        go_wp2_with fail
        go_at_call 8
        refine (impl_Perimeter l_d _ _ _ hr_d (by rw [HD.out]; exact hl_t)).mono ?_
        rintro e w9 ⟨he, hb9⟩
        rw [HD.out, HPER.out] at he
        subst he
        have hr_t9 := hr_t8.kept hb9
        have hbel9 := hbel8.trans (hb9.mono hbel8.size)
        clear hr_t8 hb9 hbel8 hr_d
        go_wp2_with fail
        go_at_call 6
        refine (spec_Perimeter l_t _ _ _ hr_t9 hl_t).mono ?_
        rintro e w10 ⟨he, hb10⟩
        rw [HPER.out] at he
        subst he
        go_wp2_with fail
        all_goals (go_ret; exact ⟨rfl, hbel9.trans (hb10.mono hbel9.size)⟩)

set_option maxRecDepth 100000 in
theorem lifted (os : Os) (started : os.Started) (H : Type) (enc : TypeId × Value → H) :
    ReturnsInHanded {} Try.checked os 4 .any (Rows.fnEdgesSpec.pre6 enc Try.prog Try.f4 Rows.fnEdgesRow.domain false) (Rows.fnEdgesSpec.post enc Try.prog Try.f4 false true false false) := by
  refine law_lifted (C := Try.checked) (tb := 4) own started (by kernel_rfl) Try.func4 laidOut (by kernel_rfl) Try.underlying4 (by kernel_rfl) rfl
    (ChangeSpec.witness6 (enc := enc) (C := Try.checked) false ⟨#[], #[.slice none 0 0], []⟩ 8 (by kernel_rfl) (by kernel_rfl) (by kernel_rfl) (by kernel_rfl)) ?_
  intro W base args ds ps hval hA hlt
  have hA : DataW.TrodAll enc Try.prog W 0 (fun _ => true) true Try.f4.params.toList args.toList ds ps := hA
  have hval : ∀ (j : Nat) t v, Try.f4.params[j]? = some t → args[j]? = some v → Value.okWide Try.prog W .any base t v := hval
  rw [Try.params4] at hA hval
  obtain ⟨v0, vs0, d0, ds0, p0, q0, hargs, rfl, rfl, h0, r0⟩ := trodAll_cons hA
  obtain ⟨rfl, rfl, rfl⟩ := trodAll_nil r0
  obtain rfl : args = #[v0] := by cases args; simp_all
  refine ⟨rfl, ?_⟩
  obtain ⟨a0, n0, c0, rfl, hl0, hin0⟩ := open_bytes Try.underlying29 (by kernel_rfl) Try.underlying5 (okWide_slice Try.underlying29 (hval 0 29 v0 rfl rfl)) h0
  exact walk n0 c0 a0 hl0 W hin0

theorem proved : Rows.FnEdgesSaid :=
  OpenClaim.holds_of_wide 4 Try.f4 rfl rfl rfl rfl rfl rfl rfl ⟨rfl, rfl, rfl, rfl, rfl⟩ rfl rfl rfl rfl rfl (by kernel_rfl) Try.func4 (by kernel_rfl)
    (of_decide_eq_true (by kernel_rfl)) (by unfold Func.isWrapper; first | (rw [if_pos (by decide +kernel)]; kernel_rfl) | (rw [if_neg (by decide +kernel)]; exact ⟨rfl, rfl⟩))
    (fun os started H enc _ => lifted os started H enc)

#print axioms proved
end Go.Proofs.Ytldgjocjcbhkmab.lawFnEdges
