/- A transform is recovered from its text, and from the images of three points. The row lists package-level variables of Go's library, tied to the program's text by the given tie. No condition besides. -/
import Derived.Test.YtldgjocjcbhkmabDoorRows
import Derived.Test.YtldgjocjcbhkmabDoorCards
import Derived.Test.YtldgjocjcbhkmabDoorTie
import Derived.Test.YtldgjocjcbhkmabDoorFrameL
import Derived.Test.YtldgjocjcbhkmabDoorTxtF
import Derived.Test.YtldgjocjcbhkmabDoorDrwD
import Derived.SevenTiedAt
import Derived.MakeChecks
namespace Go.Proofs.YtldgjocjcbhkmabDoor.lawFnTransformTextCard
open Go.ChangeShapes Go.WideShapes Go.ChangeAt Go.RowKit Go.Joins

theorem own : ownKnob Tryd.prog.godebug = none := by kernel_rfl
theorem laidOut : laidOutB Tryd.prog = true := by kernel_rfl
attribute [local go_sem low] cell_alloc_ite frozen_alloc_ite
def laid : List (String × DataW Unit) := [("math/bits.deBruijn32tab", Rows.laid_math_bits_deBruijn32tab), ("math/bits.deBruijn64tab", Rows.laid_math_bits_deBruijn64tab), ("internal/strconv.uint64pow10", Rows.laid_internal_strconv_uint64pow10), ("unicode/utf8.acceptRanges", Rows.laid_unicode_utf8_acceptRanges), ("strconv.ErrRange", Rows.laid_strconv_ErrRange), ("strconv.ErrSyntax", Rows.laid_strconv_ErrSyntax), ("unicode/utf8.first", Rows.laid_unicode_utf8_first)]
theorem pow_data : (Rows.laid_internal_strconv_uint64pow10 : DataW Unit) = Lib.tabData .u64 Lib.pow10Tab := by kernel_rfl
theorem tab_of {W : World} (h : laidMet Tryd.prog laid W) : Tab W := by
  have h2 : laidMet Tryd.prog (("internal/strconv.uint64pow10", Lib.tabData .u64 Lib.pow10Tab) :: laid.drop 3) W := by rw [← pow_data]; exact h.tail.tail
  exact Lib.tabIs_of_head (g := 0) (by kernel_rfl) (by kernel_rfl) Tryd.underlying87 Tryd.underlying69 (by kernel_rfl) (by kernel_rfl) h2
theorem star : "*" ++ "errors.errorString" = "*errors.errorString" := by decide
theorem rowErr (u : TypeId) (h : Tryd.prog.typeName? 3 u = some "*errors.errorString") : u = 105 :=
  typeName_ptr_named (P := Tryd.prog) (nm := "errors.errorString") (by rw [star]; kernel_rfl) (by kernel_rfl) (by decide) u (by rw [star]; exact h)
theorem env_of {W : World} (h : laidMet Tryd.prog laid W) (hsh : W.ShapedOpen Tryd.prog) : Env W := by
  refine ⟨tab_of h, ?_, ?_, ?_⟩
  · exact cell_of_shapedOpen_int (P := Tryd.prog) (g := 1) (t := 3) (zero := #[.int .i64 0]) hsh (of_decide_eq_true (by kernel_rfl)) (by kernel_rfl) rfl (by kernel_rfl) (by kernel_rfl) Tryd.underlying3
  · obtain ⟨a0, s0, hv0, -, -, -⟩ := laid_sentinel (g := 2) h.tail.tail.tail.tail.tail (by kernel_rfl) (by kernel_rfl) Tryd.underlying58 rowErr Tryd.underlying105 Tryd.underlying107 rfl rfl Tryd.underlying9 (by kernel_rfl) (by kernel_rfl)
    exact ⟨_, _, hv0⟩
  · obtain ⟨a0, s0, hv0, -, -, -⟩ := laid_sentinel (g := 3) h.tail.tail.tail.tail (by kernel_rfl) (by kernel_rfl) Tryd.underlying58 rowErr Tryd.underlying105 Tryd.underlying107 rfl rfl Tryd.underlying9 (by kernel_rfl) (by kernel_rfl)
    exact ⟨_, _, hv0⟩

theorem big_fmt (o x y : Int) : (fmtS o x y).size ≤ 2000000 := by
  cases hv : vTr o x y
  · rw [fmtS, if_neg (by rw [hv]; simp)]; decide
  · obtain ⟨ho, hx, hy⟩ := vTr_iff.1 hv
    have h1 := fmt_len ho hx hy
    have h2 : (fmtS o x y).size = (fmtL o x y).length := by rw [← fmtS_data hv]; exact Array.length_toList.symm
    omega
theorem ownP_nil (w : World) (B : Nat) (h : w.heap.size = B) : OwnPts (w.alloc (.cells #[] 37)) B (.slice (some ⟨B, 0, none⟩) 0 0) [] := by
  subst h
  exact World.ownsRow_lit w #[] 0 (Nat.le_refl _) (by simp [maxLen]) rfl
theorem find_o {o x y : Int} (hv : vTr o x y = true) (hon : onP (T3 o x y) 3 = true) (a b : Option Addr) (ca cb : Nat) (w : World) (hP : PtsAt w.heap.size w a P3) (hQ : PtsAt w.heap.size w b (T3 o x y)) :
    Calls Tryd.prog 16 #[.slice a 3 ca, .slice b 3 cb] w fun e w' => e = .returned (.tuple #[.agg #[.int .i64 o, .int .i64 x, .int .i64 y], .bool true]) ∧ Below w.heap.size w w' := by
  obtain ⟨ho, _, _⟩ := vTr_iff.1 hv
  obtain ⟨k, rfl⟩ := Int.eq_ofNat_of_zero_le ho.1
  exact find_back (by omega) hv hon a b ca cb w hP hQ
set_option maxRecDepth 100000 in
set_option maxHeartbeats 6400000 in
theorem walk (n c : Nat) (a : Option Addr) (w : World) (hin : InBytes w.heap.size w a n) (he : Env w) :
    Calls Tryd.prog 5 #[.slice a n c] w fun e w' => e = .returned (.bool true) ∧ Below w.heap.size w w' := by
  by_cases hbig : (n : Int) > 4096
  · go_enter Tryd.func5, Tryd.ntmps5
    go_wp2_with fail
    go_at_call 12
    refine (laws_big _ _ _ _).mono ?_
    rintro e w1 ⟨he1, rfl⟩
    rw [decide_eq_true hbig] at he1
    subst he1
    go_wp2_with fail
    go_ret
    exact ⟨rfl, Below.refl _ _⟩
  have HE := hide he
  have hn4 : n ≤ 4096 := by omega
  clear he hbig
  go_enter Tryd.func5, Tryd.ntmps5
  go_wp2_with fail
  go_at_call 12
  refine (laws_big _ _ _ _).mono ?_
  rintro e w1 ⟨he1, rfl⟩
  rw [decide_eq_false (by omega : ¬ (n : Int) > 4096)] at he1
  subst he1
  go_wp2_with fail
  go_at_call 13
  refine (spec_DrawFormatTransform n c a w hin (by omega)).mono ?_
  rintro e w1 ⟨o, x, y, rfl, hb1⟩
  have hbA := bel_alloc hb1 (.cells #[.int .i64 o, .int .i64 x, .int .i64 y] 25)
  have t0 : (w1.alloc (.cells #[.int .i64 o, .int .i64 x, .int .i64 y] 25)).cell? ⟨w1.heap.size, 0, none⟩ = some (.int .i64 o) := by simp [go_sem]
  have t1 : (w1.alloc (.cells #[.int .i64 o, .int .i64 x, .int .i64 y] 25)).cell? ⟨w1.heap.size, 1, none⟩ = some (.int .i64 x) := by simp [go_sem]
  have t2 : (w1.alloc (.cells #[.int .i64 o, .int .i64 x, .int .i64 y] 25)).cell? ⟨w1.heap.size, 2, none⟩ = some (.int .i64 y) := by simp [go_sem]
  have hA : w1.heap.size < (w1.alloc (.cells #[.int .i64 o, .int .i64 x, .int .i64 y] 25)).heap.size := by simp
  cases hv : vTr o x y
  · go_wp2_with fail
    go_at_call 14
    refine (spec_IsValidTransform _ _ _ _).mono ?_
    rintro e w2 ⟨rfl, hb2⟩
    go_wp2_with fail
    go_ret
    exact ⟨rfl, bel_trans hbA hb2⟩
  have HV := hide hv
  go_wp2_with fail
  generalize (w1.alloc (.cells #[.int .i64 o, .int .i64 x, .int .i64 y] 25)) = wa at *
  obtain ⟨A, hAq⟩ : ∃ A, A = w1.heap.size := ⟨_, rfl⟩
  rw [← hAq] at t0 t1 t2 hA ⊢
  clear hAq hb1
  go_at_call 14
  refine (spec_IsValidTransform _ _ _ _).mono ?_
  rintro e w2 ⟨rfl, hb2⟩
  replace t0 := keep_cell hb2 t0
  replace t1 := keep_cell hb2 t1
  replace t2 := keep_cell hb2 t2
  replace hbA := bel_trans hbA hb2
  go_wp2_with fail
  go_at_call 8
  refine (impl_FormatTransform o x y w2 (HE.out.tab.kept hbA)).mono ?_
  rintro e w3 ⟨rfl, hb3⟩
  replace t0 := keep_cell hb3 t0
  replace t1 := keep_cell hb3 t1
  replace t2 := keep_cell hb3 t2
  replace hbA := bel_trans hbA hb3
  go_wp2_with fail
  go_at_call 10
  refine (impl_ParseTransform (fmtS o x y) (big_fmt o x y) w3 (HE.out.kept hbA)).mono ?_
  rintro e w4 ⟨o1, x1, y1, b1, he4, hp, hb4⟩
  obtain ⟨q1, q2, q3, q4⟩ := parsed_one (s := fmtS o x y) (.inl ⟨rfl, HV.out, rfl⟩) hp
  subst q1 q2 q3 q4 he4
  clear hp
  replace t0 := keep_cell hb4 t0
  replace t1 := keep_cell hb4 t1
  replace t2 := keep_cell hb4 t2
  replace hbA := bel_trans hbA hb4
  have hz := World.block_lt_of_cell? _ _ t0
  have hw4 := hbA.size
  clear hb2 hb3 hb4 hv
  go_wp2_with fail
  go_loopw [7, 8] (fun s7 s8 wr => ∃ i : Nat, i ≤ 3 ∧ s8 = .int .i64 i ∧ OwnPts wr (w4.heap.size + 1 + 1) s7 ((T3 o x y).take i) ∧ onP (T3 o x y) i = true ∧ Kept3 A w4.heap.size (w4.heap.size + 1) (w4.heap.size + 1 + 1) o x y wr ∧ Below w.heap.size w wr) (fun _ s8 _ => 3 - (intOf s8).toNat)
  case atStart =>
    refine ⟨0, by omega, rfl, ?_, rfl, ?_, (by repeat (first | with_reducible exact Below.refl _ _ | with_reducible assumption | with_reducible refine bel_alloc ?_ _ | with_reducible refine bel_drew ?_ | with_reducible refine bel_drewN ?_ _ | with_reducible refine bel_set ?_ (by (try simp) <;> omega) _ | with_reducible refine bel_trans ?_ (by assumption)))⟩
    · exact ownP_nil _ _ (by simp)
    · refine ⟨⟨by omega, by omega, by omega, by simp⟩, keep_alloc (keep_alloc (keep_alloc t0 _) _) _, keep_alloc (keep_alloc (keep_alloc t1 _) _) _, keep_alloc (keep_alloc (keep_alloc t2 _) _) _,
        keep_alloc (keep_alloc (by simp [go_sem]) _) _, keep_alloc (keep_alloc (by simp [go_sem]) _) _, keep_alloc (keep_alloc (by simp [go_sem]) _) _, fun i hi => ?_⟩
      have : i = 0 ∨ i = 1 ∨ i = 2 := by omega
      rcases this with rfl | rfl | rfl
      · exact ⟨keep_alloc (by simp [go_sem, ptN, P3]) _, keep_alloc (by simp [go_sem, ptN, P3]) _⟩
      · exact ⟨keep_alloc (by simp [go_sem, ptN, P3]) _, keep_alloc (by simp [go_sem, ptN, P3]) _⟩
      · exact ⟨keep_alloc (by simp [go_sem, ptN, P3]) _, keep_alloc (by simp [go_sem, ptN, P3]) _⟩
  case round =>
    obtain ⟨i, hi, rfl, hown, hon, hk, hbl⟩ := hrel
    have HN := hide hon
    have HK := hide hk
    obtain ⟨⟨la, lb, lc, ld⟩, k0, k1, k2, u0, u1, u2, hpt⟩ := hk
    obtain ⟨D, hD⟩ : ∃ D, D = (T3 o x y).take i := ⟨_, rfl⟩
    rw [← hD] at hown
    have HD := hide hD
    clear hon t0 t1 t2 hD
    by_cases hy : i < 3
    · have HO := hide hown
      obtain ⟨s0, s1, rfl⟩ := ownP_slice hown
      clear hown
      obtain ⟨c0, c1⟩ := hpt i hy
      obtain ⟨px, hpx⟩ : ∃ p, p = (ptN P3 i).1 := ⟨_, rfl⟩
      obtain ⟨py, hpy⟩ : ∃ p, p = (ptN P3 i).2 := ⟨_, rfl⟩
      obtain ⟨qx, hqx⟩ : ∃ p, p = mvX o x px py := ⟨_, rfl⟩
      obtain ⟨qy, hqy⟩ : ∃ p, p = mvY o y px py := ⟨_, rfl⟩
      have HT := hide (show (T3 o x y).take (i + 1) = D ++ [(qx, qy)] by rw [HD.out, hqx, hqy, hpx, hpy]; exact t3_take o x y hy)
      have HQ := hide (show onP (T3 o x y) (i + 1) = (onP (T3 o x y) i && vPt qx qy) by rw [onP_succ, t3_at o x y hy, hqx, hqy, hpx, hpy])
      have HM := hide (show ∀ W : World, Calls Tryd.prog 15 #[.agg #[.int .i64 o, .int .i64 x, .int .i64 y], .agg #[.int .i64 px, .int .i64 py]] W fun e w' => e = .returned (.tuple #[.agg #[.int .i64 qx, .int .i64 qy], .bool true]) ∧ Below W.heap.size W w' from fun W => by rw [hqx, hqy]; exact move_on HV.out (by rw [hpx, hpy]; exact p3_on hy) W)
      rw [← hpx] at c0
      rw [← hpy] at c1
      clear hpx hpy hqx hqy hpt
      have hx0 : (0 : Int) ≤ (i : Int) := Int.natCast_nonneg _
      have hx1 : (i : Int) < 3 := by omega
      have hln : D.length ≤ 3 := by rw [HD.out, List.length_take, t3_len]; omega
      by_cases hq : vPt qx qy = true
      · obtain ⟨⟨g1, g2⟩, g3, g4⟩ := vPt_iff.1 hq
        have HV2 := hide hq
        clear hq
        go_wp2_with fail
        go_region_held3 (fun w' => w'.cell? ⟨A, 0, none⟩ = some (.int .i64 o) ∧ w'.cell? ⟨A, 1, none⟩ = some (.int .i64 x) ∧ w'.cell? ⟨A, 2, none⟩ = some (.int .i64 y) ∧ w'.cell? ⟨w4.heap.size + 1, i * 2, none⟩ = some (.int .i64 px) ∧ w'.cell? ⟨w4.heap.size + 1, i * 2 + 1, none⟩ = some (.int .i64 py) ∧ Below wr.heap.size wr w')
          (((repeat' apply And.intro) <;> first | (simp [go_sem, *]; done) | (simp [go_sem, *]; intros; omega) | (((try simp [*]) <;> omega); done) | ((repeat (first | with_reducible exact Below.refl _ _ | with_reducible assumption | with_reducible refine bel_alloc ?_ _ | with_reducible refine bel_drew ?_ | with_reducible refine bel_drewN ?_ _ | with_reducible refine bel_set ?_ (by (try simp) <;> omega) _ | with_reducible refine bel_trans ?_ (by assumption))); done) | (simp [go_sem, *, ↓IntWalk.iteOmega]; done) | (simp [go_sem, *, ↓IntWalk.iteOmega]; intros; omega))) ((go_at_call 15; refine (HM.out _).mono ?_; rintro e w5 ⟨rfl, hb⟩; obtain ⟨_, _, hc, hf⟩ := bcellI hb; have hs := hb.size; (try simp at hs)))
        · obtain ⟨wx, hwx⟩ : ∃ wx, wx = w5.alloc (.cells #[.int .i64 qx, .int .i64 qy] 37) := ⟨_, rfl⟩
          have hb5 : Below wr.heap.size wr wx := by rw [hwx]; exact bel_alloc (bel_trans (bel_drew (Below.refl _ _)) hb) _
          obtain ⟨Q, hQ⟩ : ∃ Q, Q = w5.heap.size := ⟨_, rfl⟩
          have z0 : wx.cell? ⟨Q, 0, none⟩ = some (.int .i64 qx) := by rw [hwx, hQ]; simp [go_sem]
          have z1 : wx.cell? ⟨Q, 1, none⟩ = some (.int .i64 qy) := by rw [hwx, hQ]; simp [go_sem]
          rw [← hwx]
          rw [← hQ]
          clear hwx hQ hc hf hb
          have hz5 := World.block_lt_of_cell? _ _ z0
          go_wp2_with (at_builtin; go_must (refine wpList_append_point rfl _ _ rfl (w4.heap.size + 1 + 1) _ D rfl (World.ownsRow.alloc (ownP_next HO.out hb5) _) wx.heap.size (qx, qy) rfl (by simp [go_sem]) (by simp [go_sem]) (by omega) (by have := hb5.size; simp; omega) ?_); intro v' w6 ho1 hg1; refine Hid.out ?_)
          refine hide ?_
          have hd5 : Below (w4.heap.size + 1 + 1) wr wx := hb5.mono ld
          have hz6 := hd5.size
          have hd6 : Below (w4.heap.size + 1 + 1) wr w6 := (hd5.alloc (by omega) _).grown hg1 (by simp; omega) (fun k e => (World.ownsRow.lt HO.out k e).1)
          have hfin : Below w.heap.size w w6 := hbl.trans (hd6.mono (by omega))
          go_wp2_with fail
          go_roundw
          case rel => exact ⟨i + 1, hy, by go_num, by rw [HT.out]; exact ho1, by rw [HQ.out, HN.out, HV2.out]; rfl, HK.out.kept hd6, hfin⟩
          case measure => simp [intOf]; omega
        · obtain ⟨wx, hwx⟩ : ∃ wx, wx = (w5.setCell ⟨wr.heap.size, 0, none⟩ (.int .i64 qx)).setCell ⟨wr.heap.size, 1, none⟩ (.int .i64 qy) := ⟨_, rfl⟩
          have hb5 : Below wr.heap.size wr wx := by rw [hwx]; exact bel_set (bel_set (bel_trans (bel_drew (bel_alloc (Below.refl _ _) _)) hb) (Nat.le_refl _) _) (Nat.le_refl _) _
          obtain ⟨Q, hQ⟩ : ∃ Q, Q = wr.heap.size := ⟨_, rfl⟩
          have z0 : wx.cell? ⟨Q, 0, none⟩ = some (.int .i64 qx) := by rw [hwx, hQ]; simp [go_sem, hc]
          have z1 : wx.cell? ⟨Q, 1, none⟩ = some (.int .i64 qy) := by rw [hwx, hQ]; simp [go_sem, hc]
          rw [← hwx]
          rw [← hQ]
          clear hwx hQ hc hf hb
          have hz5 := World.block_lt_of_cell? _ _ z0
          go_wp2_with (at_builtin; go_must (refine wpList_append_point rfl _ _ rfl (w4.heap.size + 1 + 1) _ D rfl (World.ownsRow.alloc (ownP_next HO.out hb5) _) wx.heap.size (qx, qy) rfl (by simp [go_sem]) (by simp [go_sem]) (by omega) (by have := hb5.size; simp; omega) ?_); intro v' w6 ho1 hg1; refine Hid.out ?_)
          refine hide ?_
          have hd5 : Below (w4.heap.size + 1 + 1) wr wx := hb5.mono ld
          have hz6 := hd5.size
          have hd6 : Below (w4.heap.size + 1 + 1) wr w6 := (hd5.alloc (by omega) _).grown hg1 (by simp; omega) (fun k e => (World.ownsRow.lt HO.out k e).1)
          have hfin : Below w.heap.size w w6 := hbl.trans (hd6.mono (by omega))
          go_wp2_with fail
          go_roundw
          case rel => exact ⟨i + 1, hy, by go_num, by rw [HT.out]; exact ho1, by rw [HQ.out, HN.out, HV2.out]; rfl, HK.out.kept hd6, hfin⟩
          case measure => simp [intOf]; omega
      · have hcase : qx < -40 ∨ (-40 ≤ qx ∧ 40 < qx) ∨ (-40 ≤ qx ∧ qx ≤ 40 ∧ qy < -40) ∨ (-40 ≤ qx ∧ qx ≤ 40 ∧ -40 ≤ qy ∧ 40 < qy) := by
          have : ¬ ((-40 ≤ qx ∧ qx ≤ 40) ∧ (-40 ≤ qy ∧ qy ≤ 40)) := fun h => hq (vPt_iff.2 h)
          omega
        clear hq
        rcases hcase with g1 | ⟨g1, g2⟩ | ⟨g1, g2, g3⟩ | ⟨g1, g2, g3, g4⟩
        all_goals
          go_wp2_with fail
          go_region_held3 (fun w' => w'.cell? ⟨A, 0, none⟩ = some (.int .i64 o) ∧ w'.cell? ⟨A, 1, none⟩ = some (.int .i64 x) ∧ w'.cell? ⟨A, 2, none⟩ = some (.int .i64 y) ∧ w'.cell? ⟨w4.heap.size + 1, i * 2, none⟩ = some (.int .i64 px) ∧ w'.cell? ⟨w4.heap.size + 1, i * 2 + 1, none⟩ = some (.int .i64 py) ∧ Below wr.heap.size wr w')
            (((repeat' apply And.intro) <;> first | (simp [go_sem, *]; done) | (simp [go_sem, *]; intros; omega) | (((try simp [*]) <;> omega); done) | ((repeat (first | with_reducible exact Below.refl _ _ | with_reducible assumption | with_reducible refine bel_alloc ?_ _ | with_reducible refine bel_drew ?_ | with_reducible refine bel_drewN ?_ _ | with_reducible refine bel_set ?_ (by (try simp) <;> omega) _ | with_reducible refine bel_trans ?_ (by assumption))); done) | (simp [go_sem, *, ↓IntWalk.iteOmega]; done) | (simp [go_sem, *, ↓IntWalk.iteOmega]; intros; omega))) ((go_at_call 15; refine (HM.out _).mono ?_; rintro e w5 ⟨rfl, hb⟩; obtain ⟨_, _, hc, hf⟩ := bcellI hb; have hs := hb.size; (try simp at hs)))
          · obtain ⟨wx, hwx⟩ : ∃ wx, wx = w5.alloc (.cells #[.int .i64 qx, .int .i64 qy] 37) := ⟨_, rfl⟩
            have hb5 : Below wr.heap.size wr wx := by rw [hwx]; exact bel_alloc (bel_trans (bel_drew (Below.refl _ _)) hb) _
            obtain ⟨Q, hQ⟩ : ∃ Q, Q = w5.heap.size := ⟨_, rfl⟩
            have z0 : wx.cell? ⟨Q, 0, none⟩ = some (.int .i64 qx) := by rw [hwx, hQ]; simp [go_sem]
            have z1 : wx.cell? ⟨Q, 1, none⟩ = some (.int .i64 qy) := by rw [hwx, hQ]; simp [go_sem]
            rw [← hwx]
            rw [← hQ]
            clear hwx hQ hc hf hb
            have hz5 := World.block_lt_of_cell? _ _ z0
            replace k0 := keep_cell hb5 k0
            replace k1 := keep_cell hb5 k1
            replace k2 := keep_cell hb5 k2
            replace u0 := keep_cell hb5 u0
            replace u1 := keep_cell hb5 u1
            replace u2 := keep_cell hb5 u2
            replace hbl := bel_trans hbl hb5
            go_wp2_with fail
            go_ret
            exact ⟨rfl, hbl⟩
          · obtain ⟨wx, hwx⟩ : ∃ wx, wx = (w5.setCell ⟨wr.heap.size, 0, none⟩ (.int .i64 qx)).setCell ⟨wr.heap.size, 1, none⟩ (.int .i64 qy) := ⟨_, rfl⟩
            have hb5 : Below wr.heap.size wr wx := by rw [hwx]; exact bel_set (bel_set (bel_trans (bel_drew (bel_alloc (Below.refl _ _) _)) hb) (Nat.le_refl _) _) (Nat.le_refl _) _
            obtain ⟨Q, hQ⟩ : ∃ Q, Q = wr.heap.size := ⟨_, rfl⟩
            have z0 : wx.cell? ⟨Q, 0, none⟩ = some (.int .i64 qx) := by rw [hwx, hQ]; simp [go_sem, hc]
            have z1 : wx.cell? ⟨Q, 1, none⟩ = some (.int .i64 qy) := by rw [hwx, hQ]; simp [go_sem, hc]
            rw [← hwx]
            rw [← hQ]
            clear hwx hQ hc hf hb
            have hz5 := World.block_lt_of_cell? _ _ z0
            replace k0 := keep_cell hb5 k0
            replace k1 := keep_cell hb5 k1
            replace k2 := keep_cell hb5 k2
            replace u0 := keep_cell hb5 u0
            replace u1 := keep_cell hb5 u1
            replace u2 := keep_cell hb5 u2
            replace hbl := bel_trans hbl hb5
            go_wp2_with fail
            go_ret
            exact ⟨rfl, hbl⟩
    · obtain rfl : i = 3 := by omega
      have hDT : D = T3 o x y := by rw [HD.out, List.take_of_length_le (by rw [t3_len]; omega)]
      rw [hDT] at hown
      clear hDT
      obtain ⟨s0, s1, rfl⟩ := ownP_slice hown
      rw [t3_len]
      have HO := hide (pts_at hown)
      clear hown hpt
      go_wp2_with fail
      go_at_call 16
      refine (find_o HV.out HN.out _ _ _ _ wr HK.out.pts HO.out).mono ?_
      rintro e w5 ⟨rfl, hb5⟩
      replace k0 := keep_cell hb5 k0
      replace k1 := keep_cell hb5 k1
      replace k2 := keep_cell hb5 k2
      replace u0 := keep_cell hb5 u0
      replace u1 := keep_cell hb5 u1
      replace u2 := keep_cell hb5 u2
      replace hbl := bel_trans hbl hb5
      have hz5 := hb5.size
      go_wp2_with fail
      go_ret
      exact ⟨rfl, (by repeat (first | with_reducible exact Below.refl _ _ | with_reducible assumption | with_reducible refine bel_alloc ?_ _ | with_reducible refine bel_drew ?_ | with_reducible refine bel_drewN ?_ _ | with_reducible refine bel_set ?_ (by (try simp) <;> omega) _ | with_reducible refine bel_trans ?_ (by assumption)))⟩

set_option maxRecDepth 100000 in
theorem lifted (os : Os) (started : os.Started) (H : Type) (enc : TypeId × Value → H) :
    ReturnsInHanded {} Tryd.checked os 5 .any (fun w args => (Rows.fnTransformTextSpec.pre enc Tryd.prog Tryd.f5 [] false w args ∧ laidMetH Tryd.prog laid w) ∧ sizedMet enc Tryd.prog Tryd.f5 (OpenSpec.ofChange Rows.fnTransformTextSpec) false w args) (Rows.fnTransformTextSpec.post enc Tryd.prog Tryd.f5 false true false false) := by
  refine law_laid (C := Tryd.checked) (tb := 4) own started (by kernel_rfl) Tryd.func5 laidOut (by kernel_rfl) Tryd.underlying4 (by kernel_rfl) rfl
    (ChangeSpec.witness_shaped (enc := enc) (C := Tryd.checked) (os := os) (X := fun w _ => laidMetH Tryd.prog laid w) false (World.laidAll Tryd.prog os laid) #[.slice none 0 0] 8 (World.laidAll_os _ _ _)
      (World.shaped_of_ZipB (by kernel_rfl) (by kernel_rfl)) (by kernel_rfl) (by kernel_rfl) (by kernel_rfl)
      (by rw [MakeChecks.laidMetH_plain _ _ _ (by kernel_rfl)]; exact laidMet_laidAll _ (by kernel_rfl) (by kernel_rfl))) ?_
  intro W base args ds ps hval hA hlt hsh hL
  have hA : DataW.TrodAll enc Tryd.prog W 0 (fun _ => true) true Tryd.f5.params.toList args.toList ds ps := hA
  have hval : ∀ (j : Nat) t v, Tryd.f5.params[j]? = some t → args[j]? = some v → Value.okWide Tryd.prog W .any base t v := hval
  rw [Tryd.params5] at hA hval
  rw [MakeChecks.laidMetH_plain _ _ _ (by kernel_rfl)] at hL
  obtain ⟨v0, vs0, d0, ds0, p0, q0, hargs, rfl, rfl, h0, r0⟩ := trodAll_cons hA
  obtain ⟨rfl, rfl, rfl⟩ := trodAll_nil r0
  obtain rfl : args = #[v0] := by cases args; simp_all
  refine ⟨rfl, ?_⟩
  obtain ⟨a0, n0, c0, rfl, _, hin0⟩ := open_bytes Tryd.underlying32 (by kernel_rfl) Tryd.underlying5 (okWide_slice Tryd.underlying32 (hval 0 32 v0 rfl rfl)) h0
  exact walk n0 c0 a0 W hin0 (env_of hL hsh)

theorem row_holds : Rows.FnTransformTextSaid :=
  OpenClaim.holds_of_wide 5 Tryd.f5 rfl rfl rfl rfl rfl rfl rfl ⟨rfl, rfl, rfl, rfl, rfl⟩ rfl rfl rfl rfl rfl (by kernel_rfl) Tryd.func5 (by kernel_rfl)
    (of_decide_eq_true (by kernel_rfl)) (by unfold Func.isWrapper; first | (rw [if_pos (by decide +kernel)]; kernel_rfl) | (rw [if_neg (by decide +kernel)]; exact ⟨rfl, rfl⟩))
    (fun os started H enc _ => lifted os started H enc)
theorem proved : Rows.FnTransformTextCardSaid :=
  Claim7.holds_tied_plain_at .later [] [.data, .data, .data, .data, .sentinel, .sentinel, .pinned] true (true, "0bde62939612b391efbb4310f3fe397adc3abe477e44bb6579449d10d1975fa6") true
    row_holds (fun _ h => by cases h) (by kernel_rfl) (fun _ h => by cases h) fnTransformText_row_tie rfl ⟨rfl, rfl⟩ (by kernel_rfl) rfl
    (fun f fn hf hfn => by
      obtain rfl : f = 5 := Option.some.inj ((show Tryd.prog.funcNamed Tryd.f5.name = some 5 by kernel_rfl).symm.trans hf) |>.symm
      obtain rfl : fn = Tryd.f5 := (Option.some.inj (Tryd.func5.symm.trans hfn)).symm
      exact ⟨by kernel_rfl, fun j t ht => by
        rw [Tryd.params5] at ht
        have hm : t ∈ [32] := by simpa using Array.mem_of_getElem? ht
        have hall : ([32].all fun u => !Tryd.prog.wantsStandIn u) = true := by kernel_rfl
        exact (show Tryd.prog.wantsStandIn t = false by simpa using List.all_eq_true.1 hall t hm)⟩)
    (by kernel_rfl)

#print axioms proved
end Go.Proofs.YtldgjocjcbhkmabDoor.lawFnTransformTextCard
