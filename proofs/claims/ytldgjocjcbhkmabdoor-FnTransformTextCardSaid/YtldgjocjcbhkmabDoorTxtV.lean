/- Contracts: the text of a transform (reference and program). -/
import Derived.Test.YtldgjocjcbhkmabDoorTxtW
import Derived.Test.YtldgjocjcbhkmabDoorShf
import Derived.Lib.AppendIntMem
import Derived.Deep.RegionHeld3
namespace Go.Proofs.YtldgjocjcbhkmabDoor
open Go.RowKit
attribute [local go_sem low] cell_alloc_ite frozen_alloc_ite

/-- The table that the library's decimal numbers are written by. -/
def Tab (w : World) : Prop := Lib.TabIs Tryd.prog w "internal/strconv.uint64pow10" .u64 Lib.pow10Tab
theorem Tab.kept {w w' : World} (h : Tab w) (hb : Below w.heap.size w w') : Tab w' := (Lib.tabBelow_of_tabIs h).on hb |>.here
set_option maxRecDepth 100000 in
set_option maxHeartbeats 400000 in
theorem impl_decimal (n : Int) (hn : -9223372036854775808 ≤ n ∧ n ≤ 9223372036854775807) (w : World) (h : Tab w) : Calls Tryd.prog 19 #[.int .i64 n] w (RetStr w (Lib.itoa n)) := by
  have HN := hide hn
  clear hn
  go_enter Tryd.func19, Tryd.ntmps19
  go_wp2_with fail
  go_at_call 31
  refine (Tryd.strconv_FormatInt_10 n HN.out.1 HN.out.2 w h).mono ?_
  rintro e w1 ⟨rfl, k, os, rfl⟩
  have hb := hide (Lib.below_grow w.heap.size w (Nat.le_refl _) k os)
  go_wp2_with fail
  go_ret
  exact ⟨rfl, hb.out⟩

/-! ### sums of short strings -/
theorem add_short {P : Program} (w : World) (a b : ByteArray) (h : a.size + b.size ≤ 1000) : (Op.stringOp .add a b).run P w = .ok (.string (a ++ b)) w := run_string_add_sum w a b (by omega)
attribute [local go_sem high] add_short
def fmtS (o x y : Int) : ByteArray := if vTr o x y then ⟨(fmtL o x y).toArray⟩ else ⟨#[]⟩
theorem size_of_list (l : List UInt8) : (⟨l.toArray⟩ : ByteArray).size = l.length := by simp [ByteArray.size]
theorem app_list (l m : List UInt8) : (⟨l.toArray⟩ : ByteArray) ++ ⟨m.toArray⟩ = ⟨(l ++ m).toArray⟩ := by
  apply ByteArray.ext
  simp [ByteArray.data_append]
/-- The parts of a transform's text, behind names. -/
structure Parts (o x y : Int) (A N X Y c1 c2 c3 c4 c5 : ByteArray) : Prop where
  e1 : A ++ N = c1
  e2 : c1 ++ ⟨#[32]⟩ = c2
  e3 : c2 ++ X = c3
  e4 : c3 ++ ⟨#[32]⟩ = c4
  e5 : c4 ++ Y = c5
  s1 : 1 + N.size ≤ 1000
  s2 : c1.size + 1 ≤ 1000
  s3 : c2.size + X.size ≤ 1000
  s4 : c3.size + 1 ≤ 1000
  s5 : c4.size + Y.size ≤ 1000
  all : c5 = fmtS o x y
theorem parts_of {o x y : Int} (h : vTr o x y = true) : ∃ N X Y c1 c2 c3 c4 c5, N = ⟨(Lib.itoa (o % 4)).toArray⟩ ∧ X = ⟨(Lib.itoa x).toArray⟩ ∧ Y = ⟨(Lib.itoa y).toArray⟩ ∧ Parts o x y ⟨#[letterN o]⟩ N X Y c1 c2 c3 c4 c5 := by
  obtain ⟨ho, hx, hy⟩ := vTr_iff.1 h
  have l1 := (num80 hx).len
  have l2 := (num80 hy).len
  have l0 : (Lib.itoa (o % 4)).length = 1 := by rw [itoa4 ho]; rfl
  have hA : (⟨#[letterN o]⟩ : ByteArray) = ⟨[letterN o].toArray⟩ := rfl
  have h32 : (⟨#[32]⟩ : ByteArray) = ⟨[(32 : UInt8)].toArray⟩ := rfl
  refine ⟨_, _, _, _, _, _, _, _, rfl, rfl, rfl, rfl, rfl, rfl, rfl, rfl, ?_, ?_, ?_, ?_, ?_, ?_⟩
  · rw [size_of_list]; omega
  all_goals simp only [app_list, size_of_list, List.length_append, List.length_singleton]
  · omega
  · omega
  · omega
  · omega
  · unfold fmtS
    rw [if_pos h]
    unfold fmtL
    simp
set_option maxRecDepth 100000 in
set_option maxHeartbeats 3200000 in
theorem spec_FormatTransform (t0 t1 t2 : Int) (w : World) : Calls Tryd.prog 6 #[.agg #[.int .i64 t0, .int .i64 t1, .int .i64 t2]] w
    fun e w' => e = .returned (.string (fmtS t0 t1 t2)) ∧ Below w.heap.size w w' := by
  by_cases hv : vTr t0 t1 t2 = true
  · obtain ⟨N, X, Y, c1, c2, c3, c4, c5, hN, hX, hY, hp⟩ := parts_of hv
    have B := hide (vTr_iff.1 hv)
    have hz : ∀ W, Below w.heap.size w W → Calls Tryd.prog 17 #[.int .i64 (t0 % 4)] W fun e w' => e = .returned (.string N) ∧ Below W.heap.size W w' := fun W hW => by rw [hN]; exact spec_l01Number _ (by have := B.out.1; omega) _
    have hx : ∀ W, Below w.heap.size w W → Calls Tryd.prog 17 #[.int .i64 t1] W fun e w' => e = .returned (.string X) ∧ Below W.heap.size W w' := fun W hW => by rw [hX]; exact spec_l01Number _ (by have := B.out.2.1; omega) _
    have hy : ∀ W, Below w.heap.size w W → Calls Tryd.prog 17 #[.int .i64 t2] W fun e w' => e = .returned (.string Y) ∧ Below W.heap.size W w' := fun W hW => by rw [hY]; exact spec_l01Number _ (by have := B.out.2.2; omega) _
    have HZ := hide hz
    have HX := hide hx
    have HY := hide hy
    obtain ⟨e1, e2, e3, e4, e5, s1, s2, s3, s4, s5, hall⟩ := hp
    have HALL := hide hall
    have b0 : (0 : Int) ≤ t0 := B.out.1.1
    have hm : t0.tmod 4 = t0 % 4 := Int.tmod_eq_emod_of_nonneg b0
    have hwm : IntKind.i64.wrap (t0 % 4) = t0 % 4 := IntWalk.i64_in _ (by omega)
    have HB := hide (bel_alloc (Below.refl w.heap.size w) (.cells #[.int .i64 t0, .int .i64 t1, .int .i64 t2] 25))
    clear hz hx hy hN hX hY hall
    by_cases h4 : 4 ≤ t0
    · rw [show letterN t0 = 109 from if_pos h4] at e1
      go_enter Tryd.func6, Tryd.ntmps6
      go_wp2_with fail
      go_at_call 14
      refine (spec_IsValidTransform _ _ _ _).mono ?_
      rintro e w1 ⟨rfl, hb1⟩
      have hbl : Below w.heap.size w w1 := bel_trans HB.out hb1
      have k0 := (hb1.cell (p := ⟨w.heap.size, 0, none⟩) (by simp)).trans (show _ = some (.int .i64 t0) by simp [go_sem])
      have k1 := (hb1.cell (p := ⟨w.heap.size, 1, none⟩) (by simp)).trans (show _ = some (.int .i64 t1) by simp [go_sem])
      have k2 := (hb1.cell (p := ⟨w.heap.size, 2, none⟩) (by simp)).trans (show _ = some (.int .i64 t2) by simp [go_sem])
      go_wp2_with fail
      go_region_held3 (fun w' => w'.cell? ⟨w.heap.size, 0, none⟩ = some (.int .i64 t0) ∧ w'.cell? ⟨w.heap.size, 1, none⟩ = some (.int .i64 t1) ∧ w'.cell? ⟨w.heap.size, 2, none⟩ = some (.int .i64 t2) ∧ Below w.heap.size w w')
        (first | (go_split_ands; ((repeat' apply And.intro) <;> first | exact keep_cell hb (by assumption) | exact bel_trans (by assumption) hb | exact bel_trans (bel_drew (by assumption)) hb)) | ((repeat' apply And.intro) <;> first | (simp [go_sem, *]; done) | exact (by repeat (first | with_reducible exact Below.refl _ _ | with_reducible assumption | with_reducible refine bel_alloc ?_ _ | with_reducible refine bel_drew ?_ | with_reducible refine bel_drewN ?_ _ | with_reducible refine bel_set ?_ (by (try simp) <;> omega) _ | with_reducible refine bel_trans ?_ (by assumption))))) ((go_at_call 17; first | ((with_reducible refine (HZ.out _ (by repeat (first | with_reducible exact Below.refl _ _ | with_reducible assumption | with_reducible refine bel_alloc ?_ _ | with_reducible refine bel_drew ?_ | with_reducible refine bel_drewN ?_ _ | with_reducible refine bel_set ?_ (by (try simp) <;> omega) _ | with_reducible refine bel_trans ?_ (by assumption)))).mono ?_); rintro e w2 ⟨rfl, hb⟩) | ((with_reducible refine (HX.out _ (by repeat (first | with_reducible exact Below.refl _ _ | with_reducible assumption | with_reducible refine bel_alloc ?_ _ | with_reducible refine bel_drew ?_ | with_reducible refine bel_drewN ?_ _ | with_reducible refine bel_set ?_ (by (try simp) <;> omega) _ | with_reducible refine bel_trans ?_ (by assumption)))).mono ?_); rintro e w2 ⟨rfl, hb⟩) | ((with_reducible refine (HY.out _ (by repeat (first | with_reducible exact Below.refl _ _ | with_reducible assumption | with_reducible refine bel_alloc ?_ _ | with_reducible refine bel_drew ?_ | with_reducible refine bel_drewN ?_ _ | with_reducible refine bel_set ?_ (by (try simp) <;> omega) _ | with_reducible refine bel_trans ?_ (by assumption)))).mono ?_); rintro e w2 ⟨rfl, hb⟩)))
      all_goals
        go_wp2_with fail
        go_ret
        exact ⟨by rw [← HALL.out]; rfl, (by repeat (first | with_reducible exact Below.refl _ _ | with_reducible assumption | with_reducible refine bel_alloc ?_ _ | with_reducible refine bel_drew ?_ | with_reducible refine bel_drewN ?_ _ | with_reducible refine bel_set ?_ (by (try simp) <;> omega) _ | with_reducible refine bel_trans ?_ (by assumption)))⟩
    · rw [show letterN t0 = 114 from if_neg h4] at e1
      go_enter Tryd.func6, Tryd.ntmps6
      go_wp2_with fail
      go_at_call 14
      refine (spec_IsValidTransform _ _ _ _).mono ?_
      rintro e w1 ⟨rfl, hb1⟩
      have hbl : Below w.heap.size w w1 := bel_trans HB.out hb1
      have k0 := (hb1.cell (p := ⟨w.heap.size, 0, none⟩) (by simp)).trans (show _ = some (.int .i64 t0) by simp [go_sem])
      have k1 := (hb1.cell (p := ⟨w.heap.size, 1, none⟩) (by simp)).trans (show _ = some (.int .i64 t1) by simp [go_sem])
      have k2 := (hb1.cell (p := ⟨w.heap.size, 2, none⟩) (by simp)).trans (show _ = some (.int .i64 t2) by simp [go_sem])
      go_wp2_with fail
      go_region_held3 (fun w' => w'.cell? ⟨w.heap.size, 0, none⟩ = some (.int .i64 t0) ∧ w'.cell? ⟨w.heap.size, 1, none⟩ = some (.int .i64 t1) ∧ w'.cell? ⟨w.heap.size, 2, none⟩ = some (.int .i64 t2) ∧ Below w.heap.size w w')
        (first | (go_split_ands; ((repeat' apply And.intro) <;> first | exact keep_cell hb (by assumption) | exact bel_trans (by assumption) hb | exact bel_trans (bel_drew (by assumption)) hb)) | ((repeat' apply And.intro) <;> first | (simp [go_sem, *]; done) | exact (by repeat (first | with_reducible exact Below.refl _ _ | with_reducible assumption | with_reducible refine bel_alloc ?_ _ | with_reducible refine bel_drew ?_ | with_reducible refine bel_drewN ?_ _ | with_reducible refine bel_set ?_ (by (try simp) <;> omega) _ | with_reducible refine bel_trans ?_ (by assumption))))) ((go_at_call 17; first | ((with_reducible refine (HZ.out _ (by repeat (first | with_reducible exact Below.refl _ _ | with_reducible assumption | with_reducible refine bel_alloc ?_ _ | with_reducible refine bel_drew ?_ | with_reducible refine bel_drewN ?_ _ | with_reducible refine bel_set ?_ (by (try simp) <;> omega) _ | with_reducible refine bel_trans ?_ (by assumption)))).mono ?_); rintro e w2 ⟨rfl, hb⟩) | ((with_reducible refine (HX.out _ (by repeat (first | with_reducible exact Below.refl _ _ | with_reducible assumption | with_reducible refine bel_alloc ?_ _ | with_reducible refine bel_drew ?_ | with_reducible refine bel_drewN ?_ _ | with_reducible refine bel_set ?_ (by (try simp) <;> omega) _ | with_reducible refine bel_trans ?_ (by assumption)))).mono ?_); rintro e w2 ⟨rfl, hb⟩) | ((with_reducible refine (HY.out _ (by repeat (first | with_reducible exact Below.refl _ _ | with_reducible assumption | with_reducible refine bel_alloc ?_ _ | with_reducible refine bel_drew ?_ | with_reducible refine bel_drewN ?_ _ | with_reducible refine bel_set ?_ (by (try simp) <;> omega) _ | with_reducible refine bel_trans ?_ (by assumption)))).mono ?_); rintro e w2 ⟨rfl, hb⟩)))
      all_goals
        go_wp2_with fail
        go_ret
        exact ⟨by rw [← HALL.out]; rfl, (by repeat (first | with_reducible exact Below.refl _ _ | with_reducible assumption | with_reducible refine bel_alloc ?_ _ | with_reducible refine bel_drew ?_ | with_reducible refine bel_drewN ?_ _ | with_reducible refine bel_set ?_ (by (try simp) <;> omega) _ | with_reducible refine bel_trans ?_ (by assumption)))⟩
  · have hf : fmtS t0 t1 t2 = ⟨#[]⟩ := if_neg hv
    have HF := hide hf
    clear hf
    go_enter Tryd.func6, Tryd.ntmps6
    go_wp2_with (go_at_call 14; refine (spec_IsValidTransform _ _ _ _).mono ?_; rintro e w1 ⟨rfl, hb⟩; obtain ⟨hc, hf⟩ := bcell hb; have hz := sz1 (show w.heap.size + 1 ≤ w1.heap.size by have := hb.size; (try simp at this); omega))
    go_ret
    exact ⟨by rw [HF.out]; rfl, (by repeat (first | with_reducible exact Below.refl _ _ | with_reducible assumption | with_reducible refine bel_alloc ?_ _ | with_reducible refine bel_drew ?_ | with_reducible refine bel_drewN ?_ _ | with_reducible refine bel_set ?_ (by (try simp) <;> omega) _ | with_reducible refine bel_trans ?_ (by assumption)))⟩
set_option maxRecDepth 100000 in
set_option maxHeartbeats 3200000 in
theorem impl_FormatTransform (t0 t1 t2 : Int) (w : World) (htab : Tab w) : Calls Tryd.prog 8 #[.agg #[.int .i64 t0, .int .i64 t1, .int .i64 t2]] w
    fun e w' => e = .returned (.string (fmtS t0 t1 t2)) ∧ Below w.heap.size w w' := by
  by_cases hv : vTr t0 t1 t2 = true
  · obtain ⟨N, X, Y, c1, c2, c3, c4, c5, hN, hX, hY, hp⟩ := parts_of hv
    have B := hide (vTr_iff.1 hv)
    have hz : ∀ W, Below w.heap.size w W → Calls Tryd.prog 19 #[.int .i64 (t0 % 4)] W fun e w' => e = .returned (.string N) ∧ Below W.heap.size W w' := fun W hW => by rw [hN]; exact impl_decimal _ (by have := B.out.1; omega) _ (htab.kept hW)
    have hx : ∀ W, Below w.heap.size w W → Calls Tryd.prog 19 #[.int .i64 t1] W fun e w' => e = .returned (.string X) ∧ Below W.heap.size W w' := fun W hW => by rw [hX]; exact impl_decimal _ (by have := B.out.2.1; omega) _ (htab.kept hW)
    have hy : ∀ W, Below w.heap.size w W → Calls Tryd.prog 19 #[.int .i64 t2] W fun e w' => e = .returned (.string Y) ∧ Below W.heap.size W w' := fun W hW => by rw [hY]; exact impl_decimal _ (by have := B.out.2.2; omega) _ (htab.kept hW)
    have HZ := hide hz
    have HX := hide hx
    have HY := hide hy
    obtain ⟨e1, e2, e3, e4, e5, s1, s2, s3, s4, s5, hall⟩ := hp
    have HALL := hide hall
    have b0 : (0 : Int) ≤ t0 := B.out.1.1
    have hm : t0.tmod 4 = t0 % 4 := Int.tmod_eq_emod_of_nonneg b0
    have hwm : IntKind.i64.wrap (t0 % 4) = t0 % 4 := IntWalk.i64_in _ (by omega)
    have HB := hide (bel_alloc (Below.refl w.heap.size w) (.cells #[.int .i64 t0, .int .i64 t1, .int .i64 t2] 25))
    clear hz hx hy hN hX hY hall
    by_cases h4 : 4 ≤ t0
    · rw [show letterN t0 = 109 from if_pos h4] at e1
      go_enter Tryd.func8, Tryd.ntmps8
      go_wp2_with fail
      go_at_call 18
      refine (impl_IsValidTransform _ _ _ _).mono ?_
      rintro e w1 ⟨rfl, hb1⟩
      have hbl : Below w.heap.size w w1 := bel_trans HB.out hb1
      have k0 := (hb1.cell (p := ⟨w.heap.size, 0, none⟩) (by simp)).trans (show _ = some (.int .i64 t0) by simp [go_sem])
      have k1 := (hb1.cell (p := ⟨w.heap.size, 1, none⟩) (by simp)).trans (show _ = some (.int .i64 t1) by simp [go_sem])
      have k2 := (hb1.cell (p := ⟨w.heap.size, 2, none⟩) (by simp)).trans (show _ = some (.int .i64 t2) by simp [go_sem])
      go_wp2_with fail
      go_region_held3 (fun w' => w'.cell? ⟨w.heap.size, 0, none⟩ = some (.int .i64 t0) ∧ w'.cell? ⟨w.heap.size, 1, none⟩ = some (.int .i64 t1) ∧ w'.cell? ⟨w.heap.size, 2, none⟩ = some (.int .i64 t2) ∧ Below w.heap.size w w')
        (first | (go_split_ands; ((repeat' apply And.intro) <;> first | exact keep_cell hb (by assumption) | exact bel_trans (by assumption) hb | exact bel_trans (bel_drew (by assumption)) hb)) | ((repeat' apply And.intro) <;> first | (simp [go_sem, *]; done) | exact (by repeat (first | with_reducible exact Below.refl _ _ | with_reducible assumption | with_reducible refine bel_alloc ?_ _ | with_reducible refine bel_drew ?_ | with_reducible refine bel_drewN ?_ _ | with_reducible refine bel_set ?_ (by (try simp) <;> omega) _ | with_reducible refine bel_trans ?_ (by assumption))))) ((go_at_call 19; first | ((with_reducible refine (HZ.out _ (by repeat (first | with_reducible exact Below.refl _ _ | with_reducible assumption | with_reducible refine bel_alloc ?_ _ | with_reducible refine bel_drew ?_ | with_reducible refine bel_drewN ?_ _ | with_reducible refine bel_set ?_ (by (try simp) <;> omega) _ | with_reducible refine bel_trans ?_ (by assumption)))).mono ?_); rintro e w2 ⟨rfl, hb⟩) | ((with_reducible refine (HX.out _ (by repeat (first | with_reducible exact Below.refl _ _ | with_reducible assumption | with_reducible refine bel_alloc ?_ _ | with_reducible refine bel_drew ?_ | with_reducible refine bel_drewN ?_ _ | with_reducible refine bel_set ?_ (by (try simp) <;> omega) _ | with_reducible refine bel_trans ?_ (by assumption)))).mono ?_); rintro e w2 ⟨rfl, hb⟩) | ((with_reducible refine (HY.out _ (by repeat (first | with_reducible exact Below.refl _ _ | with_reducible assumption | with_reducible refine bel_alloc ?_ _ | with_reducible refine bel_drew ?_ | with_reducible refine bel_drewN ?_ _ | with_reducible refine bel_set ?_ (by (try simp) <;> omega) _ | with_reducible refine bel_trans ?_ (by assumption)))).mono ?_); rintro e w2 ⟨rfl, hb⟩)))
      all_goals
        go_wp2_with fail
        go_ret
        exact ⟨by rw [← HALL.out]; rfl, (by repeat (first | with_reducible exact Below.refl _ _ | with_reducible assumption | with_reducible refine bel_alloc ?_ _ | with_reducible refine bel_drew ?_ | with_reducible refine bel_drewN ?_ _ | with_reducible refine bel_set ?_ (by (try simp) <;> omega) _ | with_reducible refine bel_trans ?_ (by assumption)))⟩
    · rw [show letterN t0 = 114 from if_neg h4] at e1
      go_enter Tryd.func8, Tryd.ntmps8
      go_wp2_with fail
      go_at_call 18
      refine (impl_IsValidTransform _ _ _ _).mono ?_
      rintro e w1 ⟨rfl, hb1⟩
      have hbl : Below w.heap.size w w1 := bel_trans HB.out hb1
      have k0 := (hb1.cell (p := ⟨w.heap.size, 0, none⟩) (by simp)).trans (show _ = some (.int .i64 t0) by simp [go_sem])
      have k1 := (hb1.cell (p := ⟨w.heap.size, 1, none⟩) (by simp)).trans (show _ = some (.int .i64 t1) by simp [go_sem])
      have k2 := (hb1.cell (p := ⟨w.heap.size, 2, none⟩) (by simp)).trans (show _ = some (.int .i64 t2) by simp [go_sem])
      go_wp2_with fail
      go_region_held3 (fun w' => w'.cell? ⟨w.heap.size, 0, none⟩ = some (.int .i64 t0) ∧ w'.cell? ⟨w.heap.size, 1, none⟩ = some (.int .i64 t1) ∧ w'.cell? ⟨w.heap.size, 2, none⟩ = some (.int .i64 t2) ∧ Below w.heap.size w w')
        (first | (go_split_ands; ((repeat' apply And.intro) <;> first | exact keep_cell hb (by assumption) | exact bel_trans (by assumption) hb | exact bel_trans (bel_drew (by assumption)) hb)) | ((repeat' apply And.intro) <;> first | (simp [go_sem, *]; done) | exact (by repeat (first | with_reducible exact Below.refl _ _ | with_reducible assumption | with_reducible refine bel_alloc ?_ _ | with_reducible refine bel_drew ?_ | with_reducible refine bel_drewN ?_ _ | with_reducible refine bel_set ?_ (by (try simp) <;> omega) _ | with_reducible refine bel_trans ?_ (by assumption))))) ((go_at_call 19; first | ((with_reducible refine (HZ.out _ (by repeat (first | with_reducible exact Below.refl _ _ | with_reducible assumption | with_reducible refine bel_alloc ?_ _ | with_reducible refine bel_drew ?_ | with_reducible refine bel_drewN ?_ _ | with_reducible refine bel_set ?_ (by (try simp) <;> omega) _ | with_reducible refine bel_trans ?_ (by assumption)))).mono ?_); rintro e w2 ⟨rfl, hb⟩) | ((with_reducible refine (HX.out _ (by repeat (first | with_reducible exact Below.refl _ _ | with_reducible assumption | with_reducible refine bel_alloc ?_ _ | with_reducible refine bel_drew ?_ | with_reducible refine bel_drewN ?_ _ | with_reducible refine bel_set ?_ (by (try simp) <;> omega) _ | with_reducible refine bel_trans ?_ (by assumption)))).mono ?_); rintro e w2 ⟨rfl, hb⟩) | ((with_reducible refine (HY.out _ (by repeat (first | with_reducible exact Below.refl _ _ | with_reducible assumption | with_reducible refine bel_alloc ?_ _ | with_reducible refine bel_drew ?_ | with_reducible refine bel_drewN ?_ _ | with_reducible refine bel_set ?_ (by (try simp) <;> omega) _ | with_reducible refine bel_trans ?_ (by assumption)))).mono ?_); rintro e w2 ⟨rfl, hb⟩)))
      all_goals
        go_wp2_with fail
        go_ret
        exact ⟨by rw [← HALL.out]; rfl, (by repeat (first | with_reducible exact Below.refl _ _ | with_reducible assumption | with_reducible refine bel_alloc ?_ _ | with_reducible refine bel_drew ?_ | with_reducible refine bel_drewN ?_ _ | with_reducible refine bel_set ?_ (by (try simp) <;> omega) _ | with_reducible refine bel_trans ?_ (by assumption)))⟩
  · have hf : fmtS t0 t1 t2 = ⟨#[]⟩ := if_neg hv
    have HF := hide hf
    clear hf
    go_enter Tryd.func8, Tryd.ntmps8
    go_wp2_with (go_at_call 18; refine (impl_IsValidTransform _ _ _ _).mono ?_; rintro e w1 ⟨rfl, hb⟩; obtain ⟨hc, hf⟩ := bcell hb; have hz := sz1 (show w.heap.size + 1 ≤ w1.heap.size by have := hb.size; (try simp at this); omega))
    go_ret
    exact ⟨by rw [HF.out]; rfl, (by repeat (first | with_reducible exact Below.refl _ _ | with_reducible assumption | with_reducible refine bel_alloc ?_ _ | with_reducible refine bel_drew ?_ | with_reducible refine bel_drewN ?_ _ | with_reducible refine bel_set ?_ (by (try simp) <;> omega) _ | with_reducible refine bel_trans ?_ (by assumption)))⟩
end Go.Proofs.YtldgjocjcbhkmabDoor
