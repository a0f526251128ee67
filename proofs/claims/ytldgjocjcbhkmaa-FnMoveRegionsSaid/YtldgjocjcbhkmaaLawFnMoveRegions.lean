/- Moving a region preserves its area and commutes with union. No condition. -/
import Derived.Test.YtldgjocjcbhkmaaRows
import Derived.Test.YtldgjocjcbhkmaaFrameB
import Derived.Test.YtldgjocjcbhkmaaDrw4
import Derived.Deep.RegionHeld3
import Derived.Test.YtldgjocjcbhkmaaDrw5
import Derived.Test.YtldgjocjcbhkmaaPln2
import Derived.Test.YtldgjocjcbhkmaaRegM2
import Derived.Test.YtldgjocjcbhkmaaRegH
import Derived.Test.YtldgjocjcbhkmaaRegF
namespace Go.Proofs.Ytldgjocjcbhkmaa.lawFnMoveRegions
open Go.ChangeShapes Go.WideShapes Go.ChangeAt Go.RowKit Go.Joins

theorem own : ownKnob Try.prog.godebug = none := by kernel_rfl
theorem laidOut : laidOutB Try.prog = true := by kernel_rfl

set_option maxRecDepth 100000 in
set_option maxHeartbeats 3200000 in
theorem walk (n c : Nat) (a : Option Addr) (_hn : n ≤ maxLen) (w : World) (hin : InBytes w.heap.size w a n) :
    Calls Try.prog 12 #[.slice a n c] w fun e w' => e = .returned (.bool true) ∧ Below w.heap.size w w' := by
  have hbel := Below.refl w.heap.size w
  by_cases hbig : (n : Int) > 4096
  · go_enter Try.func12, Try.ntmps12
    go_wp2_with fail
    go_at_call 24
    refine (laws_big _ _ _ _).mono ?_
    rintro e w1 ⟨he, rfl⟩
    rw [decide_eq_true hbig] at he
    subst he
    go_wp2_with fail
    go_ret
    exact ⟨rfl, hbel⟩
  · have hn4 : n ≤ 4096 := by omega
    have hn5 : n ≤ 5000 := by omega
    go_enter Try.func12, Try.ntmps12
    go_wp2_with fail
    go_at_call 24
    refine (laws_big _ _ _ _).mono ?_
    rintro e w1 ⟨he, rfl⟩
    rw [decide_eq_false (by omega : ¬ (n : Int) > 4096)] at he
    subst he
    clear hbig
    go_wp2_with fail
    go_at_call 61
    refine (spec_DrawMoveRegion n c a _ hin hn5).mono ?_
    rintro e w1 ⟨o, x, y, l_a, a_a, c_a, rfl, hr_a, hl_a, hb⟩
    replace hbel := hbel.trans (hb.mono hbel.size)
    clear hb
    have e0 : (w1.alloc (.cells #[.int .i64 o, .int .i64 x, .int .i64 y] 54)).cell? ⟨w1.heap.size, 0, none⟩ = some (.int .i64 o) := by simp [go_sem]
    have e1 : (w1.alloc (.cells #[.int .i64 o, .int .i64 x, .int .i64 y] 54)).cell? ⟨w1.heap.size, 1, none⟩ = some (.int .i64 x) := by simp [go_sem]
    have e2 : (w1.alloc (.cells #[.int .i64 o, .int .i64 x, .int .i64 y] 54)).cell? ⟨w1.heap.size, 2, none⟩ = some (.int .i64 y) := by simp [go_sem]
    replace hr_a := hr_a.kept (bel_alloc (Below.refl _ _) (.cells #[.int .i64 o, .int .i64 x, .int .i64 y] 54))
    replace hbel := hbel.alloc hbel.size (.cells #[.int .i64 o, .int .i64 x, .int .i64 y] 54)
    go_wp2_with fail
    generalize (w1.alloc (.cells #[.int .i64 o, .int .i64 x, .int .i64 y] 54)) = wT at *
    go_at_call 43
    refine (laws_other n c 3 (by omega) a _ (bytes_at hin hbel) (by omega)).mono ?_
    rintro e w2 ⟨ao, co, rfl, hino, hb⟩
    replace hr_a := hr_a.kept hb
    replace e0 := keep_cell hb e0
    replace e1 := keep_cell hb e1
    replace e2 := keep_cell hb e2
    replace hbel := hbel.trans (hb.mono hbel.size)
    clear hb
    go_wp2_with fail
    go_at_call 42
    refine (spec_DrawUnion (3 + n) co ao _ hino (by omega)).mono ?_
    rintro e w3 ⟨l_b, a_b, c_b, l_b2, a_b2, c_b2, rfl, hr_b, hr_b2, hl_b, hl_b2, hb⟩
    replace hr_a := hr_a.kept hb
    replace e0 := keep_cell hb e0
    replace e1 := keep_cell hb e1
    replace e2 := keep_cell hb e2
    replace hbel := hbel.trans (hb.mono hbel.size)
    clear hb
    clear hr_b2
    cases g_a : movB o x y l_a
    · have G_a := hide g_a
      clear g_a
      cases g_b : movB o x y l_b
      · have G_b := hide g_b
        clear g_b
        go_wp2_with fail
        go_at_call 62
        refine ((spec_MoveRegion l_a o x y _ _ _ hr_a hl_a).mono fun _ _ => retSB_var).mono ?_
        rintro e w4 ⟨l_x, HU_x, a_x, c_x, he, hr_x, hb⟩
        rw [G_a.out] at he
        subst he
        replace hr_a := hr_a.kept hb
        replace hr_b := hr_b.kept hb
        replace e0 := keep_cell hb e0
        replace e1 := keep_cell hb e1
        replace e2 := keep_cell hb e2
        replace hbel := hbel.trans (hb.mono hbel.size)
        clear hb
        have hl_x : l_x.length ≤ 2000000 := by rw [HU_x.out]; exact movR_len _ _ _ _
        go_wp2_with fail
        go_at_call 62
        refine ((spec_MoveRegion l_b o x y _ _ _ hr_b hl_b).mono fun _ _ => retSB_var).mono ?_
        rintro e w5 ⟨l_z, HU_z, a_z, c_z, he, hr_z, hb⟩
        rw [G_b.out] at he
        subst he
        replace hr_a := hr_a.kept hb
        replace hr_b := hr_b.kept hb
        replace hr_x := hr_x.kept hb
        replace e0 := keep_cell hb e0
        replace e1 := keep_cell hb e1
        replace e2 := keep_cell hb e2
        replace hbel := hbel.trans (hb.mono hbel.size)
        clear hb
        have hl_z : l_z.length ≤ 2000000 := by rw [HU_z.out]; exact movR_len _ _ _ _
        go_wp2_with fail
        all_goals (go_ret; exact ⟨rfl, hbel⟩)
      · have G_b := hide g_b
        clear g_b
        go_wp2_with fail
        go_at_call 62
        refine ((spec_MoveRegion l_a o x y _ _ _ hr_a hl_a).mono fun _ _ => retSB_var).mono ?_
        rintro e w4 ⟨l_x, HU_x, a_x, c_x, he, hr_x, hb⟩
        rw [G_a.out] at he
        subst he
        replace hr_a := hr_a.kept hb
        replace hr_b := hr_b.kept hb
        replace e0 := keep_cell hb e0
        replace e1 := keep_cell hb e1
        replace e2 := keep_cell hb e2
        replace hbel := hbel.trans (hb.mono hbel.size)
        clear hb
        have hl_x : l_x.length ≤ 2000000 := by rw [HU_x.out]; exact movR_len _ _ _ _
        go_wp2_with fail
        go_at_call 62
        refine ((spec_MoveRegion l_b o x y _ _ _ hr_b hl_b).mono fun _ _ => retSB_var).mono ?_
        rintro e w5 ⟨l_z, HU_z, a_z, c_z, he, hr_z, hb⟩
        rw [G_b.out] at he
        subst he
        replace hr_a := hr_a.kept hb
        replace hr_b := hr_b.kept hb
        replace hr_x := hr_x.kept hb
        replace e0 := keep_cell hb e0
        replace e1 := keep_cell hb e1
        replace e2 := keep_cell hb e2
        replace hbel := hbel.trans (hb.mono hbel.size)
        clear hb
        have hl_z : l_z.length ≤ 2000000 := by rw [HU_z.out]; exact movR_len _ _ _ _
        go_wp2_with fail
        all_goals (go_ret; exact ⟨rfl, hbel⟩)
    have G_a := hide g_a
    clear g_a
    cases g_b : movB o x y l_b
    · have G_b := hide g_b
      clear g_b
      go_wp2_with fail
      go_at_call 62
      refine ((spec_MoveRegion l_a o x y _ _ _ hr_a hl_a).mono fun _ _ => retSB_var).mono ?_
      rintro e w4 ⟨l_x, HU_x, a_x, c_x, he, hr_x, hb⟩
      rw [G_a.out] at he
      subst he
      replace hr_a := hr_a.kept hb
      replace hr_b := hr_b.kept hb
      replace e0 := keep_cell hb e0
      replace e1 := keep_cell hb e1
      replace e2 := keep_cell hb e2
      replace hbel := hbel.trans (hb.mono hbel.size)
      clear hb
      have hl_x : l_x.length ≤ 2000000 := by rw [HU_x.out]; exact movR_len _ _ _ _
      go_wp2_with fail
      go_at_call 62
      refine ((spec_MoveRegion l_b o x y _ _ _ hr_b hl_b).mono fun _ _ => retSB_var).mono ?_
      rintro e w5 ⟨l_z, HU_z, a_z, c_z, he, hr_z, hb⟩
      rw [G_b.out] at he
      subst he
      replace hr_a := hr_a.kept hb
      replace hr_b := hr_b.kept hb
      replace hr_x := hr_x.kept hb
      replace e0 := keep_cell hb e0
      replace e1 := keep_cell hb e1
      replace e2 := keep_cell hb e2
      replace hbel := hbel.trans (hb.mono hbel.size)
      clear hb
      have hl_z : l_z.length ≤ 2000000 := by rw [HU_z.out]; exact movR_len _ _ _ _
      go_wp2_with fail
      all_goals (go_ret; exact ⟨rfl, hbel⟩)
    have G_b := hide g_b
    clear g_b
    go_wp2_with fail
    go_at_call 62
    refine ((spec_MoveRegion l_a o x y _ _ _ hr_a hl_a).mono fun _ _ => retSB_var).mono ?_
    rintro e w4 ⟨l_x, HU_x, a_x, c_x, he, hr_x, hb⟩
    rw [G_a.out] at he
    subst he
    replace hr_a := hr_a.kept hb
    replace hr_b := hr_b.kept hb
    replace e0 := keep_cell hb e0
    replace e1 := keep_cell hb e1
    replace e2 := keep_cell hb e2
    replace hbel := hbel.trans (hb.mono hbel.size)
    clear hb
    have hl_x : l_x.length ≤ 2000000 := by rw [HU_x.out]; exact movR_len _ _ _ _
    go_wp2_with fail
    go_at_call 62
    refine ((spec_MoveRegion l_b o x y _ _ _ hr_b hl_b).mono fun _ _ => retSB_var).mono ?_
    rintro e w5 ⟨l_z, HU_z, a_z, c_z, he, hr_z, hb⟩
    rw [G_b.out] at he
    subst he
    replace hr_a := hr_a.kept hb
    replace hr_b := hr_b.kept hb
    replace hr_x := hr_x.kept hb
    replace e0 := keep_cell hb e0
    replace e1 := keep_cell hb e1
    replace e2 := keep_cell hb e2
    replace hbel := hbel.trans (hb.mono hbel.size)
    clear hb
    have hl_z : l_z.length ≤ 2000000 := by rw [HU_z.out]; exact movR_len _ _ _ _
    clear hr_z
    clear HU_z hl_z
    have GU := hide (union_img G_a.out G_b.out)
    go_wp2_with fail
    go_region_held3 (fun w' => w'.cell? ⟨w1.heap.size, 0, none⟩ = some (.int .i64 o) ∧ w'.cell? ⟨w1.heap.size, 1, none⟩ = some (.int .i64 x) ∧ w'.cell? ⟨w1.heap.size, 2, none⟩ = some (.int .i64 y) ∧ Below w5.heap.size w5 w')
      (first | (go_split_ands; ((repeat' apply And.intro) <;> first | exact keep_cell hb (by assumption) | exact bel_trans (by assumption) hb | exact bel_trans (bel_drew (by assumption)) hb)) | ((repeat' apply And.intro) <;> first | (simp [go_sem, *]; done) | exact (by repeat (first | with_reducible exact Below.refl _ _ | with_reducible assumption | with_reducible refine bel_alloc ?_ _ | with_reducible refine bel_drew ?_ | with_reducible refine bel_drewN ?_ _ | with_reducible refine bel_set ?_ (by (try simp) <;> omega) _ | with_reducible refine bel_trans ?_ (by assumption))))) ((first | (go_at_call 34; (with_reducible refine (laws_copyRects l_a a_a c_a _ (hr_a.kept (by repeat (first | with_reducible exact Below.refl _ _ | with_reducible assumption | with_reducible refine bel_alloc ?_ _ | with_reducible refine bel_drew ?_ | with_reducible refine bel_drewN ?_ _ | with_reducible refine bel_set ?_ (by (try simp) <;> omega) _ | with_reducible refine bel_trans ?_ (by assumption)))) hl_a).mono ?_); rintro e wp ⟨a_p, c_p, rfl, ho_p, hb⟩; have hr_p := rects_at ho_p; have hp : Below w5.heap.size w5 wp := bel_trans (by repeat (first | with_reducible exact Below.refl _ _ | with_reducible assumption | with_reducible refine bel_alloc ?_ _ | with_reducible refine bel_drew ?_ | with_reducible refine bel_drewN ?_ _ | with_reducible refine bel_set ?_ (by (try simp) <;> omega) _ | with_reducible refine bel_trans ?_ (by assumption))) hb; try (have hr_q := RectsAt.kept hr_q hb)) | (go_at_call 34; (with_reducible refine (laws_copyRects l_b a_b c_b _ (hr_b.kept (by repeat (first | with_reducible exact Below.refl _ _ | with_reducible assumption | with_reducible refine bel_alloc ?_ _ | with_reducible refine bel_drew ?_ | with_reducible refine bel_drewN ?_ _ | with_reducible refine bel_set ?_ (by (try simp) <;> omega) _ | with_reducible refine bel_trans ?_ (by assumption)))) hl_b).mono ?_); rintro e wq ⟨a_q, c_q, rfl, ho_q, hb⟩; have hr_q := rects_at ho_q; have hq : Below w5.heap.size w5 wq := bel_trans (by repeat (first | with_reducible exact Below.refl _ _ | with_reducible assumption | with_reducible refine bel_alloc ?_ _ | with_reducible refine bel_drew ?_ | with_reducible refine bel_drewN ?_ _ | with_reducible refine bel_set ?_ (by (try simp) <;> omega) _ | with_reducible refine bel_trans ?_ (by assumption))) hb; try (have hr_p := RectsAt.kept hr_p hb)) | (go_at_call 27; refine (impl_Union l_a l_b _ _ _ _ _ hr_p hr_q hl_a hl_b).mono ?_; rintro e wU ⟨a_u, c_u, rfl, ho_u, hb⟩; have hr_u := rects_at ho_u; have hU : Below w5.heap.size w5 wU := bel_trans (by repeat (first | with_reducible exact Below.refl _ _ | with_reducible assumption | with_reducible refine bel_alloc ?_ _ | with_reducible refine bel_drew ?_ | with_reducible refine bel_drewN ?_ _ | with_reducible refine bel_set ?_ (by (try simp) <;> omega) _ | with_reducible refine bel_trans ?_ (by assumption))) hb) | (go_at_call 63; refine ((impl_MoveRegion (opR 14 l_a l_b) o x y _ _ _ hr_u (opR_len _ _ _)).mono fun _ _ => retSB_var).mono ?_; rintro e wM ⟨l_m, HU_m, a_m, c_m, he, hr_m, hb⟩; rw [GU.out] at he; subst he; have hM : Below w5.heap.size w5 wM := bel_trans (by repeat (first | with_reducible exact Below.refl _ _ | with_reducible assumption | with_reducible refine bel_alloc ?_ _ | with_reducible refine bel_drew ?_ | with_reducible refine bel_drewN ?_ _ | with_reducible refine bel_set ?_ (by (try simp) <;> omega) _ | with_reducible refine bel_trans ?_ (by assumption))) hb)))
    replace hr_a := hr_a.kept hM
    replace hr_b := hr_b.kept hM
    replace hr_x := hr_x.kept hM
    replace e0 := keep_cell hM e0
    replace e1 := keep_cell hM e1
    replace e2 := keep_cell hM e2
    replace hbel := hbel.trans (hM.mono hbel.size)
    have hl_m : l_m.length ≤ 2000000 := by rw [HU_m.out]; exact movR_len _ _ _ _
    clear hb hM hU hp hq hr_p hr_q hr_u ho_p ho_q ho_u
    go_wp2_with fail
    go_region_held3 (fun w' => w'.cell? ⟨w1.heap.size, 0, none⟩ = some (.int .i64 o) ∧ w'.cell? ⟨w1.heap.size, 1, none⟩ = some (.int .i64 x) ∧ w'.cell? ⟨w1.heap.size, 2, none⟩ = some (.int .i64 y) ∧ Below wM.heap.size wM w')
      (first | (go_split_ands; ((repeat' apply And.intro) <;> first | exact keep_cell hb (by assumption) | exact bel_trans (by assumption) hb | exact bel_trans (bel_drew (by assumption)) hb)) | ((repeat' apply And.intro) <;> first | (simp [go_sem, *]; done) | exact (by repeat (first | with_reducible exact Below.refl _ _ | with_reducible assumption | with_reducible refine bel_alloc ?_ _ | with_reducible refine bel_drew ?_ | with_reducible refine bel_drewN ?_ _ | with_reducible refine bel_set ?_ (by (try simp) <;> omega) _ | with_reducible refine bel_trans ?_ (by assumption))))) ((first | (go_at_call 34; refine (laws_copyRects l_a _ _ _ (hr_a.kept (by repeat (first | with_reducible exact Below.refl _ _ | with_reducible assumption | with_reducible refine bel_alloc ?_ _ | with_reducible refine bel_drew ?_ | with_reducible refine bel_drewN ?_ _ | with_reducible refine bel_set ?_ (by (try simp) <;> omega) _ | with_reducible refine bel_trans ?_ (by assumption)))) hl_a).mono ?_; rintro e wpc ⟨a_pc, c_pc, rfl, ho_pc, hb⟩; have hr_pc := rects_at ho_pc; have hpc : Below wM.heap.size wM wpc := bel_trans (by repeat (first | with_reducible exact Below.refl _ _ | with_reducible assumption | with_reducible refine bel_alloc ?_ _ | with_reducible refine bel_drew ?_ | with_reducible refine bel_drewN ?_ _ | with_reducible refine bel_set ?_ (by (try simp) <;> omega) _ | with_reducible refine bel_trans ?_ (by assumption))) hb) | (go_at_call 63; refine ((impl_MoveRegion l_a o x y _ _ _ hr_pc hl_a).mono fun _ _ => retSB_var).mono ?_; rintro e wP ⟨l_p, HU_p, a_p, c_p, he, hr_p, hb⟩; rw [G_a.out] at he; subst he; have hwP : Below wM.heap.size wM wP := bel_trans (by repeat (first | with_reducible exact Below.refl _ _ | with_reducible assumption | with_reducible refine bel_alloc ?_ _ | with_reducible refine bel_drew ?_ | with_reducible refine bel_drewN ?_ _ | with_reducible refine bel_set ?_ (by (try simp) <;> omega) _ | with_reducible refine bel_trans ?_ (by assumption))) hb)))
    replace hr_a := hr_a.kept hwP
    replace hr_b := hr_b.kept hwP
    replace hr_x := hr_x.kept hwP
    replace hr_m := hr_m.kept hwP
    replace e0 := keep_cell hwP e0
    replace e1 := keep_cell hwP e1
    replace e2 := keep_cell hwP e2
    replace hbel := hbel.trans (hwP.mono hbel.size)
    have hl_p : l_p.length ≤ 2000000 := by rw [HU_p.out]; exact movR_len _ _ _ _
    clear hb hwP hpc hr_pc ho_pc
    go_wp2_with fail
    go_region_held3 (fun w' => w'.cell? ⟨w1.heap.size, 0, none⟩ = some (.int .i64 o) ∧ w'.cell? ⟨w1.heap.size, 1, none⟩ = some (.int .i64 x) ∧ w'.cell? ⟨w1.heap.size, 2, none⟩ = some (.int .i64 y) ∧ Below wP.heap.size wP w')
      (first | (go_split_ands; ((repeat' apply And.intro) <;> first | exact keep_cell hb (by assumption) | exact bel_trans (by assumption) hb | exact bel_trans (bel_drew (by assumption)) hb)) | ((repeat' apply And.intro) <;> first | (simp [go_sem, *]; done) | exact (by repeat (first | with_reducible exact Below.refl _ _ | with_reducible assumption | with_reducible refine bel_alloc ?_ _ | with_reducible refine bel_drew ?_ | with_reducible refine bel_drewN ?_ _ | with_reducible refine bel_set ?_ (by (try simp) <;> omega) _ | with_reducible refine bel_trans ?_ (by assumption))))) ((first | (go_at_call 34; refine (laws_copyRects l_b _ _ _ (hr_b.kept (by repeat (first | with_reducible exact Below.refl _ _ | with_reducible assumption | with_reducible refine bel_alloc ?_ _ | with_reducible refine bel_drew ?_ | with_reducible refine bel_drewN ?_ _ | with_reducible refine bel_set ?_ (by (try simp) <;> omega) _ | with_reducible refine bel_trans ?_ (by assumption)))) hl_b).mono ?_; rintro e wqc ⟨a_qc, c_qc, rfl, ho_qc, hb⟩; have hr_qc := rects_at ho_qc; have hqc : Below wP.heap.size wP wqc := bel_trans (by repeat (first | with_reducible exact Below.refl _ _ | with_reducible assumption | with_reducible refine bel_alloc ?_ _ | with_reducible refine bel_drew ?_ | with_reducible refine bel_drewN ?_ _ | with_reducible refine bel_set ?_ (by (try simp) <;> omega) _ | with_reducible refine bel_trans ?_ (by assumption))) hb) | (go_at_call 63; refine ((impl_MoveRegion l_b o x y _ _ _ hr_qc hl_b).mono fun _ _ => retSB_var).mono ?_; rintro e wQ ⟨l_q, HU_q, a_q, c_q, he, hr_q, hb⟩; rw [G_b.out] at he; subst he; have hwQ : Below wP.heap.size wP wQ := bel_trans (by repeat (first | with_reducible exact Below.refl _ _ | with_reducible assumption | with_reducible refine bel_alloc ?_ _ | with_reducible refine bel_drew ?_ | with_reducible refine bel_drewN ?_ _ | with_reducible refine bel_set ?_ (by (try simp) <;> omega) _ | with_reducible refine bel_trans ?_ (by assumption))) hb)))
    replace hr_a := hr_a.kept hwQ
    replace hr_b := hr_b.kept hwQ
    replace hr_x := hr_x.kept hwQ
    replace hr_m := hr_m.kept hwQ
    replace hr_p := hr_p.kept hwQ
    replace e0 := keep_cell hwQ e0
    replace e1 := keep_cell hwQ e1
    replace e2 := keep_cell hwQ e2
    replace hbel := hbel.trans (hwQ.mono hbel.size)
    have hl_q : l_q.length ≤ 2000000 := by rw [HU_q.out]; exact movR_len _ _ _ _
    clear hb hwQ hqc hr_qc ho_qc
    clear e0 e1 e2
    go_wp2_with fail
    go_at_call 27
    refine ((impl_Union l_p l_q _ _ _ _ _ hr_p hr_q hl_p hl_q).mono fun _ _ => retS_var).mono ?_
    rintro e w6 ⟨l_u, HU_u, a_u, c_u, rfl, hr_u, hb⟩
    replace hr_a := hr_a.kept hb
    replace hr_b := hr_b.kept hb
    replace hr_x := hr_x.kept hb
    replace hr_m := hr_m.kept hb
    replace hr_p := hr_p.kept hb
    replace hr_q := hr_q.kept hb
    replace hbel := hbel.trans (hb.mono hbel.size)
    clear hb
    have hl_u : l_u.length ≤ 2000000 := by rw [HU_u.out]; exact opR_len _ _ _
    go_wp2_with fail
    go_at_call 29
    refine (laws_sameRects l_m l_u _ _ _ _ _ hr_m hr_u hl_m hl_u).mono ?_
    rintro e w7 ⟨he, hb⟩
    rw [decide_eq_true (by rw [HU_m.out, HU_u.out, HU_p.out, HU_q.out]; exact mov_union G_a.out G_b.out : l_m = l_u)] at he
    subst he
    replace hr_a := hr_a.kept hb
    replace hr_b := hr_b.kept hb
    replace hr_x := hr_x.kept hb
    replace hr_m := hr_m.kept hb
    replace hr_p := hr_p.kept hb
    replace hr_q := hr_q.kept hb
    replace hr_u := hr_u.kept hb
    replace hbel := hbel.trans (hb.mono hbel.size)
    clear hb
    clear hr_u
    clear hr_q
    clear hr_m
    go_wp2_with fail
    go_at_call 33
    refine (impl_RegionArea l_p _ _ _ hr_p hl_p).mono ?_
    rintro e w8 ⟨he, hb⟩
    obtain ⟨sp, hsp⟩ : ∃ sp, sp = areaRg l_p := ⟨_, rfl⟩
    rw [← hsp] at he
    subst he
    have Hsp := hide hsp
    clear hsp
    replace hr_a := hr_a.kept hb
    replace hr_b := hr_b.kept hb
    replace hr_x := hr_x.kept hb
    replace hr_p := hr_p.kept hb
    replace hbel := hbel.trans (hb.mono hbel.size)
    clear hb
    go_wp2_with fail
    go_at_call 34
    refine ((laws_copyRects l_a _ _ _ hr_a hl_a).mono fun _ _ => retS_var).mono ?_
    rintro e w9 ⟨l_g, HU_g, a_g, c_g, rfl, hr_g, hb⟩
    replace hr_a := hr_a.kept hb
    replace hr_b := hr_b.kept hb
    replace hr_x := hr_x.kept hb
    replace hr_p := hr_p.kept hb
    replace hbel := hbel.trans (hb.mono hbel.size)
    clear hb
    have hl_g : l_g.length ≤ 2000000 := by rw [HU_g.out]; exact hl_a
    have hq := HU_g.out.symm
    subst hq
    clear HU_g
    go_wp2_with fail
    go_at_call 33
    refine (impl_RegionArea l_a _ _ _ hr_g hl_a).mono ?_
    rintro e w10 ⟨he, hb⟩
    rw [(show areaRg l_a = sp from (Hsp.out.trans ((congrArg areaRg HU_p.out).trans (mov_area G_a.out))).symm)] at he
    subst he
    replace hr_a := hr_a.kept hb
    replace hr_b := hr_b.kept hb
    replace hr_x := hr_x.kept hb
    replace hr_p := hr_p.kept hb
    replace hr_g := hr_g.kept hb
    replace hbel := hbel.trans (hb.mono hbel.size)
    clear hb
    clear hr_g
    go_wp2_with fail
    go_at_call 29
    refine (laws_sameRects l_p l_x _ _ _ _ _ hr_p hr_x hl_p hl_x).mono ?_
    rintro e w11 ⟨he, hb⟩
    rw [decide_eq_true (by rw [HU_p.out, HU_x.out] : l_p = l_x)] at he
    subst he
    replace hr_a := hr_a.kept hb
    replace hr_b := hr_b.kept hb
    replace hr_x := hr_x.kept hb
    replace hr_p := hr_p.kept hb
    replace hbel := hbel.trans (hb.mono hbel.size)
    clear hb
    go_wp2_with fail
    all_goals (go_ret; exact ⟨rfl, hbel⟩)

set_option maxRecDepth 100000 in
theorem lifted (os : Os) (started : os.Started) (H : Type) (enc : TypeId × Value → H) :
    ReturnsInHanded {} Try.checked os 12 .any (Rows.fnMoveRegionsSpec.pre6 enc Try.prog Try.f12 Rows.fnMoveRegionsRow.domain false) (Rows.fnMoveRegionsSpec.post enc Try.prog Try.f12 false true false false) := by
  refine law_lifted (C := Try.checked) (tb := 4) own started (by kernel_rfl) Try.func12 laidOut (by kernel_rfl) Try.underlying4 (by kernel_rfl) rfl
    (ChangeSpec.witness6 (enc := enc) (C := Try.checked) false ⟨#[], #[.slice none 0 0], []⟩ 8 (by kernel_rfl) (by kernel_rfl) (by kernel_rfl) (by kernel_rfl)) ?_
  intro W base args ds ps hval hA hlt
  have hA : DataW.TrodAll enc Try.prog W 0 (fun _ => true) true Try.f12.params.toList args.toList ds ps := hA
  have hval : ∀ (j : Nat) t v, Try.f12.params[j]? = some t → args[j]? = some v → Value.okWide Try.prog W .any base t v := hval
  rw [Try.params12] at hA hval
  obtain ⟨v0, vs0, d0, ds0, p0, q0, hargs, rfl, rfl, h0, r0⟩ := trodAll_cons hA
  obtain ⟨rfl, rfl, rfl⟩ := trodAll_nil r0
  obtain rfl : args = #[v0] := by cases args; simp_all
  refine ⟨rfl, ?_⟩
  obtain ⟨a0, n0, c0, rfl, hl0, hin0⟩ := open_bytes Try.underlying33 (by kernel_rfl) Try.underlying5 (okWide_slice Try.underlying33 (hval 0 33 v0 rfl rfl)) h0
  exact walk n0 c0 a0 hl0 W hin0

theorem proved : Rows.FnMoveRegionsSaid :=
  OpenClaim.holds_of_wide 12 Try.f12 rfl rfl rfl rfl rfl rfl rfl ⟨rfl, rfl, rfl, rfl, rfl⟩ rfl rfl rfl rfl rfl (by kernel_rfl) Try.func12 (by kernel_rfl)
    (of_decide_eq_true (by kernel_rfl)) (by unfold Func.isWrapper; first | (rw [if_pos (by decide +kernel)]; kernel_rfl) | (rw [if_neg (by decide +kernel)]; exact ⟨rfl, rfl⟩))
    (fun os started H enc _ => lifted os started H enc)

#print axioms proved
end Go.Proofs.Ytldgjocjcbhkmaa.lawFnMoveRegions
