/- Contracts: a transform read from its text (reference and program). -/
import Derived.Test.YtldgjocjcbhkmabDoorTxtR
import Derived.Test.YtldgjocjcbhkmabDoorResD
namespace Go.Proofs.YtldgjocjcbhkmabDoor
open Go.RowKit
attribute [local go_sem low] cell_alloc_ite frozen_alloc_ite

theorem words_len : ∀ (l : List UInt8) (m : List UInt8), m ∈ wordsL l → m.length ≤ l.length
  | [], m, h => by simp only [wordsL, List.mem_singleton] at h; subst h; exact Nat.le_refl _
  | c :: r, m, h => by
    have ih := words_len r
    rw [wordsL] at h
    split at h
    · rcases List.mem_cons.1 h with rfl | h
      · exact Nat.zero_le _
      · exact Nat.le_succ_of_le (ih m h)
    · split at h
      · rename_i hq
        simp only [List.mem_singleton] at h
        subst h
        simp
      · rename_i w ws hq
        rw [hq] at ih
        rcases List.mem_cons.1 h with rfl | h
        · have := ih w (by simp)
          simpa using this
        · exact Nat.le_succ_of_le (ih m (by simp [h]))
theorem word_size {s : ByteArray} {W : List ByteArray} (hW : W.map (·.data.toList) = wordsL s.data.toList) {t : ByteArray} (h : t ∈ W) : t.size ≤ s.size := by
  have h1 := words_len s.data.toList t.data.toList (by rw [← hW]; exact List.mem_map.2 ⟨t, h, rfl⟩)
  rwa [Array.length_toList, Array.length_toList] at h1
theorem words_pos : ∀ l : List UInt8, 0 < (wordsL l).length
  | [] => by simp [wordsL]
  | c :: r => by
    rw [wordsL]
    split
    · simp
    · split <;> simp
theorem split_facts (s : ByteArray) : ∃ W : List ByteArray, Lib.countB s ⟨#[32]⟩ + 1 = W.length ∧ Lib.splitB ⟨#[32]⟩ 0 (Lib.countB s ⟨#[32]⟩) s = W ∧ W.map (·.data.toList) = wordsL s.data.toList := by
  refine ⟨_, ?_, rfl, ?_⟩
  · rw [Lib.splitB_all ⟨#[32]⟩ (by decide) 0 (Lib.countB s ⟨#[32]⟩) s rfl]
  · rw [Lib.splitB_data]
    refine split_words _ _ ?_
    have h : Lib.countB s ⟨#[32]⟩ = Lib.count s.data.toList [32] := rfl
    rw [h, Lib.count_one]
    exact Nat.le_refl _
theorem str_cells (a b c : ByteArray) : ([a, b, c].map Value.string).toArray = #[.string a, .string b, .string c] := rfl
theorem bytes_ne {a b : ByteArray} (h : a ≠ b) : (a.toList == b.toList) = false := by
  rw [Lib.toList_data, Lib.toList_data]
  simp only [beq_eq_false_iff_ne, ne_eq]
  exact fun e => h (bytes_eq e)
theorem bytes_same {a b : ByteArray} (h : a = b) : (a.toList == b.toList) = true := by subst h; simp
theorem u8_le (c : UInt8) : (0 : Int) ≤ (c.toNat : Int) ∧ (c.toNat : Int) ≤ 255 := by
  have := UInt8.toNat_lt c
  omega
theorem rdV_bounds (l : List UInt8) : -9223372036854775808 ≤ rdV l ∧ rdV l ≤ 9223372036854775807 := by
  unfold rdV rdO
  split
  · split
    · rename_i v hv
      split
      · exact parse_bounds hv
      · exact ⟨by simp, by simp⟩
    · exact ⟨by simp, by simp⟩
  · exact ⟨by simp, by simp⟩
theorem oOf_m {a b : UInt8} (h : a = 109) : (b.toNat : Int) - 48 + 4 = oOf a b := by unfold oOf; rw [if_pos h]
theorem oOf_r {a b : UInt8} (h : ¬ a = 109) : (b.toNat : Int) - 48 = oOf a b := by unfold oOf; rw [if_neg h]; omega
set_option maxRecDepth 100000 in
set_option maxHeartbeats 3200000 in
theorem impl_ParseTransform (s : ByteArray) (hs : s.size ≤ 2000000) (w : World) (he : Env w) : Calls Tryd.prog 10 #[.string s] w (RetP s w) := by
  obtain ⟨W, hl, hq, hW⟩ := split_facts s
  have HL := hide hl
  have HQ := hide hq
  have HW := hide hW
  have RS := hide (res3_start w 25)
  have E0 := hide (he.kept (bel_alloc (Below.refl _ _) (.cells #[.int .i64 0, .int .i64 0, .int .i64 0] 25)))
  clear hl hq hW he
  go_enter Tryd.func10, Tryd.ntmps10
  go_wp2_with fail
  generalize (w.alloc (.cells #[.int .i64 0, .int .i64 0, .int .i64 0] 25)) = wz at *
  go_at_call 22
  obtain ⟨m, hm⟩ := E0.out.maxl
  refine (Tryd.strings_Split s ⟨#[32]⟩ m wz (by omega) hm (by decide)).mono ?_
  rintro e w1 ⟨he1, hw1⟩
  rw [HL.out] at he1
  rw [HQ.out] at hw1
  clear hm
  have hb1 : Below wz.heap.size wz w1 := by rw [hw1]; exact bel_alloc (Below.refl _ _) _
  have RS1 := hide (RS.out.kept hb1)
  have E1 := hide (E0.out.kept hb1)
  by_cases h3 : W.length = 3
  · obtain ⟨a, b, c, rfl⟩ : ∃ a b c, W = [a, b, c] := by
      match W, h3 with
      | [a, b, c], _ => exact ⟨a, b, c, rfl⟩
    have k0 : w1.cell? ⟨wz.heap.size, 0, none⟩ = some (.string a) := by rw [hw1, str_cells]; simp [go_sem]
    have k1 : w1.cell? ⟨wz.heap.size, 1, none⟩ = some (.string b) := by rw [hw1, str_cells]; simp [go_sem]
    have k2 : w1.cell? ⟨wz.heap.size, 2, none⟩ = some (.string c) := by rw [hw1, str_cells]; simp [go_sem]
    subst he1
    clear hw1 h3 E0 RS HL HQ
    obtain ⟨r0, r1, r2, f0, f1, f2, hbl⟩ := RS1.out
    by_cases h2 : a.size = 2
    · have HA := hide h2
      have q2 : ((a.size : Int) != 2) = false := by rw [h2]; rfl
      have p0 : 0 < a.size := by omega
      have p1 : 1 < a.size := by omega
      have p0' : (0 : Int) < (a.size : Int) := by omega
      have p1' : (1 : Int) < (a.size : Int) := by omega
      clear h2
      go_wp2_with fail
      go_at_call 23
      refine (impl_readDecimal b (by have := word_size HW.out (t := b) (by simp); omega) w1 E1.out).mono ?_
      rintro e w2 ⟨rfl, hb2⟩
      replace k0 := keep_cell hb2 k0
      replace k1 := keep_cell hb2 k1
      replace k2 := keep_cell hb2 k2
      have RS2 := hide (RS1.out.kept hb2)
      have E2 := hide (E1.out.kept hb2)
      clear r0 r1 r2 f0 f1 f2 hbl RS1 E1
      obtain ⟨r0, r1, r2, f0, f1, f2, hbl⟩ := RS2.out
      go_wp2_with fail
      go_at_call 23
      refine (impl_readDecimal c (by have := word_size HW.out (t := c) (by simp); omega) w2 E2.out).mono ?_
      rintro e w3 ⟨rfl, hb3⟩
      replace k0 := keep_cell hb3 k0
      replace k1 := keep_cell hb3 k1
      replace k2 := keep_cell hb3 k2
      have RS3 := hide (RS2.out.kept hb3)
      have E3 := hide (E2.out.kept hb3)
      clear r0 r1 r2 f0 f1 f2 hbl RS2 E2 hb1 hb2 hb3
      obtain ⟨r0, r1, r2, f0, f1, f2, hbl⟩ := RS3.out
      have hz := World.block_lt_of_cell? _ _ r0
      have hz2 := World.block_lt_of_cell? _ _ k0
      obtain ⟨o1, o2⟩ := u8_le a[1]
      obtain ⟨v1, v2⟩ := rdV_bounds b.data.toList
      obtain ⟨v3, v4⟩ := rdV_bounds c.data.toList
      obtain ⟨X, hX⟩ : ∃ X, X = rdV b.data.toList := ⟨_, rfl⟩
      obtain ⟨Y, hY⟩ : ∃ Y, Y = rdV c.data.toList := ⟨_, rfl⟩
      rw [← hX] at v1 v2 ⊢
      rw [← hY] at v3 v4 ⊢
      have HXY := hide (And.intro hX hY)
      clear hX hY
      have NE := hide (three_ne HW.out)
      have ne1 : s.toList = [] ↔ False := by rw [Lib.toList_data]; exact ⟨NE.out, False.elim⟩
      have ne2 : (s.toList == []) = false := by rw [Lib.toList_data]; simpa using NE.out
      have ne3 : s.toList.isEmpty = false := by rw [Lib.toList_data]; simpa using NE.out
      by_cases hm9 : a[0] = 109
      · have m1 : ((a[0].toNat : Int) == 109) = true := by rw [hm9]; rfl
        have HO := hide (oOf_m (b := a[1]) hm9)
        clear hm9
        cases hB1 : rdB b.data.toList
        · have HB1 := hide hB1
          go_wp2_with fail
          refine bodyPost_ret (v := .tuple #[.agg #[.int .i64 0, .int .i64 0, .int .i64 0], .bool false]) (by first | (simp [results, Tryd.results10, go_sem, *]; done) | simp [results, Tryd.results10, go_sem, *, ↓IntWalk.iteOmega]) rfl (retP_no (no_num reads_rd HW.out (.inl HB1.out)) rfl (by repeat (first | with_reducible exact Below.refl _ _ | with_reducible assumption | with_reducible refine bel_alloc ?_ _ | with_reducible refine bel_drew ?_ | with_reducible refine bel_drewN ?_ _ | with_reducible refine bel_set ?_ (by (try simp) <;> omega) _ | with_reducible refine bel_trans ?_ (by assumption))))
        cases hB2 : rdB c.data.toList
        · have HB2 := hide hB2
          go_wp2_with fail
          refine bodyPost_ret (v := .tuple #[.agg #[.int .i64 0, .int .i64 0, .int .i64 0], .bool false]) (by first | (simp [results, Tryd.results10, go_sem, *]; done) | simp [results, Tryd.results10, go_sem, *, ↓IntWalk.iteOmega]) rfl (retP_no (no_num reads_rd HW.out (.inr HB2.out)) rfl (by repeat (first | with_reducible exact Below.refl _ _ | with_reducible assumption | with_reducible refine bel_alloc ?_ _ | with_reducible refine bel_drew ?_ | with_reducible refine bel_drewN ?_ _ | with_reducible refine bel_set ?_ (by (try simp) <;> omega) _ | with_reducible refine bel_trans ?_ (by assumption))))
        by_cases hF : fmtS ((a[1].toNat : Int) - 48 + 4) X Y = s
        · have hq := bytes_same hF
          have HF := hide hF
          clear hF
          go_wp2_with fail
          go_at_call 8
          refine (impl_FormatTransform _ _ _ _ (E3.out.tab.kept (by repeat (first | with_reducible exact Below.refl _ _ | with_reducible assumption | with_reducible refine bel_alloc ?_ _ | with_reducible refine bel_drew ?_ | with_reducible refine bel_drewN ?_ _ | with_reducible refine bel_set ?_ (by (try simp) <;> omega) _ | with_reducible refine bel_trans ?_ (by assumption))))).mono ?_
          rintro e w4 ⟨rfl, hb4⟩
          obtain ⟨_, _, hc4, hf4⟩ := bcellI hb4
          have hs4 := hb4.size
          (try simp at hs4)
          go_wp2_with fail
          refine bodyPost_ret (v := .tuple #[.agg #[.int .i64 ((a[1].toNat : Int) - 48 + 4), .int .i64 X, .int .i64 Y], .bool true]) (by first | (simp [results, Tryd.results10, go_sem, *]; done) | simp [results, Tryd.results10, go_sem, *, ↓IntWalk.iteOmega]) rfl ⟨(a[1].toNat : Int) - 48 + 4, X, Y, true, rfl, yes_text NE.out HF.out, (by repeat (first | with_reducible exact Below.refl _ _ | with_reducible assumption | with_reducible refine bel_alloc ?_ _ | with_reducible refine bel_drew ?_ | with_reducible refine bel_drewN ?_ _ | with_reducible refine bel_set ?_ (by (try simp) <;> omega) _ | with_reducible refine bel_trans ?_ (by assumption)))⟩
        · have hq := bytes_ne hF
          have HF := hide (show fmtS (oOf a[0] a[1]) (rdV b.data.toList) (rdV c.data.toList) ≠ s by rw [← HO.out, ← HXY.out.1, ← HXY.out.2]; exact hF)
          clear hF
          go_wp2_with fail
          go_at_call 8
          refine (impl_FormatTransform _ _ _ _ (E3.out.tab.kept (by repeat (first | with_reducible exact Below.refl _ _ | with_reducible assumption | with_reducible refine bel_alloc ?_ _ | with_reducible refine bel_drew ?_ | with_reducible refine bel_drewN ?_ _ | with_reducible refine bel_set ?_ (by (try simp) <;> omega) _ | with_reducible refine bel_trans ?_ (by assumption))))).mono ?_
          rintro e w4 ⟨rfl, hb4⟩
          obtain ⟨_, _, hc4, hf4⟩ := bcellI hb4
          have hs4 := hb4.size
          (try simp at hs4)
          go_wp2_with fail
          refine bodyPost_ret (v := .tuple #[.agg #[.int .i64 0, .int .i64 0, .int .i64 0], .bool false]) (by first | (simp [results, Tryd.results10, go_sem, *]; done) | simp [results, Tryd.results10, go_sem, *, ↓IntWalk.iteOmega]) rfl (retP_no (no_text reads_rd HW.out HA.out p0 p1 HF.out) rfl (by repeat (first | with_reducible exact Below.refl _ _ | with_reducible assumption | with_reducible refine bel_alloc ?_ _ | with_reducible refine bel_drew ?_ | with_reducible refine bel_drewN ?_ _ | with_reducible refine bel_set ?_ (by (try simp) <;> omega) _ | with_reducible refine bel_trans ?_ (by assumption))))
      · have m1 : ((a[0].toNat : Int) == 109) = false := by
          have : a[0].toNat ≠ 109 := fun e => hm9 (UInt8.toNat_inj.1 e)
          simp only [beq_eq_false_iff_ne]; omega
        have HO := hide (oOf_r (b := a[1]) hm9)
        clear hm9
        cases hB1 : rdB b.data.toList
        · have HB1 := hide hB1
          go_wp2_with fail
          refine bodyPost_ret (v := .tuple #[.agg #[.int .i64 0, .int .i64 0, .int .i64 0], .bool false]) (by first | (simp [results, Tryd.results10, go_sem, *]; done) | simp [results, Tryd.results10, go_sem, *, ↓IntWalk.iteOmega]) rfl (retP_no (no_num reads_rd HW.out (.inl HB1.out)) rfl (by repeat (first | with_reducible exact Below.refl _ _ | with_reducible assumption | with_reducible refine bel_alloc ?_ _ | with_reducible refine bel_drew ?_ | with_reducible refine bel_drewN ?_ _ | with_reducible refine bel_set ?_ (by (try simp) <;> omega) _ | with_reducible refine bel_trans ?_ (by assumption))))
        cases hB2 : rdB c.data.toList
        · have HB2 := hide hB2
          go_wp2_with fail
          refine bodyPost_ret (v := .tuple #[.agg #[.int .i64 0, .int .i64 0, .int .i64 0], .bool false]) (by first | (simp [results, Tryd.results10, go_sem, *]; done) | simp [results, Tryd.results10, go_sem, *, ↓IntWalk.iteOmega]) rfl (retP_no (no_num reads_rd HW.out (.inr HB2.out)) rfl (by repeat (first | with_reducible exact Below.refl _ _ | with_reducible assumption | with_reducible refine bel_alloc ?_ _ | with_reducible refine bel_drew ?_ | with_reducible refine bel_drewN ?_ _ | with_reducible refine bel_set ?_ (by (try simp) <;> omega) _ | with_reducible refine bel_trans ?_ (by assumption))))
        by_cases hF : fmtS ((a[1].toNat : Int) - 48) X Y = s
        · have hq := bytes_same hF
          have HF := hide hF
          clear hF
          go_wp2_with fail
          go_at_call 8
          refine (impl_FormatTransform _ _ _ _ (E3.out.tab.kept (by repeat (first | with_reducible exact Below.refl _ _ | with_reducible assumption | with_reducible refine bel_alloc ?_ _ | with_reducible refine bel_drew ?_ | with_reducible refine bel_drewN ?_ _ | with_reducible refine bel_set ?_ (by (try simp) <;> omega) _ | with_reducible refine bel_trans ?_ (by assumption))))).mono ?_
          rintro e w4 ⟨rfl, hb4⟩
          obtain ⟨_, _, hc4, hf4⟩ := bcellI hb4
          have hs4 := hb4.size
          (try simp at hs4)
          go_wp2_with fail
          refine bodyPost_ret (v := .tuple #[.agg #[.int .i64 ((a[1].toNat : Int) - 48), .int .i64 X, .int .i64 Y], .bool true]) (by first | (simp [results, Tryd.results10, go_sem, *]; done) | simp [results, Tryd.results10, go_sem, *, ↓IntWalk.iteOmega]) rfl ⟨(a[1].toNat : Int) - 48, X, Y, true, rfl, yes_text NE.out HF.out, (by repeat (first | with_reducible exact Below.refl _ _ | with_reducible assumption | with_reducible refine bel_alloc ?_ _ | with_reducible refine bel_drew ?_ | with_reducible refine bel_drewN ?_ _ | with_reducible refine bel_set ?_ (by (try simp) <;> omega) _ | with_reducible refine bel_trans ?_ (by assumption)))⟩
        · have hq := bytes_ne hF
          have HF := hide (show fmtS (oOf a[0] a[1]) (rdV b.data.toList) (rdV c.data.toList) ≠ s by rw [← HO.out, ← HXY.out.1, ← HXY.out.2]; exact hF)
          clear hF
          go_wp2_with fail
          go_at_call 8
          refine (impl_FormatTransform _ _ _ _ (E3.out.tab.kept (by repeat (first | with_reducible exact Below.refl _ _ | with_reducible assumption | with_reducible refine bel_alloc ?_ _ | with_reducible refine bel_drew ?_ | with_reducible refine bel_drewN ?_ _ | with_reducible refine bel_set ?_ (by (try simp) <;> omega) _ | with_reducible refine bel_trans ?_ (by assumption))))).mono ?_
          rintro e w4 ⟨rfl, hb4⟩
          obtain ⟨_, _, hc4, hf4⟩ := bcellI hb4
          have hs4 := hb4.size
          (try simp at hs4)
          go_wp2_with fail
          refine bodyPost_ret (v := .tuple #[.agg #[.int .i64 0, .int .i64 0, .int .i64 0], .bool false]) (by first | (simp [results, Tryd.results10, go_sem, *]; done) | simp [results, Tryd.results10, go_sem, *, ↓IntWalk.iteOmega]) rfl (retP_no (no_text reads_rd HW.out HA.out p0 p1 HF.out) rfl (by repeat (first | with_reducible exact Below.refl _ _ | with_reducible assumption | with_reducible refine bel_alloc ?_ _ | with_reducible refine bel_drew ?_ | with_reducible refine bel_drewN ?_ _ | with_reducible refine bel_set ?_ (by (try simp) <;> omega) _ | with_reducible refine bel_trans ?_ (by assumption))))
    · have q2 : ((a.size : Int) != 2) = true := by simp; omega
      go_wp2_with fail
      refine bodyPost_ret (v := .tuple #[.agg #[.int .i64 0, .int .i64 0, .int .i64 0], .bool false]) (by first | (simp [results, Tryd.results10, go_sem, *]; done) | simp [results, Tryd.results10, go_sem, *, ↓IntWalk.iteOmega]) rfl (retP_no (no_two HW.out h2) rfl (by repeat (first | with_reducible exact Below.refl _ _ | with_reducible assumption | with_reducible refine bel_alloc ?_ _ | with_reducible refine bel_drew ?_ | with_reducible refine bel_drewN ?_ _ | with_reducible refine bel_set ?_ (by (try simp) <;> omega) _ | with_reducible refine bel_trans ?_ (by assumption))))
  · have q3 : ((W.length : Int) != 3) = true := by simp; omega
    subst he1
    obtain ⟨r0, r1, r2, f0, f1, f2, hbl⟩ := RS1.out
    have HW1 := hide hw1
    have H3 := hide h3
    clear hw1 h3
    go_wp2_with fail
    refine bodyPost_ret (v := .tuple #[.agg #[.int .i64 0, .int .i64 0, .int .i64 0], .bool false]) (by first | (simp [results, Tryd.results10, go_sem, *]; done) | simp [results, Tryd.results10, go_sem, *, ↓IntWalk.iteOmega]) rfl (retP_no (no_three HW.out H3.out) rfl (by repeat (first | with_reducible exact Below.refl _ _ | with_reducible assumption | with_reducible refine bel_alloc ?_ _ | with_reducible refine bel_drew ?_ | with_reducible refine bel_drewN ?_ _ | with_reducible refine bel_set ?_ (by (try simp) <;> omega) _ | with_reducible refine bel_trans ?_ (by assumption))))
set_option maxRecDepth 100000 in
set_option maxHeartbeats 3200000 in
theorem spec_ParseTransform (s : ByteArray) (hs : s.size ≤ 2000000) (w : World) : Calls Tryd.prog 9 #[.string s] w (RetP s w) := by
  have RS := hide (res3_start w 25)
  by_cases h12 : 12 < s.size
  · have g1 : (s.size : Int) > 12 := by omega
    have g2 : (12 : Int) < (s.size : Int) := by omega
    have HX := hide (no_long h12)
    clear h12
    go_enter Tryd.func9, Tryd.ntmps9
    go_wp2_with fail
    refine bodyPost_ret (v := .tuple #[.agg #[.int .i64 0, .int .i64 0, .int .i64 0], .bool false]) (by first | (simp [results, Tryd.results9, go_sem, *]; done) | simp [results, Tryd.results9, go_sem, *, ↓IntWalk.iteOmega]) rfl (retP_no HX.out rfl (by repeat (first | with_reducible exact Below.refl _ _ | with_reducible assumption | with_reducible refine bel_alloc ?_ _ | with_reducible refine bel_drew ?_ | with_reducible refine bel_drewN ?_ _ | with_reducible refine bel_set ?_ (by (try simp) <;> omega) _ | with_reducible refine bel_trans ?_ (by assumption))))
  have g1 : ¬ ((s.size : Int) > 12) := by omega
  have g2 : (s.size : Int) ≤ 12 := by omega
  go_enter Tryd.func9, Tryd.ntmps9
  go_wp2_with fail
  generalize (w.alloc (.cells #[.int .i64 0, .int .i64 0, .int .i64 0] 25)) = wz at *
  go_at_call 20
  refine (spec_l01Words s (by omega) wz).mono ?_
  rintro e w1 ⟨W, v, hW, he1, hown, hb1⟩
  have HW := hide hW
  have hne : 0 < W.length := by
    have := congrArg List.length hW
    rw [List.length_map] at this
    rw [this]
    exact words_pos _
  obtain ⟨g, cap, rfl, hg1, hg2⟩ := World.ownsRow.form hown hne
  have RS1 := hide (RS.out.kept hb1)
  by_cases h3 : W.length = 3
  · obtain ⟨a, b, c, rfl⟩ : ∃ a b c, W = [a, b, c] := by
      match W, h3 with
      | [a, b, c], _ => exact ⟨a, b, c, rfl⟩
    have k0 : w1.cell? ⟨g, 0, none⟩ = some (.string a) := World.ownsRow.cellAt hown 0 (by simp)
    have k1 : w1.cell? ⟨g, 1, none⟩ = some (.string b) := World.ownsRow.cellAt hown 1 (by simp)
    have k2 : w1.cell? ⟨g, 2, none⟩ = some (.string c) := World.ownsRow.cellAt hown 2 (by simp)
    subst he1
    clear hown h3 RS hne hW
    obtain ⟨r0, r1, r2, f0, f1, f2, hbl⟩ := RS1.out
    by_cases h2 : a.size = 2
    · have HA := hide h2
      have q2 : ((a.size : Int) != 2) = false := by rw [h2]; rfl
      have p0 : 0 < a.size := by omega
      have p1 : 1 < a.size := by omega
      have p0' : (0 : Int) < (a.size : Int) := by omega
      have p1' : (1 : Int) < (a.size : Int) := by omega
      clear h2
      obtain ⟨o1, o2⟩ := u8_le a[1]
      obtain ⟨v1, v2⟩ := lvV_bounds b.data.toList
      obtain ⟨v3, v4⟩ := lvV_bounds c.data.toList
      obtain ⟨X, hX⟩ : ∃ X, X = lvV b.data.toList := ⟨_, rfl⟩
      obtain ⟨Y, hY⟩ : ∃ Y, Y = lvV c.data.toList := ⟨_, rfl⟩
      rw [← hX] at v1 v2
      rw [← hY] at v3 v4
      have HXY := hide (And.intro hX hY)
      have rdb : ∀ W, Calls Tryd.prog 21 #[.string b] W (RetNB W X (lvB b.data.toList)) := fun W => by rw [hX]; exact spec_l01Value b (by have := word_size HW.out (t := b) (by simp); omega) W
      have rdc : ∀ W, Calls Tryd.prog 21 #[.string c] W (RetNB W Y (lvB c.data.toList)) := fun W => by rw [hY]; exact spec_l01Value c (by have := word_size HW.out (t := c) (by simp); omega) W
      have RB := hide rdb
      have RC := hide rdc
      clear hX hY rdb rdc
      have NE := hide (three_ne HW.out)
      by_cases hm9 : a[0] = 109
      · have m1 : ((a[0].toNat : Int) == 109) = true := by rw [hm9]; rfl
        have HO := hide (oOf_m (b := a[1]) hm9)
        clear hm9
        go_wp2_with fail
        go_at_call 21
        refine (RB.out w1).mono ?_
        rintro e w2 ⟨rfl, hb2⟩
        replace k0 := keep_cell hb2 k0
        replace k1 := keep_cell hb2 k1
        replace k2 := keep_cell hb2 k2
        have RS2 := hide (RS1.out.kept hb2)
        clear r0 r1 r2 f0 f1 f2 hbl RS1
        obtain ⟨r0, r1, r2, f0, f1, f2, hbl⟩ := RS2.out
        go_wp2_with fail
        go_at_call 21
        refine (RC.out w2).mono ?_
        rintro e w3 ⟨rfl, hb3⟩
        replace k0 := keep_cell hb3 k0
        replace k1 := keep_cell hb3 k1
        replace k2 := keep_cell hb3 k2
        have RS3 := hide (RS2.out.kept hb3)
        clear r0 r1 r2 f0 f1 f2 hbl RS2 hb1 hb2 hb3
        obtain ⟨r0, r1, r2, f0, f1, f2, hbl⟩ := RS3.out
        have hz := World.block_lt_of_cell? _ _ r0
        have hz2 := World.block_lt_of_cell? _ _ k0
        cases hB1 : lvB b.data.toList
        · have HB1 := hide hB1
          go_wp2_with fail
          refine bodyPost_ret (v := .tuple #[.agg #[.int .i64 0, .int .i64 0, .int .i64 0], .bool false]) (by first | (simp [results, Tryd.results9, go_sem, *]; done) | simp [results, Tryd.results9, go_sem, *, ↓IntWalk.iteOmega]) rfl (retP_no (no_num reads_lv HW.out (.inl HB1.out)) rfl (by repeat (first | with_reducible exact Below.refl _ _ | with_reducible assumption | with_reducible refine bel_alloc ?_ _ | with_reducible refine bel_drew ?_ | with_reducible refine bel_drewN ?_ _ | with_reducible refine bel_set ?_ (by (try simp) <;> omega) _ | with_reducible refine bel_trans ?_ (by assumption))))
        cases hB2 : lvB c.data.toList
        · have HB2 := hide hB2
          go_wp2_with fail
          refine bodyPost_ret (v := .tuple #[.agg #[.int .i64 0, .int .i64 0, .int .i64 0], .bool false]) (by first | (simp [results, Tryd.results9, go_sem, *]; done) | simp [results, Tryd.results9, go_sem, *, ↓IntWalk.iteOmega]) rfl (retP_no (no_num reads_lv HW.out (.inr HB2.out)) rfl (by repeat (first | with_reducible exact Below.refl _ _ | with_reducible assumption | with_reducible refine bel_alloc ?_ _ | with_reducible refine bel_drew ?_ | with_reducible refine bel_drewN ?_ _ | with_reducible refine bel_set ?_ (by (try simp) <;> omega) _ | with_reducible refine bel_trans ?_ (by assumption))))
        by_cases hF : fmtS ((a[1].toNat : Int) - 48 + 4) X Y = s
        · have hq := bytes_same hF
          have HF := hide hF
          clear hF
          go_wp2_with fail
          go_at_call 6
          refine (spec_FormatTransform _ _ _ _).mono ?_
          rintro e w4 ⟨rfl, hb4⟩
          obtain ⟨_, _, hc4, hf4⟩ := bcellI hb4
          have hs4 := hb4.size
          (try simp at hs4)
          go_wp2_with fail
          refine bodyPost_ret (v := .tuple #[.agg #[.int .i64 ((a[1].toNat : Int) - 48 + 4), .int .i64 X, .int .i64 Y], .bool true]) (by first | (simp [results, Tryd.results9, go_sem, *]; done) | simp [results, Tryd.results9, go_sem, *, ↓IntWalk.iteOmega]) rfl ⟨(a[1].toNat : Int) - 48 + 4, X, Y, true, rfl, yes_text NE.out HF.out, (by repeat (first | with_reducible exact Below.refl _ _ | with_reducible assumption | with_reducible refine bel_alloc ?_ _ | with_reducible refine bel_drew ?_ | with_reducible refine bel_drewN ?_ _ | with_reducible refine bel_set ?_ (by (try simp) <;> omega) _ | with_reducible refine bel_trans ?_ (by assumption)))⟩
        · have hq := bytes_ne hF
          have HF := hide (show fmtS (oOf a[0] a[1]) (lvV b.data.toList) (lvV c.data.toList) ≠ s by rw [← HO.out, ← HXY.out.1, ← HXY.out.2]; exact hF)
          clear hF
          go_wp2_with fail
          go_at_call 6
          refine (spec_FormatTransform _ _ _ _).mono ?_
          rintro e w4 ⟨rfl, hb4⟩
          obtain ⟨_, _, hc4, hf4⟩ := bcellI hb4
          have hs4 := hb4.size
          (try simp at hs4)
          go_wp2_with fail
          refine bodyPost_ret (v := .tuple #[.agg #[.int .i64 0, .int .i64 0, .int .i64 0], .bool false]) (by first | (simp [results, Tryd.results9, go_sem, *]; done) | simp [results, Tryd.results9, go_sem, *, ↓IntWalk.iteOmega]) rfl (retP_no (no_text reads_lv HW.out HA.out p0 p1 HF.out) rfl (by repeat (first | with_reducible exact Below.refl _ _ | with_reducible assumption | with_reducible refine bel_alloc ?_ _ | with_reducible refine bel_drew ?_ | with_reducible refine bel_drewN ?_ _ | with_reducible refine bel_set ?_ (by (try simp) <;> omega) _ | with_reducible refine bel_trans ?_ (by assumption))))
      · have m1 : ((a[0].toNat : Int) == 109) = false := by
          have : a[0].toNat ≠ 109 := fun e => hm9 (UInt8.toNat_inj.1 e)
          simp only [beq_eq_false_iff_ne]; omega
        have HO := hide (oOf_r (b := a[1]) hm9)
        clear hm9
        go_wp2_with fail
        go_at_call 21
        refine (RB.out w1).mono ?_
        rintro e w2 ⟨rfl, hb2⟩
        replace k0 := keep_cell hb2 k0
        replace k1 := keep_cell hb2 k1
        replace k2 := keep_cell hb2 k2
        have RS2 := hide (RS1.out.kept hb2)
        clear r0 r1 r2 f0 f1 f2 hbl RS1
        obtain ⟨r0, r1, r2, f0, f1, f2, hbl⟩ := RS2.out
        go_wp2_with fail
        go_at_call 21
        refine (RC.out w2).mono ?_
        rintro e w3 ⟨rfl, hb3⟩
        replace k0 := keep_cell hb3 k0
        replace k1 := keep_cell hb3 k1
        replace k2 := keep_cell hb3 k2
        have RS3 := hide (RS2.out.kept hb3)
        clear r0 r1 r2 f0 f1 f2 hbl RS2 hb1 hb2 hb3
        obtain ⟨r0, r1, r2, f0, f1, f2, hbl⟩ := RS3.out
        have hz := World.block_lt_of_cell? _ _ r0
        have hz2 := World.block_lt_of_cell? _ _ k0
        cases hB1 : lvB b.data.toList
        · have HB1 := hide hB1
          go_wp2_with fail
          refine bodyPost_ret (v := .tuple #[.agg #[.int .i64 0, .int .i64 0, .int .i64 0], .bool false]) (by first | (simp [results, Tryd.results9, go_sem, *]; done) | simp [results, Tryd.results9, go_sem, *, ↓IntWalk.iteOmega]) rfl (retP_no (no_num reads_lv HW.out (.inl HB1.out)) rfl (by repeat (first | with_reducible exact Below.refl _ _ | with_reducible assumption | with_reducible refine bel_alloc ?_ _ | with_reducible refine bel_drew ?_ | with_reducible refine bel_drewN ?_ _ | with_reducible refine bel_set ?_ (by (try simp) <;> omega) _ | with_reducible refine bel_trans ?_ (by assumption))))
        cases hB2 : lvB c.data.toList
        · have HB2 := hide hB2
          go_wp2_with fail
          refine bodyPost_ret (v := .tuple #[.agg #[.int .i64 0, .int .i64 0, .int .i64 0], .bool false]) (by first | (simp [results, Tryd.results9, go_sem, *]; done) | simp [results, Tryd.results9, go_sem, *, ↓IntWalk.iteOmega]) rfl (retP_no (no_num reads_lv HW.out (.inr HB2.out)) rfl (by repeat (first | with_reducible exact Below.refl _ _ | with_reducible assumption | with_reducible refine bel_alloc ?_ _ | with_reducible refine bel_drew ?_ | with_reducible refine bel_drewN ?_ _ | with_reducible refine bel_set ?_ (by (try simp) <;> omega) _ | with_reducible refine bel_trans ?_ (by assumption))))
        by_cases hF : fmtS ((a[1].toNat : Int) - 48) X Y = s
        · have hq := bytes_same hF
          have HF := hide hF
          clear hF
          go_wp2_with fail
          go_at_call 6
          refine (spec_FormatTransform _ _ _ _).mono ?_
          rintro e w4 ⟨rfl, hb4⟩
          obtain ⟨_, _, hc4, hf4⟩ := bcellI hb4
          have hs4 := hb4.size
          (try simp at hs4)
          go_wp2_with fail
          refine bodyPost_ret (v := .tuple #[.agg #[.int .i64 ((a[1].toNat : Int) - 48), .int .i64 X, .int .i64 Y], .bool true]) (by first | (simp [results, Tryd.results9, go_sem, *]; done) | simp [results, Tryd.results9, go_sem, *, ↓IntWalk.iteOmega]) rfl ⟨(a[1].toNat : Int) - 48, X, Y, true, rfl, yes_text NE.out HF.out, (by repeat (first | with_reducible exact Below.refl _ _ | with_reducible assumption | with_reducible refine bel_alloc ?_ _ | with_reducible refine bel_drew ?_ | with_reducible refine bel_drewN ?_ _ | with_reducible refine bel_set ?_ (by (try simp) <;> omega) _ | with_reducible refine bel_trans ?_ (by assumption)))⟩
        · have hq := bytes_ne hF
          have HF := hide (show fmtS (oOf a[0] a[1]) (lvV b.data.toList) (lvV c.data.toList) ≠ s by rw [← HO.out, ← HXY.out.1, ← HXY.out.2]; exact hF)
          clear hF
          go_wp2_with fail
          go_at_call 6
          refine (spec_FormatTransform _ _ _ _).mono ?_
          rintro e w4 ⟨rfl, hb4⟩
          obtain ⟨_, _, hc4, hf4⟩ := bcellI hb4
          have hs4 := hb4.size
          (try simp at hs4)
          go_wp2_with fail
          refine bodyPost_ret (v := .tuple #[.agg #[.int .i64 0, .int .i64 0, .int .i64 0], .bool false]) (by first | (simp [results, Tryd.results9, go_sem, *]; done) | simp [results, Tryd.results9, go_sem, *, ↓IntWalk.iteOmega]) rfl (retP_no (no_text reads_lv HW.out HA.out p0 p1 HF.out) rfl (by repeat (first | with_reducible exact Below.refl _ _ | with_reducible assumption | with_reducible refine bel_alloc ?_ _ | with_reducible refine bel_drew ?_ | with_reducible refine bel_drewN ?_ _ | with_reducible refine bel_set ?_ (by (try simp) <;> omega) _ | with_reducible refine bel_trans ?_ (by assumption))))
    · have q2 : ((a.size : Int) != 2) = true := by simp; omega
      go_wp2_with fail
      refine bodyPost_ret (v := .tuple #[.agg #[.int .i64 0, .int .i64 0, .int .i64 0], .bool false]) (by first | (simp [results, Tryd.results9, go_sem, *]; done) | simp [results, Tryd.results9, go_sem, *, ↓IntWalk.iteOmega]) rfl (retP_no (no_two HW.out h2) rfl (by repeat (first | with_reducible exact Below.refl _ _ | with_reducible assumption | with_reducible refine bel_alloc ?_ _ | with_reducible refine bel_drew ?_ | with_reducible refine bel_drewN ?_ _ | with_reducible refine bel_set ?_ (by (try simp) <;> omega) _ | with_reducible refine bel_trans ?_ (by assumption))))
  · have q3 : ((W.length : Int) != 3) = true := by simp; omega
    subst he1
    obtain ⟨r0, r1, r2, f0, f1, f2, hbl⟩ := RS1.out
    have H3 := hide h3
    clear h3 hne hW
    go_wp2_with fail
    refine bodyPost_ret (v := .tuple #[.agg #[.int .i64 0, .int .i64 0, .int .i64 0], .bool false]) (by first | (simp [results, Tryd.results9, go_sem, *]; done) | simp [results, Tryd.results9, go_sem, *, ↓IntWalk.iteOmega]) rfl (retP_no (no_three HW.out H3.out) rfl (by repeat (first | with_reducible exact Below.refl _ _ | with_reducible assumption | with_reducible refine bel_alloc ?_ _ | with_reducible refine bel_drew ?_ | with_reducible refine bel_drewN ?_ _ | with_reducible refine bel_set ?_ (by (try simp) <;> omega) _ | with_reducible refine bel_trans ?_ (by assumption))))
end Go.Proofs.YtldgjocjcbhkmabDoor
