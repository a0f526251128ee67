/- Contracts: words and numbers read from a text (reference). -/
import Derived.Test.YtldgjocjcbhkmabDoorTxtV
namespace Go.Proofs.YtldgjocjcbhkmabDoor
open Go.RowKit
attribute [local go_sem low] cell_alloc_ite frozen_alloc_ite

/-! ### rows of strings of the call's own -/
theorem str_info : (Tryd.prog.info? 9).map (fun i => (i.zero, i.size, i.bytes)) = some (some (.string ByteArray.empty), 1, 16) := by kernel_rfl
def OwnW (w : World) (base : Nat) (v : Value) (D : List ByteArray) : Prop := w.ownsRow base 9 1 v D.length (D.map Value.string)
theorem ownW_nil (w : World) : OwnW (w.alloc (.cells #[] 9)) w.heap.size (.slice (some ⟨w.heap.size, 0, none⟩) 0 0) [] := World.ownsRow_lit w #[] 0 (Nat.le_refl _) (by simp [maxLen]) rfl
theorem wpList_append_word {w : World} {ops : Array Oper} {rest : List Oper} {o : Oper} {a : Act} {Q : Exit → Act → World → Prop} (hgd : o.guard = none) (s x : Operand)
    (ho : o.op = .call { callee := .builtin .append, args := #[s, x], argTypes := #[43, 43] })
    (base : Nat) (v : Value) (D : List ByteArray) (hs : a.eval s = v) (hown : OwnW w base v D)
    (g : Nat) (t : ByteArray) (hx : a.eval x = .slice (some ⟨g, 0, none⟩) 1 1) (hc : w.cell? ⟨g, 0, none⟩ = some (.string t)) (hlen : D.length ≤ 3000000) (hbase : base ≤ w.heap.size)
    (h : ∀ v' w', OwnW w' base v' (D ++ [t]) → w.grownBy w' v.ownBlock → wpList Tryd.prog ops Q rest (a.put o.dst v') w') : wpList Tryd.prog ops Q (o :: rest) a w := by
  obtain ⟨ii, hii, hiz⟩ := Option.map_eq_some_iff.1 str_info
  simp only [Prod.mk.injEq] at hiz
  obtain ⟨hz, hsz, hby⟩ := hiz
  unfold OwnW at hown h
  refine wpList_append_own w hgd s x 43 ho base 9 ii _ 1 16 Tryd.underlying43 hii hz hsz hby rfl (by decide) v D.length (D.map Value.string) hs hown ⟨g, 0, none⟩ 1 1 [.string t] hx rfl
    (fun j u hu => ?_) (fun u hu => by simp only [List.mem_singleton] at hu; subst hu; rfl) (by unfold maxLen; omega) (by omega) hbase fun v' w' h1 h2 _ => h v' w' (by rw [List.length_append, List.map_append]; exact h1) h2
  cases j with
  | zero => simp only [List.getElem?_cons_zero, Option.some.injEq] at hu; subst hu; exact hc
  | succ j => simp at hu
/-- The words of a text: a row of its own. -/
def RetW (w : World) (l : List UInt8) (e : Ending) (w' : World) : Prop := ∃ (D : List ByteArray) (v : Value), D.map (·.data.toList) = wordsL l ∧ e = .returned v ∧ OwnW w' w.heap.size v D ∧ Below w.heap.size w w'
/-- What the loop over the bytes has done. -/
structure WordsAt (s : ByteArray) (D : List ByteArray) (p i : Nat) : Prop where
  le : p ≤ i
  done : D.map (·.data.toList) ++ wordsL (s.data.toList.drop p) = wordsL s.data.toList
  plain : ∀ j, p ≤ j → j < i → s.data.toList[j]? ≠ some 32
  few : D.length ≤ i
theorem wordsAt_start (s : ByteArray) : WordsAt s [] 0 0 := ⟨Nat.le_refl _, by simp, fun j _ h => absurd h (by omega), Nat.le_refl _⟩
theorem wordsAt_plain {s : ByteArray} {D : List ByteArray} {p i : Nat} (h : WordsAt s D p i) (hn : s.data.toList[i]? ≠ some 32) : WordsAt s D p (i + 1) :=
  ⟨Nat.le_succ_of_le h.le, h.done, fun j h1 h2 => by
    by_cases e : j = i
    · subst e; exact hn
    · exact h.plain j h1 (by omega), Nat.le_succ_of_le h.few⟩
theorem wordsAt_cut {s : ByteArray} {D : List ByteArray} {p i : Nat} (h : WordsAt s D p i) (hn : s.data.toList[i]? = some 32) : WordsAt s (D ++ [s.extract p i]) (i + 1) (i + 1) := by
  refine ⟨Nat.le_refl _, ?_, fun j _ h2 => absurd h2 (by omega), by have := h.few; simp; omega⟩
  have hi : i < s.data.toList.length := (List.getElem?_eq_some_iff.1 hn).1
  have hx : (s.extract p i).data.toList = (s.data.toList.drop p).take (i - p) := by rw [Lib.extract_data]
  have hd : s.data.toList.drop p = (s.data.toList.drop p).take (i - p) ++ 32 :: s.data.toList.drop (i + 1) := by
    conv => lhs; rw [← List.take_append_drop (i - p) (s.data.toList.drop p)]
    rw [List.drop_drop, show p + (i - p) = i from by have := h.le; omega, List.drop_eq_getElem_cons hi]
    rw [List.getElem?_eq_getElem hi, Option.some.injEq] at hn
    rw [hn]
  have hp : ∀ c ∈ (s.data.toList.drop p).take (i - p), c ≠ 32 := by
    intro c hc e
    subst e
    obtain ⟨j, hj⟩ := List.mem_iff_getElem?.1 hc
    rw [List.getElem?_take] at hj
    split at hj
    · rw [List.getElem?_drop] at hj
      exact h.plain (p + j) (by omega) (by omega) hj
    · cases hj
  have := h.done
  rw [hd, words_cut _ hp] at this
  rw [← this, List.map_append, List.map_singleton, hx, List.append_assoc]
  rfl
theorem wordsAt_end {s : ByteArray} {D : List ByteArray} {p : Nat} (h : WordsAt s D p s.size) : (D ++ [s.extract p s.size]).map (·.data.toList) = wordsL s.data.toList := by
  have hsz : s.size = s.data.toList.length := Array.length_toList.symm
  have hx : (s.extract p s.size).data.toList = s.data.toList.drop p := Lib.extract_to_end s p
  have hp : ∀ c ∈ s.data.toList.drop p, c ≠ 32 := by
    intro c hc e
    subst e
    obtain ⟨j, hj⟩ := List.mem_iff_getElem?.1 hc
    rw [List.getElem?_drop] at hj
    have := (List.getElem?_eq_some_iff.1 hj).1
    exact h.plain (p + j) (by omega) (by omega) hj
  have := h.done
  rw [words_plain hp] at this
  rw [← this, List.map_append, List.map_singleton, hx]
theorem byte_at (s : ByteArray) (i : Nat) (h : i < s.size) : s.data.toList[i]? = some s[i] := by
  rw [List.getElem?_eq_getElem (show i < s.data.toList.length from Nat.lt_of_lt_of_eq h Array.length_toList.symm)]; rfl
set_option maxRecDepth 100000 in
set_option maxHeartbeats 1600000 in
theorem spec_l01Words (s : ByteArray) (hs : s.size ≤ 1000) (w : World) : Calls Tryd.prog 20 #[.string s, .int .u8 32] w (RetW w s.data.toList) := by
  have HN := hide (ownW_nil w)
  go_enter Tryd.func20, Tryd.ntmps20
  go_wp2_with fail
  go_loopw [5, 6, 7] (fun s5 s6 s7 wr => ∃ (i p : Nat) (D : List ByteArray), i ≤ s.size ∧ s7 = .int .i64 i ∧ s6 = .int .i64 p ∧ WordsAt s D p i ∧ OwnW wr w.heap.size s5 D ∧ Below w.heap.size w wr) (fun _ _ s7 _ => s.size - (intOf s7).toNat)
  case atStart => exact ⟨0, 0, [], Nat.zero_le _, rfl, rfl, wordsAt_start s, HN.out, (by repeat (first | with_reducible exact Below.refl _ _ | with_reducible assumption | with_reducible refine bel_alloc ?_ _ | with_reducible refine bel_drew ?_ | with_reducible refine bel_drewN ?_ _ | with_reducible refine bel_set ?_ (by (try simp) <;> omega) _ | with_reducible refine bel_trans ?_ (by assumption)))⟩
  case round =>
    obtain ⟨i, p, D, hi, rfl, rfl, hW, hown, hbl⟩ := hrel
    have hpi := hW.le
    have hfew := hW.few
    have hsz := hbl.size
    have HW := hide hW
    have HO := hide hown
    clear hW hown
    by_cases hy : i < s.size
    · have hx0 : (0 : Int) ≤ (i : Int) := Int.natCast_nonneg _
      have hx1 : (i : Int) < (s.size : Int) := by omega
      have hx2 : (0 : Int) ≤ (p : Int) := Int.natCast_nonneg _
      have hx3 : (p : Int) ≤ (i : Int) := by omega
      have hx4 : (i : Int) ≤ (s.size : Int) := by omega
      by_cases hc : s[i] = 32
      · have HB := hide (byte_at s i hy)
        have HC := hide hc
        have hb1 : ((s[i].toNat : Int) == 32) = true := by rw [hc]; rfl
        clear hc
        go_wp2_with (at_builtin; refine wpList_append_word rfl _ _ rfl w.heap.size _ D rfl (World.ownsRow.alloc HO.out _) wr.heap.size (s.extract p i) rfl (by simp [go_sem]) (by omega) (by simp; omega) ?_; intro v' w1 ho1 hg1)
        go_roundw
        case rel => exact ⟨i + 1, i + 1, D ++ [s.extract p i], hy, by go_num, by go_num, wordsAt_cut HW.out (by rw [HB.out, HC.out]), ho1, (hbl.alloc hsz _).grown hg1 (by simp; omega) (fun k e => (World.ownsRow.lt HO.out k e).1)⟩
        case measure => simp [intOf]; omega
      · have HB := hide (byte_at s i hy)
        have HC := hide hc
        have hq : s[i].toNat ≠ 32 := fun e => hc (UInt8.toNat_inj.1 e)
        have hb1 : ((s[i].toNat : Int) == 32) = false := by simp only [beq_eq_false_iff_ne]; omega
        clear hc hq
        go_wp2_with fail
        go_roundw
        case rel => exact ⟨i + 1, p, D, hy, by go_num, rfl, wordsAt_plain HW.out (by rw [HB.out]; exact fun e => HC.out (Option.some.inj e)), HO.out, hbl⟩
        case measure => simp [intOf]; omega
    · obtain rfl : i = s.size := by omega
      have hx2 : (0 : Int) ≤ (p : Int) := Int.natCast_nonneg _
      have hx3 : (p : Int) ≤ (s.size : Int) := by omega
      go_wp2_with (at_builtin; refine wpList_append_word rfl _ _ rfl w.heap.size _ D rfl (World.ownsRow.alloc HO.out _) wr.heap.size (s.extract p s.size) rfl (by simp [go_sem]) (by omega) (by simp; omega) ?_; intro v' w1 ho1 hg1)
      go_ret
      exact ⟨_, _, wordsAt_end HW.out, rfl, ho1, (hbl.alloc hsz _).grown hg1 (by simp; omega) (fun k e => (World.ownsRow.lt HO.out k e).1)⟩

/-! ### a number read -/
theorem lvF_head {s : ByteArray} (h : 0 < s.size) : lvF s.data.toList = if s[0] = 45 then 1 else 0 := by
  unfold lvF
  rw [List.head?_eq_getElem?, byte_at s 0 h]
  simp
theorem lvD_len (s : ByteArray) : (lvD s.data.toList).length = s.size - lvF s.data.toList := by
  unfold lvD
  rw [List.length_drop, Array.length_toList]; rfl
theorem lvF_le (l : List UInt8) : lvF l ≤ 1 := by unfold lvF; split <;> omega
/-- The digits up to place k are digits and worth n. -/
structure NumAt (s : ByteArray) (f k : Nat) (n : Int) : Prop where
  le : f ≤ k
  digs : ((s.data.toList.drop f).take (k - f)).all isDig = true
  val : lvN ((s.data.toList.drop f).take (k - f)) = n
theorem numAt_start (s : ByteArray) (f : Nat) : NumAt s f f 0 := ⟨Nat.le_refl _, by simp, by simp [lvN]⟩
theorem numAt_take {s : ByteArray} {f k : Nat} (hf : f ≤ k) (hk : k < s.size) : (s.data.toList.drop f).take (k + 1 - f) = (s.data.toList.drop f).take (k - f) ++ [s[k]] := by
  rw [show k + 1 - f = (k - f) + 1 from by omega, List.take_add_one, List.getElem?_drop, show f + (k - f) = k from by omega, byte_at s k hk]
  rfl
theorem numAt_next {s : ByteArray} {f k : Nat} {n : Int} (h : NumAt s f k n) (hk : k < s.size) (hd : isDig s[k] = true) : NumAt s f (k + 1) (10 * n + ((s[k].toNat : Int) - 48)) := by
  have ht := numAt_take h.le hk
  exact ⟨Nat.le_succ_of_le h.le, by rw [ht, List.all_append, h.digs]; simp [hd], by rw [ht, lvN_snoc, h.val]⟩
theorem numAt_bad {s : ByteArray} {k : Nat} (hf : lvF s.data.toList ≤ k) (hk : k < s.size) (hd : isDig s[k] = false) : lvOk s.data.toList = false := by
  rw [Bool.eq_false_iff]
  intro h
  simp only [lvOk, Bool.and_eq_true, List.all_eq_true] at h
  have hm : s[k] ∈ lvD s.data.toList := by
    unfold lvD
    refine List.mem_iff_getElem?.2 ⟨k - lvF s.data.toList, ?_⟩
    rw [List.getElem?_drop, show lvF s.data.toList + (k - lvF s.data.toList) = k from by omega, byte_at s k hk]
  rw [h.2 _ hm] at hd
  cases hd
theorem numAt_bounds {s : ByteArray} {f k : Nat} {n : Int} (h : NumAt s f k n) (hk : k - f ≤ 9) : 0 ≤ n ∧ n ≤ 999999999 := by
  rw [← h.val]
  refine lvN_nine (by rw [List.length_take]; omega) fun c hc => List.all_eq_true.1 h.digs c hc
theorem numAt_all {s : ByteArray} {n : Int} (h : NumAt s (lvF s.data.toList) s.size n) (h1 : 1 ≤ s.size - lvF s.data.toList) (h9 : s.size - lvF s.data.toList ≤ 9) :
    lvOk s.data.toList = true ∧ lvV s.data.toList = (if lvF s.data.toList = 1 then -n else n) := by
  have hd : (s.data.toList.drop (lvF s.data.toList)).take (s.size - lvF s.data.toList) = lvD s.data.toList := by
    unfold lvD
    rw [List.take_of_length_le]
    rw [List.length_drop, Array.length_toList]
    exact Nat.le_refl _
  have h1' := h.digs
  have h2' := h.val
  rw [hd] at h1' h2'
  have ok : lvOk s.data.toList = true := by
    unfold lvOk
    rw [h1', lvD_len]
    simp [h1, h9]
  refine ⟨ok, ?_⟩
  unfold lvV
  rw [if_pos ok, h2']
theorem lv_short {s : ByteArray} (h : ¬ (1 ≤ s.size - lvF s.data.toList ∧ s.size - lvF s.data.toList ≤ 9)) : lvOk s.data.toList = false := by
  unfold lvOk
  rw [lvD_len, Bool.eq_false_iff]
  simp only [ne_eq, Bool.and_eq_true, decide_eq_true_eq]
  intro hh
  exact h ⟨hh.1.1, hh.1.2⟩
theorem lv_no {l : List UInt8} (h : lvOk l = false) : lvV l = 0 ∧ lvB l = false := by simp [lvV, lvB, h]
def RetNB (w : World) (v : Int) (b : Bool) (e : Ending) (w' : World) : Prop := e = .returned (.tuple #[.int .i64 v, .bool b]) ∧ Below w.heap.size w w'
theorem retNB_no {w w' : World} {l : List UInt8} {e : Ending} (h : lvOk l = false) (he : e = .returned (.tuple #[.int .i64 0, .bool false])) (hb : Below w.heap.size w w') : RetNB w (lvV l) (lvB l) e w' := by
  obtain ⟨h1, h2⟩ := lv_no h
  rw [h1, h2]
  exact ⟨he, hb⟩
theorem bytes_eq {a b : ByteArray} (h : a.data.toList = b.data.toList) : a = b := by
  apply ByteArray.ext
  exact Array.ext' h
theorem lv_fin {s : ByteArray} {v : Int} (h1 : lvOk s.data.toList = true) (h2 : lvV s.data.toList = v) : Ending.returned (.tuple #[.int .i64 v, .bool (Lib.itoa v == s.toList)]) = .returned (.tuple #[.int .i64 (lvV s.data.toList), .bool (lvB s.data.toList)]) := by
  rw [lvB, h1, h2, Lib.toList_data]; simp
set_option maxRecDepth 100000 in
set_option maxHeartbeats 1600000 in
theorem spec_l01Value_at (f : Nat) (s : ByteArray) (hs : s.size ≤ 1000) (h0 : 0 < s.size) (hf : lvF s.data.toList = f) (hf0 : (f = 0 ∧ s[0] ≠ 45) ∨ (f = 1 ∧ s[0] = 45)) (w : World) :
    Calls Tryd.prog 21 #[.string s] w (RetNB w (lvV s.data.toList) (lvB s.data.toList)) := by
  have hp : (0 : Int) < (s.size : Int) := by omega
  have hp2 : ((s.size : Int) > 0) := by omega
  have HF := hide hf
  clear hf
  rcases hf0 with ⟨rfl, h45⟩ | ⟨rfl, h45⟩
  · have hq : s[0].toNat ≠ 45 := fun e => h45 (UInt8.toNat_inj.1 e)
    have hb1 : ((s[0].toNat : Int) == 45) = false := by simp only [beq_eq_false_iff_ne]; omega
    clear h45 hq
    by_cases h9 : s.size ≤ 9
    · have g1 : ¬ ((s.size : Int) < 1) := by omega
      have g9 : ¬ ((s.size : Int) > 9) := by omega
      have g9' : (s.size : Int) ≤ 9 := by omega
      go_enter Tryd.func21, Tryd.ntmps21
      go_wp2_with fail
      go_loop [4, 6] (fun s4 s6 => ∃ (k : Nat) (n : Int), k ≤ s.size ∧ s6 = .int .i64 k ∧ s4 = .int .i64 n ∧ NumAt s 0 k n) (fun _ s6 => s.size - (intOf s6).toNat)
      case atStart => exact ⟨0, 0, Nat.zero_le _, rfl, rfl, numAt_start s 0⟩
      case round =>
        obtain ⟨k, n, hk, rfl, rfl, hN⟩ := hrel
        obtain ⟨n0, n9⟩ := numAt_bounds hN (by omega)
        have HN := hide hN
        clear hN
        by_cases hy : k < s.size
        · have hx0 : (0 : Int) ≤ (k : Int) := Int.natCast_nonneg _
          have hx1 : (k : Int) < (s.size : Int) := by omega
          by_cases hd : isDig s[k] = true
          · obtain ⟨d1, d2⟩ := dig_bounds hd
            have HD := hide hd
            have e1 : ¬ ((s[k].toNat : Int) < 48) := by omega
            have e2 : ¬ ((s[k].toNat : Int) > 57) := by omega
            have e3 : (48 : Int) ≤ (s[k].toNat : Int) := by omega
            have e4 : (s[k].toNat : Int) ≤ 57 := by omega
            clear hd d1 d2
            go_wp2_with fail
            go_round
            case rel => exact ⟨k + 1, _, hy, by go_num, rfl, numAt_next HN.out hy HD.out⟩
            case measure => simp [intOf]; omega
          · have hdf : isDig s[k] = false := by simpa using hd
            have HX := hide (numAt_bad (s := s) (k := k) (by rw [HF.out]; exact HN.out.le) hy hdf)
            have hcase : s[k].toNat < 48 ∨ 57 < s[k].toNat := by
              unfold isDig at hdf
              simp only [Bool.and_eq_false_iff, decide_eq_false_iff_not] at hdf
              omega
            clear hd hdf
            rcases hcase with hc | hc
            · have e1 : (s[k].toNat : Int) < 48 := by omega
              clear hc
              go_wp2_with fail
              go_ret2
              exact retNB_no HX.out rfl (Below.refl _ _)
            · have e1 : ¬ ((s[k].toNat : Int) < 48) := by omega
              have e2 : (s[k].toNat : Int) > 57 := by omega
              have e3 : (48 : Int) ≤ (s[k].toNat : Int) := by omega
              have e4 : (57 : Int) < (s[k].toNat : Int) := by omega
              clear hc
              go_wp2_with fail
              go_ret2
              exact retNB_no HX.out rfl (Below.refl _ _)
        · obtain rfl : k = s.size := by omega
          have HA := hide (numAt_all (s := s) (n := n) (by rw [HF.out]; exact HN.out) (by rw [HF.out]; omega) (by rw [HF.out]; omega))
          go_wp2_with fail
          go_at_call 17
          refine (spec_l01Number n (by omega) _).mono ?_
          rintro e w1 ⟨rfl, hb⟩
          go_wp2_with fail
          go_ret2
          exact ⟨lv_fin HA.out.1 (by rw [HA.out.2, HF.out]; rfl), hb⟩
    · have HX := hide (lv_short (s := s) (by rw [HF.out]; omega))
      have g1 : ¬ ((s.size : Int) < 1) := by omega
      have g9 : (s.size : Int) > 9 := by omega
      have g9' : (9 : Int) < (s.size : Int) := by omega
      go_enter Tryd.func21, Tryd.ntmps21
      go_wp2_with fail
      go_ret2
      exact retNB_no HX.out rfl (Below.refl _ _)
  · have hb1 : ((s[0].toNat : Int) == 45) = true := by rw [h45]; rfl
    clear h45
    by_cases h1 : 2 ≤ s.size
    · by_cases h9 : s.size ≤ 10
      · have g1 : ¬ ((s.size : Int) - 1 < 1) := by omega
        have g9 : ¬ ((s.size : Int) - 1 > 9) := by omega
        have g9' : (s.size : Int) - 1 ≤ 9 := by omega
        go_enter Tryd.func21, Tryd.ntmps21
        go_wp2_with fail
        go_loop [4, 6] (fun s4 s6 => ∃ (k : Nat) (n : Int), k ≤ s.size ∧ s6 = .int .i64 k ∧ s4 = .int .i64 n ∧ NumAt s 1 k n) (fun _ s6 => s.size - (intOf s6).toNat)
        case atStart => exact ⟨1, 0, by omega, rfl, rfl, numAt_start s 1⟩
        case round =>
          obtain ⟨k, n, hk, rfl, rfl, hN⟩ := hrel
          obtain ⟨n0, n9⟩ := numAt_bounds hN (by omega)
          have HN := hide hN
          clear hN
          by_cases hy : k < s.size
          · have hx0 : (0 : Int) ≤ (k : Int) := Int.natCast_nonneg _
            have hx1 : (k : Int) < (s.size : Int) := by omega
            by_cases hd : isDig s[k] = true
            · obtain ⟨d1, d2⟩ := dig_bounds hd
              have HD := hide hd
              have e1 : ¬ ((s[k].toNat : Int) < 48) := by omega
              have e2 : ¬ ((s[k].toNat : Int) > 57) := by omega
              have e3 : (48 : Int) ≤ (s[k].toNat : Int) := by omega
              have e4 : (s[k].toNat : Int) ≤ 57 := by omega
              clear hd d1 d2
              go_wp2_with fail
              go_round
              case rel => exact ⟨k + 1, _, hy, by go_num, rfl, numAt_next HN.out hy HD.out⟩
              case measure => simp [intOf]; omega
            · have hdf : isDig s[k] = false := by simpa using hd
              have HX := hide (numAt_bad (s := s) (k := k) (by rw [HF.out]; exact HN.out.le) hy hdf)
              have hcase : s[k].toNat < 48 ∨ 57 < s[k].toNat := by
                unfold isDig at hdf
                simp only [Bool.and_eq_false_iff, decide_eq_false_iff_not] at hdf
                omega
              clear hd hdf
              rcases hcase with hc | hc
              · have e1 : (s[k].toNat : Int) < 48 := by omega
                clear hc
                go_wp2_with fail
                go_ret2
                exact retNB_no HX.out rfl (Below.refl _ _)
              · have e1 : ¬ ((s[k].toNat : Int) < 48) := by omega
                have e2 : (s[k].toNat : Int) > 57 := by omega
                have e3 : (48 : Int) ≤ (s[k].toNat : Int) := by omega
                have e4 : (57 : Int) < (s[k].toNat : Int) := by omega
                clear hc
                go_wp2_with fail
                go_ret2
                exact retNB_no HX.out rfl (Below.refl _ _)
          · obtain rfl : k = s.size := by omega
            have HA := hide (numAt_all (s := s) (n := n) (by rw [HF.out]; exact HN.out) (by rw [HF.out]; omega) (by rw [HF.out]; omega))
            go_wp2_with fail
            go_at_call 17
            refine (spec_l01Number (-n) (by omega) _).mono ?_
            rintro e w1 ⟨rfl, hb⟩
            go_wp2_with fail
            go_ret2
            exact ⟨lv_fin HA.out.1 (by rw [HA.out.2, HF.out]; rfl), hb⟩
      · have HX := hide (lv_short (s := s) (by rw [HF.out]; omega))
        have g1 : ¬ ((s.size : Int) - 1 < 1) := by omega
        have g9 : (s.size : Int) - 1 > 9 := by omega
        have g9' : (9 : Int) < (s.size : Int) - 1 := by omega
        go_enter Tryd.func21, Tryd.ntmps21
        go_wp2_with fail
        go_ret2
        exact retNB_no HX.out rfl (Below.refl _ _)
    · have HX := hide (lv_short (s := s) (by rw [HF.out]; omega))
      have g1 : (s.size : Int) - 1 < 1 := by omega
      go_enter Tryd.func21, Tryd.ntmps21
      go_wp2_with fail
      go_ret2
      exact retNB_no HX.out rfl (Below.refl _ _)
theorem spec_l01Value (s : ByteArray) (hs : s.size ≤ 1000) (w : World) : Calls Tryd.prog 21 #[.string s] w (RetNB w (lvV s.data.toList) (lvB s.data.toList)) := by
  by_cases h0 : 0 < s.size
  · have hh := lvF_head h0
    by_cases h45 : s[0] = 45
    · rw [if_pos h45] at hh
      exact spec_l01Value_at 1 s hs h0 hh (.inr ⟨rfl, h45⟩) w
    · rw [if_neg h45] at hh
      exact spec_l01Value_at 0 s hs h0 hh (.inl ⟨rfl, h45⟩) w
  · have HX := hide (lv_short (s := s) (by omega))
    have hz : s.size = 0 := by omega
    have z1 : ¬ ((s.size : Int) > 0) := by omega
    have z2 : (s.size : Int) < 1 := by omega
    have z3 : ¬ ((0 : Int) < (s.size : Int)) := by omega
    clear hz h0
    go_enter Tryd.func21, Tryd.ntmps21
    go_wp2_with fail
    go_ret2
    exact retNB_no HX.out rfl (Below.refl _ _)
end Go.Proofs.YtldgjocjcbhkmabDoor
