/- Contracts: the runs of a region's row. -/
import Derived.Test.YtdnbocngbmbofaaLawI
import Derived.Laws.OwnMore
namespace Go.Proofs.Ytdnbocngbmbofaa
open Go.RowKit
attribute [local go_sem low] cell_alloc_ite frozen_alloc_ite

def rowR (l : List Rc) (y : Int) : List Int := if isReg l && inR y (-40) 39 then rowOf l (y + 40).toNat else []
theorem changes_len (p : Nat → Bool) : (changes p).length ≤ 81 := changesTo_len p 81
theorem rowR_len (l : List Rc) (y : Int) : (rowR l y).length ≤ 2000000 := by
  unfold rowR
  split
  · rename_i h
    rw [Bool.and_eq_true, inR_iff] at h
    rw [rowOf_reg h.1 (by omega), List.length_map]
    have := changes_len (bitsOf l (y + 40).toNat)
    omega
  · simp
theorem intV_changes (c : List Nat) : intsL c = intV (c.map fun k : Nat => (k : Int) - 40) := by simp [intsL, intV]
theorem cells_new2 (w : World) (C : Array Value) (t : TypeId) (xs : List Value) (n : Nat) (hn : n = w.heap.size) (h : C.toList = xs) : ∀ j u, xs[j]? = some u → (w.alloc (.cells C t)).cell? ((⟨n, 0, none⟩ : Addr).add j) = some u := by
  subst hn
  exact cells_new w C t xs h
set_option maxHeartbeats 800000 in
theorem spec_RegionRow (l : List Rc) (y : Int) (a : Option Addr) (cap : Nat) (w : World) (h : RectsAt w.heap.size w a l) (hn : l.length ≤ 2000000) : Calls Try.prog 16 #[.slice a l.length cap, .int .i64 y] w (RetI w (rowR l y)) := by
  cases hv : isReg l
  · rw [show rowR l y = [] from by simp [rowR, hv]]
    go_enter Try.func16, Try.ntmps16
    go_wp2_with fail
    go_at_call 48
    refine (spec_l03Ok l _ _ _ h hn).mono ?_
    rintro e w1 ⟨rfl, hb1⟩
    go_wp2_with fail
    go_ret
    exact retI_nil rfl hb1
  cases hk : inR y (-40) 39
  · rw [show rowR l y = [] from by simp [rowR, hk]]
    go_enter Try.func16, Try.ntmps16
    go_wp2_with fail
    go_at_call 48
    refine (spec_l03Ok l _ _ _ h hn).mono ?_
    rintro e w1 ⟨rfl, hb1⟩
    go_wp2_with (go_at_call 49; refine (spec_l01In _ _ _ _).mono ?_; rintro e w2 ⟨rfl, rfl⟩)
    go_ret
    exact retI_nil rfl hb1
  have hy := inR_iff.1 hk
  obtain ⟨i, rfl⟩ : ∃ i : Nat, y = (i : Int) - 40 := ⟨(y + 40).toNat, by omega⟩
  have hi : i < 80 := by omega
  have hro : rowR l ((i : Int) - 40) = (changes (bitsOf l i)).map fun k : Nat => (k : Int) - 40 := by
    rw [rowR, hv, hk, show ((i : Int) - 40 + 40).toNat = i from by omega]
    exact rowOf_reg hv hi
  have HRO := hide hro
  have hok := isReg_iff.1 hv
  have HOK := hide hok
  clear hok hro hy
  go_enter Try.func16, Try.ntmps16
  go_wp2_with fail
  go_at_call 48
  refine (spec_l03Ok l _ _ _ h hn).mono ?_
  rintro e w1 ⟨rfl, hb1⟩
  go_wp2_with fail
  go_at_call 49
  refine (spec_l01In _ _ _ _).mono ?_
  rintro e w1' ⟨rfl, rfl⟩
  go_wp2_with fail
  go_at_call 51
  refine (spec_l03Bits l _ _ _ (h.kept hb1) (by have := HOK.out.1; omega) HOK.out.2.1).mono ?_
  rintro e w2 ⟨b2, rfl, _, r2, hb2⟩
  go_wp2_with fail
  go_at_call 50
  refine ((spec_l03Runs _ _ _ i hi _ r2).mono fun e w' ⟨v, he, ho, hb⟩ => retI_of (L := rowR l ((i : Int) - 40)) ⟨v, he, by rw [HRO.out, OwnInts, List.length_map, ← intV_changes]; exact ho, hb⟩).mono ?_
  rintro e w3 ⟨a3, c3, rfl, ho3, hb3⟩
  go_wp2_with fail
  go_ret
  exact ⟨a3, c3, rfl, own_baseI ho3 (bel_trans hb1 hb2).size, bel_trans (bel_trans hb1 hb2) hb3⟩
theorem rowOf_take {l : List Rc} {k i : Nat} (h : i < l.length) : rowOf (l.take (i + 1)) k = rowOf (l.take i) k ++ (if onRow k l[i] then [l[i].x0, l[i].x1] else []) := by
  rw [List.take_succ_eq_append_getElem h, rowOf_append]
  congr 1
  cases hq : onRow k l[i] <;> simp [rowOf, hq]
theorem rowOf_len (l : List Rc) (k : Nat) : (rowOf l k).length ≤ 2 * l.length := by
  induction l with
  | nil => simp [rowOf]
  | cons r l ih =>
    have h2 := rowOf_append [r] l k
    simp only [List.singleton_append] at h2
    rw [h2, List.length_append, List.length_cons]
    have : (rowOf [r] k).length ≤ 2 := by cases hq : onRow k r <;> simp [rowOf, hq]
    omega
set_option maxHeartbeats 1600000 in
theorem impl_RegionRow (l : List Rc) (y : Int) (a : Option Addr) (cap : Nat) (w : World) (h : RectsAt w.heap.size w a l) (hn : l.length ≤ 2000000) : Calls Try.prog 18 #[.slice a l.length cap, .int .i64 y] w (RetI w (rowR l y)) := by
  cases hv : isReg l
  · rw [show rowR l y = [] from by simp [rowR, hv]]
    go_enter Try.func18, Try.ntmps18
    go_wp2_with fail
    go_at_call 52
    refine (impl_IsRegion l _ _ _ h hn).mono ?_
    rintro e w1 ⟨rfl, hb1⟩
    go_wp2_with fail
    go_ret
    exact retI_nil rfl hb1
  cases hk : inR y (-40) 39
  · rw [show rowR l y = [] from by simp [rowR, hk]]
    go_enter Try.func18, Try.ntmps18
    go_wp2_with fail
    go_at_call 52
    refine (impl_IsRegion l _ _ _ h hn).mono ?_
    rintro e w1 ⟨rfl, hb1⟩
    go_wp2_with (go_at_call 53; refine (impl_within _ _ _ _).mono ?_; rintro e w2 ⟨rfl, rfl⟩)
    go_ret
    exact retI_nil rfl hb1
  have hy := inR_iff.1 hk
  obtain ⟨k, rfl⟩ : ∃ i : Nat, y = (i : Int) - 40 := ⟨(y + 40).toNat, by omega⟩
  have hro : rowR l ((k : Int) - 40) = rowOf l k := by
    rw [rowR, hv, hk, show ((k : Int) - 40 + 40).toNat = k from by omega]
    rfl
  have HRO := hide hro
  obtain ⟨ii, hii, hiz⟩ := Option.map_eq_some_iff.1 int_info
  simp only [Prod.mk.injEq] at hiz
  obtain ⟨hz, hsz, hby⟩ := hiz
  have HZ := hide (And.intro hii (And.intro hz (And.intro hsz hby)))
  have hl32 := (isReg_iff.1 hv).1
  clear hro hii hz hsz hby
  go_enter Try.func18, Try.ntmps18
  go_wp2_with fail
  go_at_call 52
  refine (impl_IsRegion l _ _ _ h hn).mono ?_
  rintro e w1 ⟨rfl, hb1⟩
  go_wp2_with (go_at_call 53; refine (impl_within _ _ _ _).mono ?_; rintro e w1' ⟨rfl, rfl⟩)
  clear hv hk
  go_loopw [5, 19] (fun sv s wr => ∃ i : Nat, i ≤ l.length ∧ s = .int .i64 i ∧ OwnInts wr w.heap.size sv (rowOf (l.take i) k) ∧ Below w.heap.size w wr) (fun _ s _ => l.length - (intOf s).toNat)
  case atStart =>
    refine ⟨0, Nat.zero_le _, rfl, ?_, (by repeat (first | with_reducible exact Below.refl _ _ | with_reducible assumption | with_reducible refine bel_alloc ?_ _ | with_reducible refine bel_drew ?_ | with_reducible refine bel_drewN ?_ _ | with_reducible refine bel_set ?_ (by (try simp) <;> omega) _ | with_reducible refine bel_trans ?_ (by assumption)))⟩
    exact World.ownsRow_lit (base := w.heap.size) (e := 2) (size := 1) w1 #[] 0 hb1.size (by simp [maxLen]) rfl
  case round =>
    obtain ⟨i, hi, rfl, hown, hbl⟩ := hrel
    by_cases hyl : i < l.length
    · obtain ⟨g, ha, hg, c0, c1, c2, c3⟩ := h.below hbl (Nat.le_refl _) i l[i] (List.getElem?_eq_getElem hyl)
      subst ha
      have hrt := rowOf_take (k := k) hyl
      have hlen := rowOf_len (l.take i) k
      have hlt := List.length_take_le i l
      have HLEN := hide (Nat.le_trans hlen (Nat.mul_le_mul_left 2 hlt))
      clear hlen hlt
      have hs1 := hbl.size
      have hown2 : _root_.Go.World.ownsRow _ w.heap.size 2 1 u5 (rowOf (l.take i) k).length (intV (rowOf (l.take i) k)) := hown
      by_cases hy0 : l[i].y0 ≤ (k : Int) - 40
      · by_cases hy1 : (k : Int) - 40 < l[i].y1
        · rw [if_pos (show onRow k l[i] = true from by simp [onRow, hy0, hy1])] at hrt
          have HRT := hide hrt
          clear hrt
          go_wp2_with (at_builtin; refine wpList_append_own _ rfl _ _ 24 rfl w.heap.size 2 ii (.int .i64 0) 1 8 Try.underlying24 HZ.out.1 HZ.out.2.1 HZ.out.2.2.1 HZ.out.2.2.2 rfl (by decide) _ _ _ rfl ((hown2.alloc _).alloc _) ⟨wr.heap.size + 1, 0, none⟩ 2 2 [.int .i64 l[i].x0, .int .i64 l[i].x1] rfl rfl (cells_new2 _ _ _ _ _ (by simp) rfl) (fun u hu => by simp at hu; rcases hu with rfl | rfl <;> rfl) (by have := HLEN.out; unfold maxLen; omega) (by have := HLEN.out; omega) (by simp; omega) ?_; intro v' w2 ho2 hg2 _)
          go_roundw
          case rel =>
            refine ⟨i + 1, hyl, by go_num, ?_, grown_below ((hbl.alloc hbl.size _).alloc (by simp; omega) _) ((hown2.alloc _).alloc _) hg2⟩
            rw [HRT.out, OwnInts, List.length_append, intV, List.map_append]
            exact ho2
          case measure => simp [intOf]; omega
        · rw [if_neg (show ¬ onRow k l[i] = true from by simp [onRow]; omega), List.append_nil] at hrt
          have HRT := hide hrt
          clear hrt
          go_wp2_with fail
          go_roundw
          case rel => exact ⟨i + 1, hyl, by go_num, by rw [HRT.out]; exact hown2.alloc _, (by repeat (first | with_reducible exact Below.refl _ _ | with_reducible assumption | with_reducible refine bel_alloc ?_ _ | with_reducible refine bel_drew ?_ | with_reducible refine bel_drewN ?_ _ | with_reducible refine bel_set ?_ (by (try simp) <;> omega) _ | with_reducible refine bel_trans ?_ (by assumption)))⟩
          case measure => simp [intOf]; omega
      · rw [if_neg (show ¬ onRow k l[i] = true from by simp [onRow]; omega), List.append_nil] at hrt
        have HRT := hide hrt
        clear hrt
        go_wp2_with fail
        go_roundw
        case rel => exact ⟨i + 1, hyl, by go_num, by rw [HRT.out]; exact hown2.alloc _, (by repeat (first | with_reducible exact Below.refl _ _ | with_reducible assumption | with_reducible refine bel_alloc ?_ _ | with_reducible refine bel_drew ?_ | with_reducible refine bel_drewN ?_ _ | with_reducible refine bel_set ?_ (by (try simp) <;> omega) _ | with_reducible refine bel_trans ?_ (by assumption)))⟩
        case measure => simp [intOf]; omega
    · go_wp2_with fail
      go_ret
      rw [List.take_of_length_le (by omega), ← HRO.out] at hown
      exact retI_of ⟨_, rfl, hown, hbl⟩
end Go.Proofs.Ytdnbocngbmbofaa
