/- Contracts: growing, shrinking, opening and closing a region. -/
import Derived.Test.YtldgjocjcbhkmaaRegK
namespace Go.Proofs.Ytldgjocjcbhkmaa
open Go.RowKit
attribute [local go_sem low] cell_alloc_ite frozen_alloc_ite

def sizB (l : List Rc) (k : Int) : Bool := isReg l && inR k 0 10
def szR (F : Int → Grid → Grid) (k : Int) (l : List Rc) : List Rc := if sizB l k then regionL (F k (bitsOf l)) else []
theorem szR_len (F : Int → Grid → Grid) (k : Int) (l : List Rc) : (szR F k l).length ≤ 2000000 := by
  unfold szR
  split
  · have := region_length (F k (bitsOf l)); omega
  · simp
theorem szR_no {F : Int → Grid → Grid} {k : Int} {l : List Rc} (h : sizB l k = false) : szR F k l = [] := by simp [szR, h]
theorem szR_ok {F : Int → Grid → Grid} {k : Int} {l : List Rc} (h : sizB l k = true) : szR F k l = regionL (F k (bitsOf l)) := by simp [szR, h]
def growR (k : Int) (l : List Rc) : List Rc := szR growG k l
def shrinkR (k : Int) (l : List Rc) : List Rc := szR shrinkG k l
def openR (k : Int) (l : List Rc) : List Rc := szR openG k l
def closeR (k : Int) (l : List Rc) : List Rc := szR closeG k l
theorem region_lenM (g : Grid) : (regionL g).length ≤ 1000000 := by have := region_length g; omega
theorem region_lenN (g : Grid) : (regionL g).length ≤ 2000000 := by have := region_length g; omega
set_option maxRecDepth 100000 in
set_option maxHeartbeats 400000 in
theorem spec_l05Size (k : Int) (w : World) : Calls Try.prog 106 #[.int .i64 k] w fun e w' => e = .returned (.bool (inR k 0 10)) ∧ w = w' := by
  go_enter Try.func106, Try.ntmps106
  go_wp2_with (go_at_call 143; refine (spec_l01In _ _ _ _).mono ?_; rintro e w1 ⟨rfl, rfl⟩)
  go_ret
  exact ⟨rfl, rfl⟩
set_option maxRecDepth 100000 in
set_option maxHeartbeats 400000 in
theorem impl_sizable (l : List Rc) (k : Int) (a : Option Addr) (cap : Nat) (w : World) (h : RectsAt w.heap.size w a l) (hn : l.length ≤ 2000000) : Calls Try.prog 98 #[.slice a l.length cap, .int .i64 k] w fun e w' => e = .returned (.bool (sizB l k)) ∧ Below w.heap.size w w' := by
  cases hv : isReg l
  · rw [show sizB l k = false from by simp [sizB, hv]]
    go_enter Try.func98, Try.ntmps98
    go_wp2_with (go_at_call 30; refine (impl_IsRegion l _ _ _ h hn).mono ?_; rintro e w1 ⟨rfl, hb1⟩)
    go_ret
    exact ⟨rfl, hb1⟩
  · rw [show sizB l k = inR k 0 10 from by simp [sizB, hv]]
    go_enter Try.func98, Try.ntmps98
    go_wp2_with (first
      | (go_at_call 30; refine (impl_IsRegion l _ _ _ h hn).mono ?_; rintro e w1 ⟨rfl, hb1⟩)
      | (go_at_call 140; refine (impl_within _ _ _ _).mono ?_; rintro e w2 ⟨rfl, rfl⟩))
    go_ret
    exact ⟨rfl, hb1⟩
theorem enl_take {l : List Rc} {k : Int} {i : Nat} (hy : i < l.length) (u v : Nat) : bitsOf ((l.take (i + 1)).map (enl k)) u v = (bitsOf ((l.take i).map (enl k)) u v || (enl k l[i]).has u v) := by
  unfold bitsOf
  rw [List.take_succ_eq_append_getElem hy, List.map_append, List.any_append]
  simp only [List.map_cons, List.map_nil, List.any_cons, List.any_nil, Bool.or_false]
set_option maxRecDepth 100000 in
set_option maxHeartbeats 1600000 in
theorem impl_grown (l : List Rc) (k : Int) (hk : 0 ≤ k ∧ k ≤ 10) (a : Option Addr) (cap : Nat) (w : World) (h : RectsAt w.heap.size w a l) (hn : l.length ≤ 1000000) (hok : ∀ r ∈ l, r.ok = true) :
    Calls Try.prog 141 #[.slice a l.length cap, .int .i64 k] w fun e w' => ∃ b, e = .returned (.pointer (some ⟨b, 0, none⟩)) ∧ w.heap.size ≤ b ∧ w'.rowIs b 103 6400 (gv (bitsOf (l.map (enl k)))) ∧ Below w.heap.size w w' := by
  obtain ⟨hk0, hk1⟩ := hk
  have HOK := hide hok
  have hz := zero_row w
  clear hok
  go_enter Try.func141, Try.ntmps141
  go_wp2_with fail
  go_loopw [12] (fun sk wr => ∃ i : Nat, i ≤ l.length ∧ sk = .int .i64 i ∧ wr.rowIs w.heap.size 103 6400 (gv (bitsOf ((l.take i).map (enl k)))) ∧ Below w.heap.size w wr) (fun s _ => l.length - (intOf s).toNat)
  case atStart => exact ⟨0, Nat.zero_le _, rfl, hz, (by repeat (first | with_reducible exact Below.refl _ _ | with_reducible assumption | with_reducible refine bel_alloc ?_ _ | with_reducible refine bel_drew ?_ | with_reducible refine bel_drewN ?_ _ | with_reducible refine bel_set ?_ (by (try simp) <;> omega) _ | with_reducible refine bel_trans ?_ (by assumption)))⟩
  case round =>
    obtain ⟨i, hi, rfl, hrow, hbl⟩ := hrel
    clear hz
    by_cases hy : i < l.length
    · obtain ⟨g, ha, hg, c0, c1, c2, c3⟩ := h.below hbl (Nat.le_refl _) i l[i] (List.getElem?_eq_getElem hy)
      obtain ⟨x1, x2, x3, y1, y2, y3⟩ := vRect_iff.1 (HOK.out l[i] (List.getElem_mem hy))
      subst ha
      have hsz := hrow.lt
      go_wp2_with (go_at_call 121; refine (impl_put _ _ _ _ _ _ _ _ (hrow.alloc _)).mono ?_; rintro e w1 ⟨rfl, hrow1, hb1⟩)
      go_roundw
      case rel =>
        refine ⟨i + 1, hy, by go_num, hrow1.congr fun n hn => ?_, ?_⟩
        · simp only [gv]
          rw [enl_take hy]
          rfl
        · exact (hbl.alloc hbl.size _).trans (hb1.mono (Nat.le_refl _))
      case measure => simp [intOf]; omega
    · go_wp2
      go_ret
      refine ⟨w.heap.size, rfl, Nat.le_refl _, ?_, hbl⟩
      rw [show l.take i = l from List.take_of_length_le (by omega)] at hrow
      exact hrow
set_option maxRecDepth 100000 in
set_option maxHeartbeats 800000 in
theorem impl_grow (l : List Rc) (k : Int) (hk : 0 ≤ k ∧ k ≤ 10) (a : Option Addr) (cap : Nat) (w : World) (h : RectsAt w.heap.size w a l) (hn : l.length ≤ 1000000) (hok : ∀ r ∈ l, r.ok = true) :
    Calls Try.prog 99 #[.slice a l.length cap, .int .i64 k] w (RetS w (regionL (growG k (bitsOf l)))) := by
  rw [← growL_eq hk.1 hok]
  have HOK := hide hok
  clear hok
  go_enter Try.func99, Try.ntmps99
  go_wp2_with fail
  go_at_call 141
  refine (impl_grown l k hk _ _ _ h hn HOK.out).mono ?_
  rintro e w1 ⟨b1, rfl, _, r1, hb1⟩
  go_wp2_with fail
  go_at_call 89
  refine ((impl_region _ _ _ _ r1).mono fun _ _ => retS_of).mono ?_
  rintro e w2 ⟨a2, c2, rfl, ho2, hb2⟩
  go_wp2_with fail
  go_ret
  exact ⟨a2, c2, rfl, own_base ho2 hb1.size, bel_trans hb1 hb2⟩
set_option maxRecDepth 100000 in
set_option maxHeartbeats 1600000 in
theorem impl_shrink (l : List Rc) (k : Int) (hk : 0 ≤ k ∧ k ≤ 10) (a : Option Addr) (cap : Nat) (w : World) (h : RectsAt w.heap.size w a l) (hn : l.length ≤ 1000000) :
    Calls Try.prog 104 #[.slice a l.length cap, .int .i64 k] w (RetS w (regionL (shrinkG k (bitsOf l)))) := by
  rw [← shrinkL_eq hk.1]
  go_enter Try.func104, Try.ntmps104
  go_wp2_with fail
  go_at_call 88
  refine (impl_cellsOf l _ _ _ h hn).mono ?_
  rintro e w1 ⟨b1, rfl, _, r1, hb1⟩
  go_wp2_with fail
  go_at_call 110
  refine (impl_not _ _ _ _ r1).mono ?_
  rintro e w2 ⟨b2, rfl, _, r2, hb2⟩
  go_wp2_with fail
  go_at_call 89
  refine ((impl_region _ _ _ _ r2).mono fun _ _ => retS_of).mono ?_
  rintro e w3 ⟨a3, c3, rfl, ho3, hb3⟩
  go_wp2_with fail
  go_at_call 141
  refine (impl_grown _ k hk _ _ _ (rects_at ho3) (region_lenM _) (region_ok _)).mono ?_
  rintro e w4 ⟨b4, rfl, _, r4, hb4⟩
  go_wp2_with fail
  go_at_call 110
  refine (impl_not _ _ _ _ r4).mono ?_
  rintro e w5 ⟨b5, rfl, _, r5, hb5⟩
  go_wp2_with fail
  go_at_call 89
  refine ((impl_region _ _ _ _ r5).mono fun _ _ => retS_of).mono ?_
  rintro e w6 ⟨a6, c6, rfl, ho6, hb6⟩
  have hbl := bel_trans (bel_trans (bel3 hb1 hb2 hb3) hb4) hb5
  go_wp2_with fail
  go_ret
  exact ⟨a6, c6, rfl, own_base ho6 hbl.size, bel_trans hbl hb6⟩
set_option maxRecDepth 100000 in
set_option maxHeartbeats 800000 in
theorem spec_l05Grow (l : List Rc) (K : Nat) (hK : K ≤ 10) (a : Option Addr) (cap : Nat) (w : World) (h : RectsAt w.heap.size w a l) (hn : l.length ≤ 1000000) (hok : ∀ r ∈ l, r.ok = true) :
    Calls Try.prog 112 #[.slice a l.length cap, .int .i64 (K : Int)] w (RetS w (regionL (growG (K : Int) (bitsOf l)))) := by
  have HOK := hide hok
  clear hok
  go_enter Try.func112, Try.ntmps112
  go_wp2_with fail
  go_at_call 77
  refine (spec_l03Bits l _ _ _ h hn HOK.out).mono ?_
  rintro e w2 ⟨b2, rfl, _, r2, hb1⟩
  go_wp2_with fail
  go_at_call 107
  refine (spec_l05GrowBits _ _ _ K hK _ r2).mono ?_
  rintro e w3 ⟨b3, rfl, _, r3, hb2⟩
  go_wp2_with fail
  go_at_call 78
  refine ((spec_l03Canon _ _ _ _ r3).mono fun _ _ => retS_of).mono ?_
  rintro e w9 ⟨a9, c9, rfl, ho9, hb9⟩
  go_wp2_with fail
  go_ret
  exact ⟨a9, c9, rfl, own_base ho9 (bel_trans hb1 hb2).size, bel3 hb1 hb2 hb9⟩
set_option maxRecDepth 100000 in
set_option maxHeartbeats 1600000 in
theorem spec_Grow (l : List Rc) (k : Int) (a : Option Addr) (cap : Nat) (w : World) (h : RectsAt w.heap.size w a l) (hn : l.length ≤ 2000000) : Calls Try.prog 55 #[.slice a l.length cap, .int .i64 k] w (RetS w (growR k l)) := by
  unfold growR
  cases hv : isReg l
  · rw [szR_no (by simp [sizB, hv])]
    go_enter Try.func55, Try.ntmps55
    go_wp2_with fail
    go_at_call 75
    refine (spec_l03Ok l _ _ _ h hn).mono ?_
    rintro e w1 ⟨rfl, hb1⟩
    go_wp2_with fail
    go_ret
    exact retS_nil rfl hb1
  cases hk : inR k 0 10
  · rw [szR_no (by simp [sizB, hk])]
    go_enter Try.func55, Try.ntmps55
    go_wp2_with fail
    go_at_call 75
    refine (spec_l03Ok l _ _ _ h hn).mono ?_
    rintro e w1 ⟨rfl, hb1⟩
    go_wp2_with (go_at_call 106; refine (spec_l05Size _ _).mono ?_; rintro e w2 ⟨rfl, rfl⟩)
    go_ret
    exact retS_nil rfl hb1
  rw [szR_ok (by simp [sizB, hv, hk])]
  have hok := isReg_iff.1 hv
  have HOK := hide hok
  have hk2 := inR_iff.1 hk
  obtain ⟨K, rfl⟩ : ∃ K : Nat, k = (K : Int) := ⟨k.toNat, by omega⟩
  have hK : K ≤ 10 := by omega
  clear hok hk2
  go_enter Try.func55, Try.ntmps55
  go_wp2_with fail
  go_at_call 75
  refine (spec_l03Ok l _ _ _ h hn).mono ?_
  rintro e w1 ⟨rfl, hb1⟩
  go_wp2_with fail
  go_at_call 106
  refine (spec_l05Size _ _).mono ?_
  rintro e w1' ⟨rfl, rfl⟩
  have hh := h.kept hb1
  go_wp2_with fail
  go_at_call 112
  refine (spec_l05Grow l K hK _ _ _ hh (by have := HOK.out.1; omega) HOK.out.2.1).mono ?_
  rintro e w2 ⟨a2, c2, rfl, ho2, hb2⟩
  go_wp2_with fail
  go_ret
  exact ⟨a2, c2, rfl, own_base ho2 hb1.size, bel_trans hb1 hb2⟩
set_option maxRecDepth 100000 in
set_option maxHeartbeats 1600000 in
theorem spec_Opening (l : List Rc) (k : Int) (a : Option Addr) (cap : Nat) (w : World) (h : RectsAt w.heap.size w a l) (hn : l.length ≤ 2000000) : Calls Try.prog 50 #[.slice a l.length cap, .int .i64 k] w (RetS w (openR k l)) := by
  unfold openR
  cases hv : isReg l
  · rw [szR_no (by simp [sizB, hv])]
    go_enter Try.func50, Try.ntmps50
    go_wp2_with fail
    go_at_call 75
    refine (spec_l03Ok l _ _ _ h hn).mono ?_
    rintro e w1 ⟨rfl, hb1⟩
    go_wp2_with fail
    go_ret
    exact retS_nil rfl hb1
  cases hk : inR k 0 10
  · rw [szR_no (by simp [sizB, hk])]
    go_enter Try.func50, Try.ntmps50
    go_wp2_with fail
    go_at_call 75
    refine (spec_l03Ok l _ _ _ h hn).mono ?_
    rintro e w1 ⟨rfl, hb1⟩
    go_wp2_with (go_at_call 106; refine (spec_l05Size _ _).mono ?_; rintro e w2 ⟨rfl, rfl⟩)
    go_ret
    exact retS_nil rfl hb1
  rw [szR_ok (by simp [sizB, hv, hk])]
  have hok := isReg_iff.1 hv
  have HOK := hide hok
  have hk2 := inR_iff.1 hk
  obtain ⟨K, rfl⟩ : ∃ K : Nat, k = (K : Int) := ⟨k.toNat, by omega⟩
  have hK : K ≤ 10 := by omega
  clear hok hk2
  go_enter Try.func50, Try.ntmps50
  go_wp2_with fail
  go_at_call 75
  refine (spec_l03Ok l _ _ _ h hn).mono ?_
  rintro e w1 ⟨rfl, hb1⟩
  go_wp2_with fail
  go_at_call 106
  refine (spec_l05Size _ _).mono ?_
  rintro e w1' ⟨rfl, rfl⟩
  have hh := h.kept hb1
  go_wp2_with fail
  go_at_call 77
  refine (spec_l03Bits l _ _ _ hh (by have := HOK.out.1; omega) HOK.out.2.1).mono ?_
  rintro e w2 ⟨b2, rfl, _, r2, hb⟩
  have hbl := bel_trans hb1 hb
  clear hb hb1 hh
  go_wp2_with fail
  go_at_call 108
  refine (spec_l05ShrinkBits _ _ _ K hK _ r2).mono ?_
  rintro e w3 ⟨b3, rfl, _, r3, hb⟩
  replace hbl := bel_trans hbl hb
  clear hb
  go_wp2_with fail
  go_at_call 107
  refine (spec_l05GrowBits _ _ _ K hK _ r3).mono ?_
  rintro e w4 ⟨b4, rfl, _, r4, hb⟩
  replace hbl := bel_trans hbl hb
  clear hb
  go_wp2_with fail
  go_at_call 78
  refine ((spec_l03Canon _ _ _ _ r4).mono fun _ _ => retS_of).mono ?_
  rintro e w9 ⟨a9, c9, rfl, ho9, hb9⟩
  go_wp2_with fail
  go_ret
  exact ⟨a9, c9, rfl, own_base ho9 hbl.size, bel_trans hbl hb9⟩
theorem growG_congr' {k : Int} {g h : Grid} (e : GEq g h) : GEq (growG k g) (growG k h) := by rw [growG_congr e]; exact GEq.refl _
theorem shrinkG_congr' {k : Int} {g h : Grid} (e : GEq g h) : GEq (shrinkG k g) (shrinkG k h) := by rw [shrinkG_congr e]; exact GEq.refl _
set_option maxRecDepth 100000 in
set_option maxHeartbeats 1600000 in
theorem impl_Grow (l : List Rc) (k : Int) (a : Option Addr) (cap : Nat) (w : World) (h : RectsAt w.heap.size w a l) (hn : l.length ≤ 2000000) : Calls Try.prog 40 #[.slice a l.length cap, .int .i64 k] w (RetS w (growR k l)) := by
  unfold growR
  cases hv : sizB l k
  · rw [szR_no hv]
    go_enter Try.func40, Try.ntmps40
    go_wp2_with fail
    go_at_call 98
    refine (impl_sizable l k _ _ _ h hn).mono ?_
    rintro e w1 ⟨rfl, hb1⟩
    go_wp2_with fail
    go_ret
    exact retS_nil rfl hb1
  rw [szR_ok hv]
  have hv2 := hv
  rw [sizB, Bool.and_eq_true, inR_iff] at hv2
  have hok := isReg_iff.1 hv2.1
  have HOK := hide hok
  have HK := hide hv2.2
  clear hok hv2
  go_enter Try.func40, Try.ntmps40
  go_wp2_with fail
  go_at_call 98
  refine (impl_sizable l k _ _ _ h hn).mono ?_
  rintro e w1 ⟨rfl, hb1⟩
  have hh := h.kept hb1
  have hbl := hb1
  go_wp2_with fail
  go_at_call 99
  refine (impl_grow _ k HK.out _ _ _ hh (by have := HOK.out.1; omega) HOK.out.2.1).mono ?_
  rintro e w2 ⟨a1, c1, rfl, ho1, hb⟩
  replace ho1 := own_base ho1 hbl.size
  replace hbl := bel_trans hbl hb
  clear hb
  go_wp2_with fail
  go_ret
  exact ⟨a1, c1, rfl, ho1, hbl⟩
set_option maxRecDepth 100000 in
set_option maxHeartbeats 1600000 in
theorem impl_Shrink (l : List Rc) (k : Int) (a : Option Addr) (cap : Nat) (w : World) (h : RectsAt w.heap.size w a l) (hn : l.length ≤ 2000000) : Calls Try.prog 56 #[.slice a l.length cap, .int .i64 k] w (RetS w (shrinkR k l)) := by
  unfold shrinkR
  cases hv : sizB l k
  · rw [szR_no hv]
    go_enter Try.func56, Try.ntmps56
    go_wp2_with fail
    go_at_call 98
    refine (impl_sizable l k _ _ _ h hn).mono ?_
    rintro e w1 ⟨rfl, hb1⟩
    go_wp2_with fail
    go_ret
    exact retS_nil rfl hb1
  rw [szR_ok hv]
  have hv2 := hv
  rw [sizB, Bool.and_eq_true, inR_iff] at hv2
  have hok := isReg_iff.1 hv2.1
  have HOK := hide hok
  have HK := hide hv2.2
  clear hok hv2
  go_enter Try.func56, Try.ntmps56
  go_wp2_with fail
  go_at_call 98
  refine (impl_sizable l k _ _ _ h hn).mono ?_
  rintro e w1 ⟨rfl, hb1⟩
  have hh := h.kept hb1
  have hbl := hb1
  go_wp2_with fail
  go_at_call 104
  refine (impl_shrink _ k HK.out _ _ _ hh (by have := HOK.out.1; omega) ).mono ?_
  rintro e w2 ⟨a1, c1, rfl, ho1, hb⟩
  replace ho1 := own_base ho1 hbl.size
  replace hbl := bel_trans hbl hb
  clear hb
  go_wp2_with fail
  go_ret
  exact ⟨a1, c1, rfl, ho1, hbl⟩
set_option maxRecDepth 100000 in
set_option maxHeartbeats 1600000 in
theorem impl_Opening (l : List Rc) (k : Int) (a : Option Addr) (cap : Nat) (w : World) (h : RectsAt w.heap.size w a l) (hn : l.length ≤ 2000000) : Calls Try.prog 47 #[.slice a l.length cap, .int .i64 k] w (RetS w (openR k l)) := by
  unfold openR
  cases hv : sizB l k
  · rw [szR_no hv]
    go_enter Try.func47, Try.ntmps47
    go_wp2_with fail
    go_at_call 98
    refine (impl_sizable l k _ _ _ h hn).mono ?_
    rintro e w1 ⟨rfl, hb1⟩
    go_wp2_with fail
    go_ret
    exact retS_nil rfl hb1
  rw [szR_ok hv]
  have hv2 := hv
  rw [sizB, Bool.and_eq_true, inR_iff] at hv2
  have hok := isReg_iff.1 hv2.1
  have HOK := hide hok
  have HK := hide hv2.2
  clear hok hv2
  go_enter Try.func47, Try.ntmps47
  go_wp2_with fail
  go_at_call 98
  refine (impl_sizable l k _ _ _ h hn).mono ?_
  rintro e w1 ⟨rfl, hb1⟩
  have hh := h.kept hb1
  have hbl := hb1
  go_wp2_with fail
  go_at_call 104
  refine (impl_shrink _ k HK.out _ _ _ hh (by have := HOK.out.1; omega) ).mono ?_
  rintro e w2 ⟨a1, c1, rfl, ho1, hb⟩
  replace hbl := bel_trans hbl hb
  clear hb
  go_wp2_with fail
  go_at_call 99
  refine (impl_grow _ k HK.out _ _ _ (rects_at ho1) (region_lenM _) (region_ok _)).mono ?_
  rintro e w3 ⟨a2, c2, rfl, ho2, hb⟩
  rw [regionL_congr (show GEq _ _ from growG_congr' (bits_region _))] at ho2 ⊢
  replace ho2 := own_base ho2 hbl.size
  replace hbl := bel_trans hbl hb
  clear hb
  go_wp2_with fail
  go_ret
  exact ⟨a2, c2, rfl, ho2, hbl⟩
set_option maxRecDepth 100000 in
set_option maxHeartbeats 1600000 in
theorem impl_Closing (l : List Rc) (k : Int) (a : Option Addr) (cap : Nat) (w : World) (h : RectsAt w.heap.size w a l) (hn : l.length ≤ 2000000) : Calls Try.prog 48 #[.slice a l.length cap, .int .i64 k] w (RetS w (closeR k l)) := by
  unfold closeR
  cases hv : sizB l k
  · rw [szR_no hv]
    go_enter Try.func48, Try.ntmps48
    go_wp2_with fail
    go_at_call 98
    refine (impl_sizable l k _ _ _ h hn).mono ?_
    rintro e w1 ⟨rfl, hb1⟩
    go_wp2_with fail
    go_ret
    exact retS_nil rfl hb1
  rw [szR_ok hv]
  have hv2 := hv
  rw [sizB, Bool.and_eq_true, inR_iff] at hv2
  have hok := isReg_iff.1 hv2.1
  have HOK := hide hok
  have HK := hide hv2.2
  clear hok hv2
  go_enter Try.func48, Try.ntmps48
  go_wp2_with fail
  go_at_call 98
  refine (impl_sizable l k _ _ _ h hn).mono ?_
  rintro e w1 ⟨rfl, hb1⟩
  have hh := h.kept hb1
  have hbl := hb1
  go_wp2_with fail
  go_at_call 99
  refine (impl_grow _ k HK.out _ _ _ hh (by have := HOK.out.1; omega) HOK.out.2.1).mono ?_
  rintro e w2 ⟨a1, c1, rfl, ho1, hb⟩
  replace hbl := bel_trans hbl hb
  clear hb
  go_wp2_with fail
  go_at_call 104
  refine (impl_shrink _ k HK.out _ _ _ (rects_at ho1) (region_lenM _) ).mono ?_
  rintro e w3 ⟨a2, c2, rfl, ho2, hb⟩
  rw [regionL_congr (show GEq _ _ from shrinkG_congr' (bits_region _))] at ho2 ⊢
  replace ho2 := own_base ho2 hbl.size
  replace hbl := bel_trans hbl hb
  clear hb
  go_wp2_with fail
  go_ret
  exact ⟨a2, c2, rfl, ho2, hbl⟩
end Go.Proofs.Ytldgjocjcbhkmaa
