/- Contracts: the outline of a region. -/
import Derived.Test.YtdnbocngbmbofabRegL
namespace Go.Proofs.Ytdnbocngbmbofab
open Go.RowKit
attribute [local go_sem low] cell_alloc_ite frozen_alloc_ite

def outG (k : Int) (g : Grid) : Grid := opG 4 g (shrinkG k g)
def outR (k : Int) (l : List Rc) : List Rc := szR outG k l
theorem opG_congr {op : Int} {g g' h h' : Grid} (a : GEq g g') (b : GEq h h') : GEq (opG op g h) (opG op g' h') := fun i j hi hj => by rw [opG, opG, a i j hi hj, b i j hi hj]
set_option maxRecDepth 100000 in
set_option maxHeartbeats 1600000 in
theorem spec_Outline (l : List Rc) (k : Int) (a : Option Addr) (cap : Nat) (w : World) (h : RectsAt w.heap.size w a l) (hn : l.length ≤ 2000000) : Calls Try.prog 33 #[.slice a l.length cap, .int .i64 k] w (RetS w (outR k l)) := by
  unfold outR
  cases hv : isReg l
  · rw [szR_no (by simp [sizB, hv])]
    go_enter Try.func33, Try.ntmps33
    go_wp2_with fail
    go_at_call 69
    refine (spec_l03Ok l _ _ _ h hn).mono ?_
    rintro e w1 ⟨rfl, hb1⟩
    go_wp2_with fail
    go_ret
    exact retS_nil rfl hb1
  cases hk : inR k 0 10
  · rw [szR_no (by simp [sizB, hk])]
    go_enter Try.func33, Try.ntmps33
    go_wp2_with fail
    go_at_call 69
    refine (spec_l03Ok l _ _ _ h hn).mono ?_
    rintro e w1 ⟨rfl, hb1⟩
    go_wp2_with (go_at_call 70; refine (spec_l05Size _ _).mono ?_; rintro e w2 ⟨rfl, rfl⟩)
    go_ret
    exact retS_nil rfl hb1
  rw [szR_ok (by simp [sizB, hv, hk])]
  have hok := isReg_iff.1 hv
  have HOK := hide hok
  have hk2 := inR_iff.1 hk
  obtain ⟨K, rfl⟩ : ∃ K : Nat, k = (K : Int) := ⟨k.toNat, by omega⟩
  have hK : K ≤ 10 := by omega
  clear hok hk2
  go_enter Try.func33, Try.ntmps33
  go_wp2_with fail
  go_at_call 69
  refine (spec_l03Ok l _ _ _ h hn).mono ?_
  rintro e w1 ⟨rfl, hb1⟩
  go_wp2_with fail
  go_at_call 70
  refine (spec_l05Size _ _).mono ?_
  rintro e w1' ⟨rfl, rfl⟩
  go_wp2_with fail
  go_at_call 71
  refine (spec_l03Bits l _ _ _ (h.kept hb1) (by have := HOK.out.1; omega) HOK.out.2.1).mono ?_
  rintro e w2 ⟨b2, rfl, _, r2, hb2⟩
  go_wp2_with fail
  go_at_call 89
  refine (spec_l05ShrinkBits _ _ _ K hK _ r2).mono ?_
  rintro e w3 ⟨b3, rfl, _, r3, hb3⟩
  go_wp2_with fail
  go_at_call 87
  refine (spec_l04Combine _ _ _ _ _ _ 4 (by omega) _ (rowIs_kept r2 hb3) r3).mono ?_
  rintro e w4 ⟨b4, rfl, _, r4, hb4⟩
  go_wp2_with fail
  go_at_call 74
  refine ((spec_l03Canon _ _ _ _ r4).mono fun _ _ => retS_of).mono ?_
  rintro e w9 ⟨a9, c9, rfl, ho9, hb9⟩
  have hbl := bel_trans (bel3 hb1 hb2 hb3) hb4
  go_wp2_with fail
  go_ret
  exact ⟨a9, c9, rfl, own_base ho9 hbl.size, bel_trans hbl hb9⟩
set_option maxRecDepth 100000 in
set_option maxHeartbeats 1600000 in
theorem impl_Outline (l : List Rc) (k : Int) (a : Option Addr) (cap : Nat) (w : World) (h : RectsAt w.heap.size w a l) (hn : l.length ≤ 2000000) : Calls Try.prog 34 #[.slice a l.length cap, .int .i64 k] w (RetS w (outR k l)) := by
  unfold outR
  cases hv : sizB l k
  · rw [szR_no hv]
    go_enter Try.func34, Try.ntmps34
    go_wp2_with fail
    go_at_call 76
    refine (impl_sizable l k _ _ _ h hn).mono ?_
    rintro e w1 ⟨rfl, hb1⟩
    go_wp2_with fail
    go_ret
    exact retS_nil rfl hb1
  rw [szR_ok hv]
  have hv2 := hv
  rw [sizB, Bool.and_eq_true, inR_iff] at hv2
  have hok := isReg_iff.1 hv2.1
  have HOK := hide hok
  have HK := hide hv2.2
  have hre : opR 4 l (regionL (shrinkG k (bitsOf l))) = regionL (outG k (bitsOf l)) := by
    rw [opR_ok (by rw [hv2.1, isReg_region]; rfl)]
    exact regionL_congr (opG_congr (GEq.refl _) (bits_region _))
  have HRE := hide hre
  clear hok hv2 hre
  go_enter Try.func34, Try.ntmps34
  go_wp2_with fail
  go_at_call 76
  refine (impl_sizable l k _ _ _ h hn).mono ?_
  rintro e w1 ⟨rfl, hb1⟩
  go_wp2_with fail
  go_at_call 90
  refine (impl_shrink l k HK.out _ _ _ (h.kept hb1) (by have := HOK.out.1; omega)).mono ?_
  rintro e w2 ⟨a2, c2, rfl, ho2, hb2⟩
  go_wp2_with fail
  go_at_call 62
  refine (impl_Difference l _ _ _ _ _ _ ((h.kept hb1).kept hb2) (rects_at ho2) hn (region_lenN _)).mono ?_
  rintro e w3 ⟨a3, c3, he, ho3, hb3⟩
  rw [HRE.out] at he ho3
  subst he
  have hbl := bel_trans hb1 hb2
  go_wp2_with fail
  go_ret
  exact ⟨a3, c3, rfl, own_base ho3 hbl.size, bel_trans hbl hb3⟩
end Go.Proofs.Ytdnbocngbmbofab
