/- Contracts: the perimeter (the program). -/
import Derived.Test.YtldgjocjcbhkmabEdg6
namespace Go.Proofs.Ytldgjocjcbhkmab
open Go.RowKit
attribute [local go_sem high] run_max2 run_min2 run_max3 run_max4
attribute [local go_sem low] cell_alloc_ite frozen_alloc_ite

set_option maxRecDepth 100000 in
set_option maxHeartbeats 1600000 in
theorem impl_Perimeter (l : List Rc) (a : Option Addr) (cap : Nat) (w : World) (h : RectsAt w.heap.size w a l) (hn : l.length ≤ 2000000) : Calls Try.prog 8 #[.slice a l.length cap] w fun e w' => e = .returned (.int .i64 (perR l)) ∧ Below w.heap.size w w' := by
  cases hv : isReg l
  · have hr : perR l = -1 := by simp [perR, hv]
    rw [hr]
    have HV := hide hv
    clear hv hr
    go_enter Try.func8, Try.ntmps8
    go_wp2_with fail
    go_at_call 22
    refine (impl_IsRegion l _ _ _ h hn).mono ?_
    rintro e w1 ⟨he, hb1⟩
    rw [HV.out] at he
    subst he
    go_wp2_with fail
    go_ret
    exact ⟨rfl, hb1⟩
  · have hr : perR l = (sides (bitsOf l) : Int) := by simp [perR, hv]
    rw [hr]
    have HV := hide hv
    have HK := hide (isReg_iff.1 hv)
    clear hv hr
    go_enter Try.func8, Try.ntmps8
    go_wp2_with fail
    go_at_call 22
    refine (impl_IsRegion l _ _ _ h hn).mono ?_
    rintro e w1 ⟨he, hb1⟩
    rw [HV.out] at he
    subst he
    go_wp2_with fail
    go_at_call 23
    refine (impl_cellsOf l _ _ _ (h.kept hb1) (by have := HK.out.1; omega)).mono ?_
    rintro e w2 ⟨b2, rfl, _, hrow2, hb2⟩
    go_wp2_with fail
    go_at_call 24
    refine (impl_boundary _ _ w2 hrow2).mono ?_
    rintro e w3 ⟨a3, c3, he3, ho3, hb3⟩
    obtain ⟨L, HL⟩ : ∃ L, Hid (L = bndL (bitsOf l)) := ⟨_, rfl⟩
    rw [← HL.out] at he3 ho3
    subst he3
    have hbw := bel_trans (bel_trans hb1 hb2) hb3
    have hat := edges_at ho3
    have HVAL : Hid (∀ r ∈ L, vEdge r.x0 r.y0 r.x1 r.y1 = true) := by rw [Hid, HL.out]; exact bndL_valid _
    have HSUM : Hid (elenS L = (sides (bitsOf l) : Int)) := by rw [Hid, HL.out]; exact bndL_sum _
    have HLEN : Hid (L.length ≤ 12960) := by rw [Hid, HL.out]; exact bndL_len _
    clear hb1 hb2 hb3 hrow2 ho3 HK HV
    go_wp2_with fail
    go_loopw [3, 13] (fun s3 s wr => ∃ i : Nat, i ≤ L.length ∧ s = .int .i64 i ∧ s3 = .int .i64 (elenS (L.take i)) ∧ Below w3.heap.size w3 wr) (fun _ s _ => L.length - (intOf s).toNat)
    case atStart => exact ⟨0, Nat.zero_le _, rfl, rfl, Below.refl _ _⟩
    case round =>
      obtain ⟨i, hi, rfl, rfl, hbl⟩ := hrel
      by_cases hy : i < L.length
      · obtain ⟨g, ha, hg, c0, c1, c2, c3'⟩ := hat.below hbl (Nat.le_refl _) i L[i] (List.getElem?_eq_getElem hy)
        subst ha
        have hx1 : (i : Int) < (L.length : Int) := by omega
        have hbd := elenS_bounds HVAL.out i hi
        have hed := elen_bounds (HVAL.out L[i] (List.getElem_mem hy))
        have hln := HLEN.out
        obtain ⟨z, hz⟩ : ∃ z, z = elenS (L.take i) := ⟨_, rfl⟩
        obtain ⟨y, hyv⟩ : ∃ y, y = elen L[i] := ⟨_, rfl⟩
        rw [← hz] at hbd ⊢
        rw [← hyv] at hed
        obtain ⟨z0, z1⟩ := hbd
        obtain ⟨y0, y1⟩ := hed
        have HZ := hide hz
        have HY := hide hyv
        have hwr : IntKind.i64.wrap (z + y) = z + y := IntWalk.i64_in _ (by omega)
        clear hz hyv
        go_wp2_with fail
        go_at_call 25
        refine (impl_edgeLength _ _ _ _ (HVAL.out L[i] (List.getElem_mem hy)) _).mono ?_
        rintro e w5 ⟨he, hb5⟩
        rw [elen_elenF (HVAL.out L[i] (List.getElem_mem hy)), ← HY.out] at he
        subst he
        have hbb := bel_trans (bel_alloc hbl _) hb5
        go_wp2_with fail
        go_roundw
        case rel => exact ⟨i + 1, hy, by go_num, by rw [elenS_take hy, ← HZ.out, ← HY.out], hbb⟩
        case measure => simp [intOf]; omega
      · obtain rfl : i = L.length := by omega
        have hx1 : ¬ (L.length : Int) < (L.length : Int) := by omega
        have hs : elenS (L.take L.length) = (sides (bitsOf l) : Int) := by rw [List.take_length]; exact HSUM.out
        rw [hs]
        clear hs
        go_wp2_with fail
        go_ret
        exact ⟨rfl, bel_trans hbw hbl⟩
end Go.Proofs.Ytldgjocjcbhkmab
